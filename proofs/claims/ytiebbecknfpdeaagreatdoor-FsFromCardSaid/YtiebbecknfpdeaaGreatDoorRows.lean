/-
  NARROWER THAN 'FOR EVERY INPUT', by the rows' own cells (each row's printed sentence says how): WalkAsks: laid · WalkOrders: laid · WalkFaults: laid · FsGone: laid · FsFaults: laid · FsTimes: laid · FsLinks: laid · FsPaths: laid · FsQuota: laid · FsFrom: laid · FsPlays: laid.
  DERIVED. THE GIVEN ROWS OF THIS SEAT. 11 by the template 'for every input the law returns true; each argument reads behind the call as it read before'; 0 by the template 'total and deterministic' (their statements: YtiebbecknfpdeaaGreatDoorTotals.lean).
  GIVEN WITH THE SEED: the statements are not yours to turn. If you find one false, say at which input.
  Laid BY PROGRAM, IN A SANDBOX (cutbox-rows.mjs): the forced cells as the released guide's own fill.sh prints them over the translation 867233849723066a… (all of the seat's roots in one cut). By AI agents, Wed Nov 11 2026. No macro, syntax, notation, axiom, sorry.
-/
import Derived.Test.YtiebbecknfpdeaaGreatDoorChecked
import GoSem.PinnedTables
import GoSem.Claim
import GoSem.ClaimJoined
import GoSem.ClaimMapViews
import Derived.JoinedTies
import Derived.KernelRfl
namespace Go.Proofs.YtiebbecknfpdeaaGreatDoor
/- THE CELL 'sum', in the pinned program and in every row, IS THE sha256 OF THE DUMP (.gsa) THAT YtiebbecknfpdeaaGreatDoorProg.lean LOADS. Nothing in Lean hashes anything: it is a label: what it is worth is what the hold of that sum in a sandbox is worth. -/
noncomputable def Tryz.pinned : Pinned := { name := "ytiebbecknfpdeaagreatdoor", sum := "867233849723066a24939d4cc534841d5732170cbff6e9bbd84316d2002a596e", checked := Tryz.checked }
namespace Rows
def none {H : Type} : Left H := { results := [], args := [] }

/- WHAT THE LISTED PACKAGE-LEVEL VARIABLES READ AS WHEN THE CALL BEGINS. Each datum BY PROGRAM (the guide's laid-datum.mjs) off the statement by which the dump's own 'gosem.cut.vars' lays the variable. In a bare row this is a premise. The card (YtiebbecknfpdeaaGreatDoorCards.lean) ties it to the program's text. -/
def laid_unicode_utf8_acceptRanges {H : Type} : DataW H := .agg [.agg [.lit (.int .u8 128), .lit (.int .u8 191)], .agg [.lit (.int .u8 160), .lit (.int .u8 191)], .agg [.lit (.int .u8 128), .lit (.int .u8 159)], .agg [.lit (.int .u8 144), .lit (.int .u8 191)], .agg [.lit (.int .u8 128), .lit (.int .u8 143)], .agg [.lit (.int .u8 0), .lit (.int .u8 0)], .agg [.lit (.int .u8 0), .lit (.int .u8 0)], .agg [.lit (.int .u8 0), .lit (.int .u8 0)], .agg [.lit (.int .u8 0), .lit (.int .u8 0)], .agg [.lit (.int .u8 0), .lit (.int .u8 0)], .agg [.lit (.int .u8 0), .lit (.int .u8 0)], .agg [.lit (.int .u8 0), .lit (.int .u8 0)], .agg [.lit (.int .u8 0), .lit (.int .u8 0)], .agg [.lit (.int .u8 0), .lit (.int .u8 0)], .agg [.lit (.int .u8 0), .lit (.int .u8 0)], .agg [.lit (.int .u8 0), .lit (.int .u8 0)]]
/-- One of Go's own tables, pinned by name: the form's constant. -/
def laid_unicode_utf8_first : DataW Unit := Go.Pinned.utf8First

/-- 'steamerlaw8.WalkAsks': WHATEVER THE INPUT: true; the input reads as it did. -/
def walkAsksSpec : ChangeSpec := { name := "walkAsks", fn := fun _ => fun
  | [d1, d2, d3, d4, d5] => { results := [.lit (.bool true)], args := [d1, d2, d3, d4, d5] }
  | _ => none }
def walkAsksRow : OpenClaim := { program := "ytiebbecknfpdeaagreatdoor", sum := "867233849723066a24939d4cc534841d5732170cbff6e9bbd84316d2002a596e", func := "steamer/steamerlaw8.WalkAsks", spec := "walkAsks", inPlace := ["internal/bytealg.IndexByteString", "internal/bytealg.IndexString", "slices.overlaps[steamer/api.Entry]", "internal/bytealg.CountString"], unfollowed := true, recurses := true, named := ["internal/bytealg.MaxLen", "unicode/utf8.first", "unicode/utf8.acceptRanges"], apart := false, laid := [("unicode/utf8.acceptRanges", laid_unicode_utf8_acceptRanges), ("unicode/utf8.first", laid_unicode_utf8_first)] }
def WalkAsksSaid : Prop := walkAsksRow.holds Tryz.pinned (OpenSpec.ofChange walkAsksSpec)

/-- ITS FALSE NEIGHBOUR: 'it returns false'. Refute it at one input. -/
def walkAsksWrong : ChangeSpec := { name := "walkAsks", fn := fun _ => fun
  | [d1, d2, d3, d4, d5] => { results := [.lit (.bool false)], args := [d1, d2, d3, d4, d5] }
  | _ => none }
def WalkAsksWrongFalsely : Prop := walkAsksRow.holds Tryz.pinned (OpenSpec.ofChange walkAsksWrong)

/-- 'steamerlaw8.WalkOrders': WHATEVER THE INPUT: true; the input reads as it did. -/
def walkOrdersSpec : ChangeSpec := { name := "walkOrders", fn := fun _ => fun
  | [d1, d2, d3] => { results := [.lit (.bool true)], args := [d1, d2, d3] }
  | _ => none }
def walkOrdersRow : OpenClaim := { program := "ytiebbecknfpdeaagreatdoor", sum := "867233849723066a24939d4cc534841d5732170cbff6e9bbd84316d2002a596e", func := "steamer/steamerlaw8.WalkOrders", spec := "walkOrders", inPlace := ["internal/bytealg.IndexByteString", "internal/bytealg.IndexString", "internal/bytealg.CountString", "slices.overlaps[steamer/api.Entry]"], unfollowed := true, recurses := true, named := ["internal/bytealg.MaxLen", "unicode/utf8.first", "unicode/utf8.acceptRanges"], apart := false, laid := [("unicode/utf8.acceptRanges", laid_unicode_utf8_acceptRanges), ("unicode/utf8.first", laid_unicode_utf8_first)] }
def WalkOrdersSaid : Prop := walkOrdersRow.holds Tryz.pinned (OpenSpec.ofChange walkOrdersSpec)

/-- ITS FALSE NEIGHBOUR: 'it returns false'. Refute it at one input. -/
def walkOrdersWrong : ChangeSpec := { name := "walkOrders", fn := fun _ => fun
  | [d1, d2, d3] => { results := [.lit (.bool false)], args := [d1, d2, d3] }
  | _ => none }
def WalkOrdersWrongFalsely : Prop := walkOrdersRow.holds Tryz.pinned (OpenSpec.ofChange walkOrdersWrong)

/-- 'steamerlaw8.WalkFaults': WHATEVER THE INPUT: true; the input reads as it did. -/
def walkFaultsSpec : ChangeSpec := { name := "walkFaults", fn := fun _ => fun
  | [d1, d2, d3] => { results := [.lit (.bool true)], args := [d1, d2, d3] }
  | _ => none }
def walkFaultsRow : OpenClaim := { program := "ytiebbecknfpdeaagreatdoor", sum := "867233849723066a24939d4cc534841d5732170cbff6e9bbd84316d2002a596e", func := "steamer/steamerlaw8.WalkFaults", spec := "walkFaults", inPlace := ["internal/bytealg.IndexByteString", "internal/bytealg.IndexString", "internal/bytealg.CountString", "slices.overlaps[steamer/api.Entry]"], unfollowed := true, recurses := true, named := ["internal/bytealg.MaxLen", "unicode/utf8.first", "unicode/utf8.acceptRanges"], apart := false, laid := [("unicode/utf8.acceptRanges", laid_unicode_utf8_acceptRanges), ("unicode/utf8.first", laid_unicode_utf8_first)] }
def WalkFaultsSaid : Prop := walkFaultsRow.holds Tryz.pinned (OpenSpec.ofChange walkFaultsSpec)

/-- ITS FALSE NEIGHBOUR: 'it returns false'. Refute it at one input. -/
def walkFaultsWrong : ChangeSpec := { name := "walkFaults", fn := fun _ => fun
  | [d1, d2, d3] => { results := [.lit (.bool false)], args := [d1, d2, d3] }
  | _ => none }
def WalkFaultsWrongFalsely : Prop := walkFaultsRow.holds Tryz.pinned (OpenSpec.ofChange walkFaultsWrong)

/-- 'steamerlaw7.FsGone': WHATEVER THE INPUT: true; the input reads as it did. -/
def fsGoneSpec : ChangeSpec := { name := "fsGone", fn := fun _ => fun
  | [d] => { results := [.lit (.bool true)], args := [d] }
  | _ => none }
def fsGoneRow : OpenClaim := { program := "ytiebbecknfpdeaagreatdoor", sum := "867233849723066a24939d4cc534841d5732170cbff6e9bbd84316d2002a596e", func := "steamer/steamerlaw7.FsGone", spec := "fsGone", inPlace := ["internal/bytealg.IndexByteString", "internal/bytealg.IndexString", "internal/bytealg.CountString", "slices.overlaps[steamer/api.Entry]"], unfollowed := true, recurses := true, named := ["internal/bytealg.MaxLen", "unicode/utf8.first", "unicode/utf8.acceptRanges"], apart := false, laid := [("unicode/utf8.acceptRanges", laid_unicode_utf8_acceptRanges), ("unicode/utf8.first", laid_unicode_utf8_first)] }
def FsGoneSaid : Prop := fsGoneRow.holds Tryz.pinned (OpenSpec.ofChange fsGoneSpec)

/-- ITS FALSE NEIGHBOUR: 'it returns false'. Refute it at one input. -/
def fsGoneWrong : ChangeSpec := { name := "fsGone", fn := fun _ => fun
  | [d] => { results := [.lit (.bool false)], args := [d] }
  | _ => none }
def FsGoneWrongFalsely : Prop := fsGoneRow.holds Tryz.pinned (OpenSpec.ofChange fsGoneWrong)

/-- 'steamerlaw7.FsFaults': WHATEVER THE INPUT: true; the input reads as it did. -/
def fsFaultsSpec : ChangeSpec := { name := "fsFaults", fn := fun _ => fun
  | [d1, d2, d3] => { results := [.lit (.bool true)], args := [d1, d2, d3] }
  | _ => none }
def fsFaultsRow : OpenClaim := { program := "ytiebbecknfpdeaagreatdoor", sum := "867233849723066a24939d4cc534841d5732170cbff6e9bbd84316d2002a596e", func := "steamer/steamerlaw7.FsFaults", spec := "fsFaults", inPlace := ["internal/bytealg.IndexByteString", "internal/bytealg.IndexString", "slices.overlaps[steamer/api.Entry]", "internal/bytealg.CountString"], unfollowed := true, recurses := true, named := ["internal/bytealg.MaxLen", "unicode/utf8.first", "unicode/utf8.acceptRanges"], apart := false, laid := [("unicode/utf8.acceptRanges", laid_unicode_utf8_acceptRanges), ("unicode/utf8.first", laid_unicode_utf8_first)] }
def FsFaultsSaid : Prop := fsFaultsRow.holds Tryz.pinned (OpenSpec.ofChange fsFaultsSpec)

/-- ITS FALSE NEIGHBOUR: 'it returns false'. Refute it at one input. -/
def fsFaultsWrong : ChangeSpec := { name := "fsFaults", fn := fun _ => fun
  | [d1, d2, d3] => { results := [.lit (.bool false)], args := [d1, d2, d3] }
  | _ => none }
def FsFaultsWrongFalsely : Prop := fsFaultsRow.holds Tryz.pinned (OpenSpec.ofChange fsFaultsWrong)

/-- 'steamerlaw7.FsTimes': WHATEVER THE INPUT: true; the input reads as it did. -/
def fsTimesSpec : ChangeSpec := { name := "fsTimes", fn := fun _ => fun
  | [d1, d2] => { results := [.lit (.bool true)], args := [d1, d2] }
  | _ => none }
def fsTimesRow : OpenClaim := { program := "ytiebbecknfpdeaagreatdoor", sum := "867233849723066a24939d4cc534841d5732170cbff6e9bbd84316d2002a596e", func := "steamer/steamerlaw7.FsTimes", spec := "fsTimes", inPlace := ["internal/bytealg.IndexByteString", "internal/bytealg.IndexString", "internal/bytealg.CountString", "slices.overlaps[steamer/api.Entry]"], unfollowed := true, recurses := true, named := ["internal/bytealg.MaxLen", "unicode/utf8.first", "unicode/utf8.acceptRanges"], apart := false, laid := [("unicode/utf8.acceptRanges", laid_unicode_utf8_acceptRanges), ("unicode/utf8.first", laid_unicode_utf8_first)] }
def FsTimesSaid : Prop := fsTimesRow.holds Tryz.pinned (OpenSpec.ofChange fsTimesSpec)

/-- ITS FALSE NEIGHBOUR: 'it returns false'. Refute it at one input. -/
def fsTimesWrong : ChangeSpec := { name := "fsTimes", fn := fun _ => fun
  | [d1, d2] => { results := [.lit (.bool false)], args := [d1, d2] }
  | _ => none }
def FsTimesWrongFalsely : Prop := fsTimesRow.holds Tryz.pinned (OpenSpec.ofChange fsTimesWrong)

/-- 'steamerlaw7.FsLinks': WHATEVER THE INPUT: true; the input reads as it did. -/
def fsLinksSpec : ChangeSpec := { name := "fsLinks", fn := fun _ => fun
  | [d1, d2, d3, d4] => { results := [.lit (.bool true)], args := [d1, d2, d3, d4] }
  | _ => none }
def fsLinksRow : OpenClaim := { program := "ytiebbecknfpdeaagreatdoor", sum := "867233849723066a24939d4cc534841d5732170cbff6e9bbd84316d2002a596e", func := "steamer/steamerlaw7.FsLinks", spec := "fsLinks", inPlace := ["internal/bytealg.IndexByteString", "internal/bytealg.IndexString", "slices.overlaps[steamer/api.Entry]", "internal/bytealg.CountString"], unfollowed := true, recurses := true, named := ["internal/bytealg.MaxLen", "unicode/utf8.first", "unicode/utf8.acceptRanges"], apart := false, laid := [("unicode/utf8.acceptRanges", laid_unicode_utf8_acceptRanges), ("unicode/utf8.first", laid_unicode_utf8_first)] }
def FsLinksSaid : Prop := fsLinksRow.holds Tryz.pinned (OpenSpec.ofChange fsLinksSpec)

/-- ITS FALSE NEIGHBOUR: 'it returns false'. Refute it at one input. -/
def fsLinksWrong : ChangeSpec := { name := "fsLinks", fn := fun _ => fun
  | [d1, d2, d3, d4] => { results := [.lit (.bool false)], args := [d1, d2, d3, d4] }
  | _ => none }
def FsLinksWrongFalsely : Prop := fsLinksRow.holds Tryz.pinned (OpenSpec.ofChange fsLinksWrong)

/-- 'steamerlaw7.FsPaths': WHATEVER THE INPUT: true; the input reads as it did. -/
def fsPathsSpec : ChangeSpec := { name := "fsPaths", fn := fun _ => fun
  | [d1, d2] => { results := [.lit (.bool true)], args := [d1, d2] }
  | _ => none }
def fsPathsRow : OpenClaim := { program := "ytiebbecknfpdeaagreatdoor", sum := "867233849723066a24939d4cc534841d5732170cbff6e9bbd84316d2002a596e", func := "steamer/steamerlaw7.FsPaths", spec := "fsPaths", inPlace := ["internal/bytealg.IndexByteString", "internal/bytealg.IndexString", "slices.overlaps[steamer/api.Entry]", "internal/bytealg.CountString"], unfollowed := true, recurses := true, named := ["internal/bytealg.MaxLen", "unicode/utf8.first", "unicode/utf8.acceptRanges"], apart := false, laid := [("unicode/utf8.acceptRanges", laid_unicode_utf8_acceptRanges), ("unicode/utf8.first", laid_unicode_utf8_first)] }
def FsPathsSaid : Prop := fsPathsRow.holds Tryz.pinned (OpenSpec.ofChange fsPathsSpec)

/-- ITS FALSE NEIGHBOUR: 'it returns false'. Refute it at one input. -/
def fsPathsWrong : ChangeSpec := { name := "fsPaths", fn := fun _ => fun
  | [d1, d2] => { results := [.lit (.bool false)], args := [d1, d2] }
  | _ => none }
def FsPathsWrongFalsely : Prop := fsPathsRow.holds Tryz.pinned (OpenSpec.ofChange fsPathsWrong)

/-- 'steamerlaw7.FsQuota': WHATEVER THE INPUT: true; the input reads as it did. -/
def fsQuotaSpec : ChangeSpec := { name := "fsQuota", fn := fun _ => fun
  | [d1, d2] => { results := [.lit (.bool true)], args := [d1, d2] }
  | _ => none }
def fsQuotaRow : OpenClaim := { program := "ytiebbecknfpdeaagreatdoor", sum := "867233849723066a24939d4cc534841d5732170cbff6e9bbd84316d2002a596e", func := "steamer/steamerlaw7.FsQuota", spec := "fsQuota", inPlace := ["internal/bytealg.IndexByteString", "internal/bytealg.IndexString", "slices.overlaps[steamer/api.Entry]", "internal/bytealg.CountString"], unfollowed := true, recurses := true, named := ["internal/bytealg.MaxLen", "unicode/utf8.first", "unicode/utf8.acceptRanges"], apart := false, laid := [("unicode/utf8.acceptRanges", laid_unicode_utf8_acceptRanges), ("unicode/utf8.first", laid_unicode_utf8_first)] }
def FsQuotaSaid : Prop := fsQuotaRow.holds Tryz.pinned (OpenSpec.ofChange fsQuotaSpec)

/-- ITS FALSE NEIGHBOUR: 'it returns false'. Refute it at one input. -/
def fsQuotaWrong : ChangeSpec := { name := "fsQuota", fn := fun _ => fun
  | [d1, d2] => { results := [.lit (.bool false)], args := [d1, d2] }
  | _ => none }
def FsQuotaWrongFalsely : Prop := fsQuotaRow.holds Tryz.pinned (OpenSpec.ofChange fsQuotaWrong)

/-- 'steamerlaw7.FsFrom': WHATEVER THE INPUT: true; the input reads as it did. -/
def fsFromSpec : ChangeSpec := { name := "fsFrom", fn := fun _ => fun
  | [d1, d2, d3] => { results := [.lit (.bool true)], args := [d1, d2, d3] }
  | _ => none }
def fsFromRow : OpenClaim := { program := "ytiebbecknfpdeaagreatdoor", sum := "867233849723066a24939d4cc534841d5732170cbff6e9bbd84316d2002a596e", func := "steamer/steamerlaw7.FsFrom", spec := "fsFrom", inPlace := ["internal/bytealg.IndexByteString", "internal/bytealg.IndexString", "slices.overlaps[steamer/api.Entry]", "internal/bytealg.CountString"], unfollowed := true, recurses := true, named := ["internal/bytealg.MaxLen", "unicode/utf8.first", "unicode/utf8.acceptRanges"], apart := false, laid := [("unicode/utf8.acceptRanges", laid_unicode_utf8_acceptRanges), ("unicode/utf8.first", laid_unicode_utf8_first)] }
def FsFromSaid : Prop := fsFromRow.holds Tryz.pinned (OpenSpec.ofChange fsFromSpec)

/-- ITS FALSE NEIGHBOUR: 'it returns false'. Refute it at one input. -/
def fsFromWrong : ChangeSpec := { name := "fsFrom", fn := fun _ => fun
  | [d1, d2, d3] => { results := [.lit (.bool false)], args := [d1, d2, d3] }
  | _ => none }
def FsFromWrongFalsely : Prop := fsFromRow.holds Tryz.pinned (OpenSpec.ofChange fsFromWrong)

/-- 'steamerlaw7.FsPlays': WHATEVER THE INPUT: true; the input reads as it did. -/
def fsPlaysSpec : ChangeSpec := { name := "fsPlays", fn := fun _ => fun
  | [d1, d2, d3] => { results := [.lit (.bool true)], args := [d1, d2, d3] }
  | _ => none }
def fsPlaysRow : OpenClaim := { program := "ytiebbecknfpdeaagreatdoor", sum := "867233849723066a24939d4cc534841d5732170cbff6e9bbd84316d2002a596e", func := "steamer/steamerlaw7.FsPlays", spec := "fsPlays", inPlace := ["internal/bytealg.IndexByteString", "internal/bytealg.IndexString", "slices.overlaps[steamer/api.Entry]", "internal/bytealg.CountString"], unfollowed := true, recurses := true, named := ["internal/bytealg.MaxLen", "unicode/utf8.first", "unicode/utf8.acceptRanges"], apart := false, laid := [("unicode/utf8.acceptRanges", laid_unicode_utf8_acceptRanges), ("unicode/utf8.first", laid_unicode_utf8_first)] }
def FsPlaysSaid : Prop := fsPlaysRow.holds Tryz.pinned (OpenSpec.ofChange fsPlaysSpec)

/-- ITS FALSE NEIGHBOUR: 'it returns false'. Refute it at one input. -/
def fsPlaysWrong : ChangeSpec := { name := "fsPlays", fn := fun _ => fun
  | [d1, d2, d3] => { results := [.lit (.bool false)], args := [d1, d2, d3] }
  | _ => none }
def FsPlaysWrongFalsely : Prop := fsPlaysRow.holds Tryz.pinned (OpenSpec.ofChange fsPlaysWrong)

/- THE SECOND FORM. 'bulk': how many values and letters a reading holds, each counted each time it is reached (what is shared counts as often as it is met; a slice's spare places count too). A statement '..UptoSaid' is the law's where the arguments, and the package variables that the reading takes, are together of bulk at most 1048576: NARROWER than '..Said'. Prove '..Said' where nothing that the law and all that it calls make is longer than what came in: it says more and counts as full. Else prove '..UptoSaid'. A law counts once. -/
mutual
def uptoBulk {H : Type} : DataW H → Nat
  | .lit (.string bytes) => bytes.length + 1
  | .lit _ => 1
  | .nil => 1
  | .ptr d => uptoBulk d + 1
  | .slice elems spare => uptoBulkAll elems + uptoBulkAll spare + 1
  | .agg parts => uptoBulkAll parts + 1
  | .iface _ d => uptoBulk d + 1
  | .map entries => uptoBulkEntries entries + 1
  | .held _ => 1
def uptoBulkAll {H : Type} : List (DataW H) → Nat
  | [] => 0
  | d :: r => uptoBulk d + uptoBulkAll r
def uptoBulkEntries {H : Type} : List (Lit × DataW H) → Nat
  | [] => 0
  | x :: r => uptoBulkEntry x + uptoBulkEntries r
def uptoBulkEntry {H : Type} : Lit × DataW H → Nat
  | (.string bytes, d) => bytes.length + uptoBulk d + 1
  | (_, d) => uptoBulk d + 1
 end
def uptoSmall : (H : Type) → List (DataW H) → Bool := fun _ ds => decide (uptoBulkAll ds ≤ 1048576)
def OpenSpec.upto (s : _root_.Go.ChangeSpec) : _root_.Go.OpenSpec := { _root_.Go.OpenSpec.ofChange s with cond := some uptoSmall }

/-- 'steamerlaw8.WalkAsks', WHERE WHAT IT READS IS OF BULK AT MOST 1048576: true; the input reads as it did. -/
def walkAsksUptoRow : OpenClaim := { program := "ytiebbecknfpdeaagreatdoor", sum := "867233849723066a24939d4cc534841d5732170cbff6e9bbd84316d2002a596e", func := "steamer/steamerlaw8.WalkAsks", spec := "walkAsks", inPlace := ["internal/bytealg.IndexByteString", "internal/bytealg.IndexString", "slices.overlaps[steamer/api.Entry]", "internal/bytealg.CountString"], unfollowed := true, recurses := true, named := ["internal/bytealg.MaxLen", "unicode/utf8.first", "unicode/utf8.acceptRanges"], apart := false, laid := [("unicode/utf8.acceptRanges", laid_unicode_utf8_acceptRanges), ("unicode/utf8.first", laid_unicode_utf8_first)], narrowed := true }
def WalkAsksUptoSaid : Prop := walkAsksUptoRow.holds Tryz.pinned (OpenSpec.upto walkAsksSpec)

/-- 'steamerlaw8.WalkOrders', WHERE WHAT IT READS IS OF BULK AT MOST 1048576: true; the input reads as it did. -/
def walkOrdersUptoRow : OpenClaim := { program := "ytiebbecknfpdeaagreatdoor", sum := "867233849723066a24939d4cc534841d5732170cbff6e9bbd84316d2002a596e", func := "steamer/steamerlaw8.WalkOrders", spec := "walkOrders", inPlace := ["internal/bytealg.IndexByteString", "internal/bytealg.IndexString", "internal/bytealg.CountString", "slices.overlaps[steamer/api.Entry]"], unfollowed := true, recurses := true, named := ["internal/bytealg.MaxLen", "unicode/utf8.first", "unicode/utf8.acceptRanges"], apart := false, laid := [("unicode/utf8.acceptRanges", laid_unicode_utf8_acceptRanges), ("unicode/utf8.first", laid_unicode_utf8_first)], narrowed := true }
def WalkOrdersUptoSaid : Prop := walkOrdersUptoRow.holds Tryz.pinned (OpenSpec.upto walkOrdersSpec)

/-- 'steamerlaw8.WalkFaults', WHERE WHAT IT READS IS OF BULK AT MOST 1048576: true; the input reads as it did. -/
def walkFaultsUptoRow : OpenClaim := { program := "ytiebbecknfpdeaagreatdoor", sum := "867233849723066a24939d4cc534841d5732170cbff6e9bbd84316d2002a596e", func := "steamer/steamerlaw8.WalkFaults", spec := "walkFaults", inPlace := ["internal/bytealg.IndexByteString", "internal/bytealg.IndexString", "internal/bytealg.CountString", "slices.overlaps[steamer/api.Entry]"], unfollowed := true, recurses := true, named := ["internal/bytealg.MaxLen", "unicode/utf8.first", "unicode/utf8.acceptRanges"], apart := false, laid := [("unicode/utf8.acceptRanges", laid_unicode_utf8_acceptRanges), ("unicode/utf8.first", laid_unicode_utf8_first)], narrowed := true }
def WalkFaultsUptoSaid : Prop := walkFaultsUptoRow.holds Tryz.pinned (OpenSpec.upto walkFaultsSpec)

/-- 'steamerlaw7.FsGone', WHERE WHAT IT READS IS OF BULK AT MOST 1048576: true; the input reads as it did. -/
def fsGoneUptoRow : OpenClaim := { program := "ytiebbecknfpdeaagreatdoor", sum := "867233849723066a24939d4cc534841d5732170cbff6e9bbd84316d2002a596e", func := "steamer/steamerlaw7.FsGone", spec := "fsGone", inPlace := ["internal/bytealg.IndexByteString", "internal/bytealg.IndexString", "internal/bytealg.CountString", "slices.overlaps[steamer/api.Entry]"], unfollowed := true, recurses := true, named := ["internal/bytealg.MaxLen", "unicode/utf8.first", "unicode/utf8.acceptRanges"], apart := false, laid := [("unicode/utf8.acceptRanges", laid_unicode_utf8_acceptRanges), ("unicode/utf8.first", laid_unicode_utf8_first)], narrowed := true }
def FsGoneUptoSaid : Prop := fsGoneUptoRow.holds Tryz.pinned (OpenSpec.upto fsGoneSpec)

/-- 'steamerlaw7.FsFaults', WHERE WHAT IT READS IS OF BULK AT MOST 1048576: true; the input reads as it did. -/
def fsFaultsUptoRow : OpenClaim := { program := "ytiebbecknfpdeaagreatdoor", sum := "867233849723066a24939d4cc534841d5732170cbff6e9bbd84316d2002a596e", func := "steamer/steamerlaw7.FsFaults", spec := "fsFaults", inPlace := ["internal/bytealg.IndexByteString", "internal/bytealg.IndexString", "slices.overlaps[steamer/api.Entry]", "internal/bytealg.CountString"], unfollowed := true, recurses := true, named := ["internal/bytealg.MaxLen", "unicode/utf8.first", "unicode/utf8.acceptRanges"], apart := false, laid := [("unicode/utf8.acceptRanges", laid_unicode_utf8_acceptRanges), ("unicode/utf8.first", laid_unicode_utf8_first)], narrowed := true }
def FsFaultsUptoSaid : Prop := fsFaultsUptoRow.holds Tryz.pinned (OpenSpec.upto fsFaultsSpec)

/-- 'steamerlaw7.FsTimes', WHERE WHAT IT READS IS OF BULK AT MOST 1048576: true; the input reads as it did. -/
def fsTimesUptoRow : OpenClaim := { program := "ytiebbecknfpdeaagreatdoor", sum := "867233849723066a24939d4cc534841d5732170cbff6e9bbd84316d2002a596e", func := "steamer/steamerlaw7.FsTimes", spec := "fsTimes", inPlace := ["internal/bytealg.IndexByteString", "internal/bytealg.IndexString", "internal/bytealg.CountString", "slices.overlaps[steamer/api.Entry]"], unfollowed := true, recurses := true, named := ["internal/bytealg.MaxLen", "unicode/utf8.first", "unicode/utf8.acceptRanges"], apart := false, laid := [("unicode/utf8.acceptRanges", laid_unicode_utf8_acceptRanges), ("unicode/utf8.first", laid_unicode_utf8_first)], narrowed := true }
def FsTimesUptoSaid : Prop := fsTimesUptoRow.holds Tryz.pinned (OpenSpec.upto fsTimesSpec)

/-- 'steamerlaw7.FsLinks', WHERE WHAT IT READS IS OF BULK AT MOST 1048576: true; the input reads as it did. -/
def fsLinksUptoRow : OpenClaim := { program := "ytiebbecknfpdeaagreatdoor", sum := "867233849723066a24939d4cc534841d5732170cbff6e9bbd84316d2002a596e", func := "steamer/steamerlaw7.FsLinks", spec := "fsLinks", inPlace := ["internal/bytealg.IndexByteString", "internal/bytealg.IndexString", "slices.overlaps[steamer/api.Entry]", "internal/bytealg.CountString"], unfollowed := true, recurses := true, named := ["internal/bytealg.MaxLen", "unicode/utf8.first", "unicode/utf8.acceptRanges"], apart := false, laid := [("unicode/utf8.acceptRanges", laid_unicode_utf8_acceptRanges), ("unicode/utf8.first", laid_unicode_utf8_first)], narrowed := true }
def FsLinksUptoSaid : Prop := fsLinksUptoRow.holds Tryz.pinned (OpenSpec.upto fsLinksSpec)

/-- 'steamerlaw7.FsPaths', WHERE WHAT IT READS IS OF BULK AT MOST 1048576: true; the input reads as it did. -/
def fsPathsUptoRow : OpenClaim := { program := "ytiebbecknfpdeaagreatdoor", sum := "867233849723066a24939d4cc534841d5732170cbff6e9bbd84316d2002a596e", func := "steamer/steamerlaw7.FsPaths", spec := "fsPaths", inPlace := ["internal/bytealg.IndexByteString", "internal/bytealg.IndexString", "slices.overlaps[steamer/api.Entry]", "internal/bytealg.CountString"], unfollowed := true, recurses := true, named := ["internal/bytealg.MaxLen", "unicode/utf8.first", "unicode/utf8.acceptRanges"], apart := false, laid := [("unicode/utf8.acceptRanges", laid_unicode_utf8_acceptRanges), ("unicode/utf8.first", laid_unicode_utf8_first)], narrowed := true }
def FsPathsUptoSaid : Prop := fsPathsUptoRow.holds Tryz.pinned (OpenSpec.upto fsPathsSpec)

/-- 'steamerlaw7.FsQuota', WHERE WHAT IT READS IS OF BULK AT MOST 1048576: true; the input reads as it did. -/
def fsQuotaUptoRow : OpenClaim := { program := "ytiebbecknfpdeaagreatdoor", sum := "867233849723066a24939d4cc534841d5732170cbff6e9bbd84316d2002a596e", func := "steamer/steamerlaw7.FsQuota", spec := "fsQuota", inPlace := ["internal/bytealg.IndexByteString", "internal/bytealg.IndexString", "slices.overlaps[steamer/api.Entry]", "internal/bytealg.CountString"], unfollowed := true, recurses := true, named := ["internal/bytealg.MaxLen", "unicode/utf8.first", "unicode/utf8.acceptRanges"], apart := false, laid := [("unicode/utf8.acceptRanges", laid_unicode_utf8_acceptRanges), ("unicode/utf8.first", laid_unicode_utf8_first)], narrowed := true }
def FsQuotaUptoSaid : Prop := fsQuotaUptoRow.holds Tryz.pinned (OpenSpec.upto fsQuotaSpec)

/-- 'steamerlaw7.FsFrom', WHERE WHAT IT READS IS OF BULK AT MOST 1048576: true; the input reads as it did. -/
def fsFromUptoRow : OpenClaim := { program := "ytiebbecknfpdeaagreatdoor", sum := "867233849723066a24939d4cc534841d5732170cbff6e9bbd84316d2002a596e", func := "steamer/steamerlaw7.FsFrom", spec := "fsFrom", inPlace := ["internal/bytealg.IndexByteString", "internal/bytealg.IndexString", "slices.overlaps[steamer/api.Entry]", "internal/bytealg.CountString"], unfollowed := true, recurses := true, named := ["internal/bytealg.MaxLen", "unicode/utf8.first", "unicode/utf8.acceptRanges"], apart := false, laid := [("unicode/utf8.acceptRanges", laid_unicode_utf8_acceptRanges), ("unicode/utf8.first", laid_unicode_utf8_first)], narrowed := true }
def FsFromUptoSaid : Prop := fsFromUptoRow.holds Tryz.pinned (OpenSpec.upto fsFromSpec)

/-- 'steamerlaw7.FsPlays', WHERE WHAT IT READS IS OF BULK AT MOST 1048576: true; the input reads as it did. -/
def fsPlaysUptoRow : OpenClaim := { program := "ytiebbecknfpdeaagreatdoor", sum := "867233849723066a24939d4cc534841d5732170cbff6e9bbd84316d2002a596e", func := "steamer/steamerlaw7.FsPlays", spec := "fsPlays", inPlace := ["internal/bytealg.IndexByteString", "internal/bytealg.IndexString", "slices.overlaps[steamer/api.Entry]", "internal/bytealg.CountString"], unfollowed := true, recurses := true, named := ["internal/bytealg.MaxLen", "unicode/utf8.first", "unicode/utf8.acceptRanges"], apart := false, laid := [("unicode/utf8.acceptRanges", laid_unicode_utf8_acceptRanges), ("unicode/utf8.first", laid_unicode_utf8_first)], narrowed := true }
def FsPlaysUptoSaid : Prop := fsPlaysUptoRow.holds Tryz.pinned (OpenSpec.upto fsPlaysSpec)

end Rows
end Go.Proofs.YtiebbecknfpdeaaGreatDoor
