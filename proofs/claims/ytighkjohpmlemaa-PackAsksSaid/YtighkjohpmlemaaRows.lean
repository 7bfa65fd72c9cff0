/-
  No cell of these rows narrows 'for every input' (looked for: loops, veiled, ifaces, maps, wideKeys, modest, calm, conditions, laid).
  DERIVED. THE GIVEN ROWS OF THIS SEAT. 11 by the template 'for every input the law returns true; each argument reads behind the call as it read before'; 0 by the template 'total and deterministic' (their statements: YtighkjohpmlemaaTotals.lean).
  GIVEN WITH THE SEED: the statements are not yours to turn. If you find one false, say at which input.
  Laid BY PROGRAM, IN A SANDBOX (cutbox-rows.mjs): the forced cells as the released guide's own fill.sh prints them over the translation fb8f3353831a2560… (all of the seat's roots in one cut). By AI agents, Wed Nov 11 2026. No macro, syntax, notation, axiom, sorry.
-/
import Derived.Test.YtighkjohpmlemaaChecked
import GoSem.Claim
import GoSem.ClaimJoined
import GoSem.ClaimMapViews
import Derived.JoinedTies
import Derived.KernelRfl
namespace Go.Proofs.Ytighkjohpmlemaa
/- THE CELL 'sum', in the pinned program and in every row, IS THE sha256 OF THE DUMP (.gsa) THAT YtighkjohpmlemaaProg.lean LOADS. Nothing in Lean hashes anything: it is a label: what it is worth is what the hold of that sum in a sandbox is worth. -/
noncomputable def Try.pinned : Pinned := { name := "ytighkjohpmlemaa", sum := "fb8f3353831a2560bb5708cec7bb0113a7b96adcce2b18ceefd5cea1cda73433", checked := Try.checked }
namespace Rows
def none {H : Type} : Left H := { results := [], args := [] }

/-- 'steamerlaw12.HuffAsks': WHATEVER THE INPUT: true; the input reads as it did. -/
def huffAsksSpec : ChangeSpec := { name := "huffAsks", fn := fun _ => fun
  | [d1, d2, d3, d4] => { results := [.lit (.bool true)], args := [d1, d2, d3, d4] }
  | _ => none }
def huffAsksRow : OpenClaim := { program := "ytighkjohpmlemaa", sum := "fb8f3353831a2560bb5708cec7bb0113a7b96adcce2b18ceefd5cea1cda73433", func := "steamer/steamerlaw12.HuffAsks", spec := "huffAsks", unfollowed := true, recurses := true, apart := false }
def HuffAsksSaid : Prop := huffAsksRow.holds Try.pinned (OpenSpec.ofChange huffAsksSpec)

/-- ITS FALSE NEIGHBOUR: 'it returns false'. Refute it at one input. -/
def huffAsksWrong : ChangeSpec := { name := "huffAsks", fn := fun _ => fun
  | [d1, d2, d3, d4] => { results := [.lit (.bool false)], args := [d1, d2, d3, d4] }
  | _ => none }
def HuffAsksWrongFalsely : Prop := huffAsksRow.holds Try.pinned (OpenSpec.ofChange huffAsksWrong)

/-- 'steamerlaw12.HuffShort': WHATEVER THE INPUT: true; the input reads as it did. -/
def huffShortSpec : ChangeSpec := { name := "huffShort", fn := fun _ => fun
  | [d] => { results := [.lit (.bool true)], args := [d] }
  | _ => none }
def huffShortRow : OpenClaim := { program := "ytighkjohpmlemaa", sum := "fb8f3353831a2560bb5708cec7bb0113a7b96adcce2b18ceefd5cea1cda73433", func := "steamer/steamerlaw12.HuffShort", spec := "huffShort", unfollowed := true, recurses := true, apart := false }
def HuffShortSaid : Prop := huffShortRow.holds Try.pinned (OpenSpec.ofChange huffShortSpec)

/-- ITS FALSE NEIGHBOUR: 'it returns false'. Refute it at one input. -/
def huffShortWrong : ChangeSpec := { name := "huffShort", fn := fun _ => fun
  | [d] => { results := [.lit (.bool false)], args := [d] }
  | _ => none }
def HuffShortWrongFalsely : Prop := huffShortRow.holds Try.pinned (OpenSpec.ofChange huffShortWrong)

/-- 'steamerlaw12.HuffBack': WHATEVER THE INPUT: true; the input reads as it did. -/
def huffBackSpec : ChangeSpec := { name := "huffBack", fn := fun _ => fun
  | [d1, d2] => { results := [.lit (.bool true)], args := [d1, d2] }
  | _ => none }
def huffBackRow : OpenClaim := { program := "ytighkjohpmlemaa", sum := "fb8f3353831a2560bb5708cec7bb0113a7b96adcce2b18ceefd5cea1cda73433", func := "steamer/steamerlaw12.HuffBack", spec := "huffBack", unfollowed := true, recurses := true, apart := false }
def HuffBackSaid : Prop := huffBackRow.holds Try.pinned (OpenSpec.ofChange huffBackSpec)

/-- ITS FALSE NEIGHBOUR: 'it returns false'. Refute it at one input. -/
def huffBackWrong : ChangeSpec := { name := "huffBack", fn := fun _ => fun
  | [d1, d2] => { results := [.lit (.bool false)], args := [d1, d2] }
  | _ => none }
def HuffBackWrongFalsely : Prop := huffBackRow.holds Try.pinned (OpenSpec.ofChange huffBackWrong)

/-- 'steamerlaw13.PackRaw': WHATEVER THE INPUT: true; the input reads as it did. -/
def packRawSpec : ChangeSpec := { name := "packRaw", fn := fun _ => fun
  | [d1, d2] => { results := [.lit (.bool true)], args := [d1, d2] }
  | _ => none }
def packRawRow : OpenClaim := { program := "ytighkjohpmlemaa", sum := "fb8f3353831a2560bb5708cec7bb0113a7b96adcce2b18ceefd5cea1cda73433", func := "steamer/steamerlaw13.PackRaw", spec := "packRaw", inPlace := ["math/bits.Add64"], unfollowed := true, recurses := true, apart := false }
def PackRawSaid : Prop := packRawRow.holds Try.pinned (OpenSpec.ofChange packRawSpec)

/-- ITS FALSE NEIGHBOUR: 'it returns false'. Refute it at one input. -/
def packRawWrong : ChangeSpec := { name := "packRaw", fn := fun _ => fun
  | [d1, d2] => { results := [.lit (.bool false)], args := [d1, d2] }
  | _ => none }
def PackRawWrongFalsely : Prop := packRawRow.holds Try.pinned (OpenSpec.ofChange packRawWrong)

/-- 'steamerlaw13.PackAsks': WHATEVER THE INPUT: true; the input reads as it did. -/
def packAsksSpec : ChangeSpec := { name := "packAsks", fn := fun _ => fun
  | [d1, d2, d3, d4] => { results := [.lit (.bool true)], args := [d1, d2, d3, d4] }
  | _ => none }
def packAsksRow : OpenClaim := { program := "ytighkjohpmlemaa", sum := "fb8f3353831a2560bb5708cec7bb0113a7b96adcce2b18ceefd5cea1cda73433", func := "steamer/steamerlaw13.PackAsks", spec := "packAsks", inPlace := ["math/bits.Add64"], unfollowed := true, recurses := true, apart := false }
def PackAsksSaid : Prop := packAsksRow.holds Try.pinned (OpenSpec.ofChange packAsksSpec)

/-- ITS FALSE NEIGHBOUR: 'it returns false'. Refute it at one input. -/
def packAsksWrong : ChangeSpec := { name := "packAsks", fn := fun _ => fun
  | [d1, d2, d3, d4] => { results := [.lit (.bool false)], args := [d1, d2, d3, d4] }
  | _ => none }
def PackAsksWrongFalsely : Prop := packAsksRow.holds Try.pinned (OpenSpec.ofChange packAsksWrong)

/-- 'steamerlaw13.PackBack': WHATEVER THE INPUT: true; the input reads as it did. -/
def packBackSpec : ChangeSpec := { name := "packBack", fn := fun _ => fun
  | [d1, d2] => { results := [.lit (.bool true)], args := [d1, d2] }
  | _ => none }
def packBackRow : OpenClaim := { program := "ytighkjohpmlemaa", sum := "fb8f3353831a2560bb5708cec7bb0113a7b96adcce2b18ceefd5cea1cda73433", func := "steamer/steamerlaw13.PackBack", spec := "packBack", inPlace := ["math/bits.Add64"], unfollowed := true, recurses := true, apart := false }
def PackBackSaid : Prop := packBackRow.holds Try.pinned (OpenSpec.ofChange packBackSpec)

/-- ITS FALSE NEIGHBOUR: 'it returns false'. Refute it at one input. -/
def packBackWrong : ChangeSpec := { name := "packBack", fn := fun _ => fun
  | [d1, d2] => { results := [.lit (.bool false)], args := [d1, d2] }
  | _ => none }
def PackBackWrongFalsely : Prop := packBackRow.holds Try.pinned (OpenSpec.ofChange packBackWrong)

/-- 'steamerlaw13.PackTurned': WHATEVER THE INPUT: true; the input reads as it did. -/
def packTurnedSpec : ChangeSpec := { name := "packTurned", fn := fun _ => fun
  | [d1, d2, d3] => { results := [.lit (.bool true)], args := [d1, d2, d3] }
  | _ => none }
def packTurnedRow : OpenClaim := { program := "ytighkjohpmlemaa", sum := "fb8f3353831a2560bb5708cec7bb0113a7b96adcce2b18ceefd5cea1cda73433", func := "steamer/steamerlaw13.PackTurned", spec := "packTurned", inPlace := ["math/bits.Add64"], unfollowed := true, recurses := true, apart := false }
def PackTurnedSaid : Prop := packTurnedRow.holds Try.pinned (OpenSpec.ofChange packTurnedSpec)

/-- ITS FALSE NEIGHBOUR: 'it returns false'. Refute it at one input. -/
def packTurnedWrong : ChangeSpec := { name := "packTurned", fn := fun _ => fun
  | [d1, d2, d3] => { results := [.lit (.bool false)], args := [d1, d2, d3] }
  | _ => none }
def PackTurnedWrongFalsely : Prop := packTurnedRow.holds Try.pinned (OpenSpec.ofChange packTurnedWrong)

/-- 'steamerlaw13.PackBlocks': WHATEVER THE INPUT: true; the input reads as it did. -/
def packBlocksSpec : ChangeSpec := { name := "packBlocks", fn := fun _ => fun
  | [d1, d2] => { results := [.lit (.bool true)], args := [d1, d2] }
  | _ => none }
def packBlocksRow : OpenClaim := { program := "ytighkjohpmlemaa", sum := "fb8f3353831a2560bb5708cec7bb0113a7b96adcce2b18ceefd5cea1cda73433", func := "steamer/steamerlaw13.PackBlocks", spec := "packBlocks", inPlace := ["math/bits.Add64"], unfollowed := true, recurses := true, apart := false }
def PackBlocksSaid : Prop := packBlocksRow.holds Try.pinned (OpenSpec.ofChange packBlocksSpec)

/-- ITS FALSE NEIGHBOUR: 'it returns false'. Refute it at one input. -/
def packBlocksWrong : ChangeSpec := { name := "packBlocks", fn := fun _ => fun
  | [d1, d2] => { results := [.lit (.bool false)], args := [d1, d2] }
  | _ => none }
def PackBlocksWrongFalsely : Prop := packBlocksRow.holds Try.pinned (OpenSpec.ofChange packBlocksWrong)

/-- 'steamerlaw21.SolidAsks': WHATEVER THE INPUT: true; the input reads as it did. -/
def solidAsksSpec : ChangeSpec := { name := "solidAsks", fn := fun _ => fun
  | [d] => { results := [.lit (.bool true)], args := [d] }
  | _ => none }
def solidAsksRow : OpenClaim := { program := "ytighkjohpmlemaa", sum := "fb8f3353831a2560bb5708cec7bb0113a7b96adcce2b18ceefd5cea1cda73433", func := "steamer/steamerlaw21.SolidAsks", spec := "solidAsks", inPlace := ["math/bits.Add64"], unfollowed := true, recurses := true, apart := false }
def SolidAsksSaid : Prop := solidAsksRow.holds Try.pinned (OpenSpec.ofChange solidAsksSpec)

/-- ITS FALSE NEIGHBOUR: 'it returns false'. Refute it at one input. -/
def solidAsksWrong : ChangeSpec := { name := "solidAsks", fn := fun _ => fun
  | [d] => { results := [.lit (.bool false)], args := [d] }
  | _ => none }
def SolidAsksWrongFalsely : Prop := solidAsksRow.holds Try.pinned (OpenSpec.ofChange solidAsksWrong)

/-- 'steamerlaw21.SolidSpoilt': WHATEVER THE INPUT: true; the input reads as it did. -/
def solidSpoiltSpec : ChangeSpec := { name := "solidSpoilt", fn := fun _ => fun
  | [d1, d2, d3] => { results := [.lit (.bool true)], args := [d1, d2, d3] }
  | _ => none }
def solidSpoiltRow : OpenClaim := { program := "ytighkjohpmlemaa", sum := "fb8f3353831a2560bb5708cec7bb0113a7b96adcce2b18ceefd5cea1cda73433", func := "steamer/steamerlaw21.SolidSpoilt", spec := "solidSpoilt", inPlace := ["math/bits.Add64"], unfollowed := true, recurses := true, apart := false }
def SolidSpoiltSaid : Prop := solidSpoiltRow.holds Try.pinned (OpenSpec.ofChange solidSpoiltSpec)

/-- ITS FALSE NEIGHBOUR: 'it returns false'. Refute it at one input. -/
def solidSpoiltWrong : ChangeSpec := { name := "solidSpoilt", fn := fun _ => fun
  | [d1, d2, d3] => { results := [.lit (.bool false)], args := [d1, d2, d3] }
  | _ => none }
def SolidSpoiltWrongFalsely : Prop := solidSpoiltRow.holds Try.pinned (OpenSpec.ofChange solidSpoiltWrong)

/-- 'steamerlaw21.SolidRows': WHATEVER THE INPUT: true; the input reads as it did. -/
def solidRowsSpec : ChangeSpec := { name := "solidRows", fn := fun _ => fun
  | [d1, d2] => { results := [.lit (.bool true)], args := [d1, d2] }
  | _ => none }
def solidRowsRow : OpenClaim := { program := "ytighkjohpmlemaa", sum := "fb8f3353831a2560bb5708cec7bb0113a7b96adcce2b18ceefd5cea1cda73433", func := "steamer/steamerlaw21.SolidRows", spec := "solidRows", inPlace := ["math/bits.Add64"], unfollowed := true, recurses := true, apart := false }
def SolidRowsSaid : Prop := solidRowsRow.holds Try.pinned (OpenSpec.ofChange solidRowsSpec)

/-- ITS FALSE NEIGHBOUR: 'it returns false'. Refute it at one input. -/
def solidRowsWrong : ChangeSpec := { name := "solidRows", fn := fun _ => fun
  | [d1, d2] => { results := [.lit (.bool false)], args := [d1, d2] }
  | _ => none }
def SolidRowsWrongFalsely : Prop := solidRowsRow.holds Try.pinned (OpenSpec.ofChange solidRowsWrong)

/- THE SECOND FORM. 'bulk': how many values and letters a reading holds, each counted each time it is reached (what is shared counts as often as it is met; a slice's spare places count too). A statement '..UptoSaid' is the law's where the arguments, and the package variables that the reading takes, are together of bulk at most 1048576: NARROWER than '..Said'. Prove '..Said' where nothing that the law and all that it calls make is longer than what came in: it says more and counts as full. Else prove '..UptoSaid'. A law counts once. -/
mutual
def uptoBulk {H : Type} : DataW H → Nat
  | .lit (.string bytes) => bytes.length + 1
  | .lit _ => 1
  | .nil => 1
  | .ptr d => uptoBulk d + 1
  | .slice elems spare => uptoBulkAll elems + uptoBulkAll spare + 1
  | .agg parts => uptoBulkAll parts + 1
  | .iface _ d => uptoBulk d + 1
  | .map entries => uptoBulkEntries entries + 1
  | .held _ => 1
def uptoBulkAll {H : Type} : List (DataW H) → Nat
  | [] => 0
  | d :: r => uptoBulk d + uptoBulkAll r
def uptoBulkEntries {H : Type} : List (Lit × DataW H) → Nat
  | [] => 0
  | x :: r => uptoBulkEntry x + uptoBulkEntries r
def uptoBulkEntry {H : Type} : Lit × DataW H → Nat
  | (.string bytes, d) => bytes.length + uptoBulk d + 1
  | (_, d) => uptoBulk d + 1
 end
def uptoSmall : (H : Type) → List (DataW H) → Bool := fun _ ds => decide (uptoBulkAll ds ≤ 1048576)
def OpenSpec.upto (s : _root_.Go.ChangeSpec) : _root_.Go.OpenSpec := { _root_.Go.OpenSpec.ofChange s with cond := some uptoSmall }

/-- 'steamerlaw12.HuffAsks', WHERE WHAT IT READS IS OF BULK AT MOST 1048576: true; the input reads as it did. -/
def huffAsksUptoRow : OpenClaim := { program := "ytighkjohpmlemaa", sum := "fb8f3353831a2560bb5708cec7bb0113a7b96adcce2b18ceefd5cea1cda73433", func := "steamer/steamerlaw12.HuffAsks", spec := "huffAsks", unfollowed := true, recurses := true, apart := false, narrowed := true }
def HuffAsksUptoSaid : Prop := huffAsksUptoRow.holds Try.pinned (OpenSpec.upto huffAsksSpec)

/-- 'steamerlaw12.HuffShort', WHERE WHAT IT READS IS OF BULK AT MOST 1048576: true; the input reads as it did. -/
def huffShortUptoRow : OpenClaim := { program := "ytighkjohpmlemaa", sum := "fb8f3353831a2560bb5708cec7bb0113a7b96adcce2b18ceefd5cea1cda73433", func := "steamer/steamerlaw12.HuffShort", spec := "huffShort", unfollowed := true, recurses := true, apart := false, narrowed := true }
def HuffShortUptoSaid : Prop := huffShortUptoRow.holds Try.pinned (OpenSpec.upto huffShortSpec)

/-- 'steamerlaw12.HuffBack', WHERE WHAT IT READS IS OF BULK AT MOST 1048576: true; the input reads as it did. -/
def huffBackUptoRow : OpenClaim := { program := "ytighkjohpmlemaa", sum := "fb8f3353831a2560bb5708cec7bb0113a7b96adcce2b18ceefd5cea1cda73433", func := "steamer/steamerlaw12.HuffBack", spec := "huffBack", unfollowed := true, recurses := true, apart := false, narrowed := true }
def HuffBackUptoSaid : Prop := huffBackUptoRow.holds Try.pinned (OpenSpec.upto huffBackSpec)

/-- 'steamerlaw13.PackRaw', WHERE WHAT IT READS IS OF BULK AT MOST 1048576: true; the input reads as it did. -/
def packRawUptoRow : OpenClaim := { program := "ytighkjohpmlemaa", sum := "fb8f3353831a2560bb5708cec7bb0113a7b96adcce2b18ceefd5cea1cda73433", func := "steamer/steamerlaw13.PackRaw", spec := "packRaw", inPlace := ["math/bits.Add64"], unfollowed := true, recurses := true, apart := false, narrowed := true }
def PackRawUptoSaid : Prop := packRawUptoRow.holds Try.pinned (OpenSpec.upto packRawSpec)

/-- 'steamerlaw13.PackAsks', WHERE WHAT IT READS IS OF BULK AT MOST 1048576: true; the input reads as it did. -/
def packAsksUptoRow : OpenClaim := { program := "ytighkjohpmlemaa", sum := "fb8f3353831a2560bb5708cec7bb0113a7b96adcce2b18ceefd5cea1cda73433", func := "steamer/steamerlaw13.PackAsks", spec := "packAsks", inPlace := ["math/bits.Add64"], unfollowed := true, recurses := true, apart := false, narrowed := true }
def PackAsksUptoSaid : Prop := packAsksUptoRow.holds Try.pinned (OpenSpec.upto packAsksSpec)

/-- 'steamerlaw13.PackBack', WHERE WHAT IT READS IS OF BULK AT MOST 1048576: true; the input reads as it did. -/
def packBackUptoRow : OpenClaim := { program := "ytighkjohpmlemaa", sum := "fb8f3353831a2560bb5708cec7bb0113a7b96adcce2b18ceefd5cea1cda73433", func := "steamer/steamerlaw13.PackBack", spec := "packBack", inPlace := ["math/bits.Add64"], unfollowed := true, recurses := true, apart := false, narrowed := true }
def PackBackUptoSaid : Prop := packBackUptoRow.holds Try.pinned (OpenSpec.upto packBackSpec)

/-- 'steamerlaw13.PackTurned', WHERE WHAT IT READS IS OF BULK AT MOST 1048576: true; the input reads as it did. -/
def packTurnedUptoRow : OpenClaim := { program := "ytighkjohpmlemaa", sum := "fb8f3353831a2560bb5708cec7bb0113a7b96adcce2b18ceefd5cea1cda73433", func := "steamer/steamerlaw13.PackTurned", spec := "packTurned", inPlace := ["math/bits.Add64"], unfollowed := true, recurses := true, apart := false, narrowed := true }
def PackTurnedUptoSaid : Prop := packTurnedUptoRow.holds Try.pinned (OpenSpec.upto packTurnedSpec)

/-- 'steamerlaw13.PackBlocks', WHERE WHAT IT READS IS OF BULK AT MOST 1048576: true; the input reads as it did. -/
def packBlocksUptoRow : OpenClaim := { program := "ytighkjohpmlemaa", sum := "fb8f3353831a2560bb5708cec7bb0113a7b96adcce2b18ceefd5cea1cda73433", func := "steamer/steamerlaw13.PackBlocks", spec := "packBlocks", inPlace := ["math/bits.Add64"], unfollowed := true, recurses := true, apart := false, narrowed := true }
def PackBlocksUptoSaid : Prop := packBlocksUptoRow.holds Try.pinned (OpenSpec.upto packBlocksSpec)

/-- 'steamerlaw21.SolidAsks', WHERE WHAT IT READS IS OF BULK AT MOST 1048576: true; the input reads as it did. -/
def solidAsksUptoRow : OpenClaim := { program := "ytighkjohpmlemaa", sum := "fb8f3353831a2560bb5708cec7bb0113a7b96adcce2b18ceefd5cea1cda73433", func := "steamer/steamerlaw21.SolidAsks", spec := "solidAsks", inPlace := ["math/bits.Add64"], unfollowed := true, recurses := true, apart := false, narrowed := true }
def SolidAsksUptoSaid : Prop := solidAsksUptoRow.holds Try.pinned (OpenSpec.upto solidAsksSpec)

/-- 'steamerlaw21.SolidSpoilt', WHERE WHAT IT READS IS OF BULK AT MOST 1048576: true; the input reads as it did. -/
def solidSpoiltUptoRow : OpenClaim := { program := "ytighkjohpmlemaa", sum := "fb8f3353831a2560bb5708cec7bb0113a7b96adcce2b18ceefd5cea1cda73433", func := "steamer/steamerlaw21.SolidSpoilt", spec := "solidSpoilt", inPlace := ["math/bits.Add64"], unfollowed := true, recurses := true, apart := false, narrowed := true }
def SolidSpoiltUptoSaid : Prop := solidSpoiltUptoRow.holds Try.pinned (OpenSpec.upto solidSpoiltSpec)

/-- 'steamerlaw21.SolidRows', WHERE WHAT IT READS IS OF BULK AT MOST 1048576: true; the input reads as it did. -/
def solidRowsUptoRow : OpenClaim := { program := "ytighkjohpmlemaa", sum := "fb8f3353831a2560bb5708cec7bb0113a7b96adcce2b18ceefd5cea1cda73433", func := "steamer/steamerlaw21.SolidRows", spec := "solidRows", inPlace := ["math/bits.Add64"], unfollowed := true, recurses := true, apart := false, narrowed := true }
def SolidRowsUptoSaid : Prop := solidRowsUptoRow.holds Try.pinned (OpenSpec.upto solidRowsSpec)

end Rows
end Go.Proofs.Ytighkjohpmlemaa
