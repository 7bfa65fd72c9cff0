/-
  DERIVED. GIVEN WITH THE SEED: THE CARDS: each row of YtiebbecknfpdeaaGreatDoorRows.lean that lists a variable, with what it lists TIED to the program's text (the seventh form; the later family's looks); each row that meets fmt, with fmt's text TOLD by the authors' own Lean function (tested against real Go, not proved from fmt's source: count such statements apart). THE CARD IS WHAT COUNTS. Prove the row's statement (the work); the ties are given (YtiebbecknfpdeaaGreatDoorTie.lean); close each card by the builder's one call (the guide's Derived/Test/ToyasCard.lean, 'card_holds'). Laid BY PROGRAM, IN A SANDBOX (cutbox-door.mjs). By AI agents, Wed Nov 11 2026. No macro, syntax, notation, axiom, sorry.
-/
import Derived.Test.YtiebbecknfpdeaaGreatDoorRows
import GoSem.ClaimSeven
namespace Go.Proofs.YtiebbecknfpdeaaGreatDoor
namespace Rows

/-- THE TIED CARD OF 'steamerlaw8.WalkAsks'. -/
def walkAsksCard : Claim7 := { stood := { row := walkAsksRow, standIns := [], harness := (true, "732ee1b984e4be7c1850de9231cbf0e6bd452a78a846cf651d50674f53505f3e"), looks := false }, kinds := [], alts := [], laidByText := true, laidKinds := [.data, .pinned], laidTests := true, laidLooks := .later }
def WalkAsksCardSaid : Prop := Claim7.holds Tryz.pinned (.plain (OpenSpec.ofChange walkAsksSpec)) walkAsksCard

/-- THE TIED CARD OF 'steamerlaw8.WalkOrders'. -/
def walkOrdersCard : Claim7 := { stood := { row := walkOrdersRow, standIns := [], harness := (true, "732ee1b984e4be7c1850de9231cbf0e6bd452a78a846cf651d50674f53505f3e"), looks := false }, kinds := [], alts := [], laidByText := true, laidKinds := [.data, .pinned], laidTests := true, laidLooks := .later }
def WalkOrdersCardSaid : Prop := Claim7.holds Tryz.pinned (.plain (OpenSpec.ofChange walkOrdersSpec)) walkOrdersCard

/-- THE TIED CARD OF 'steamerlaw8.WalkFaults'. -/
def walkFaultsCard : Claim7 := { stood := { row := walkFaultsRow, standIns := [], harness := (true, "732ee1b984e4be7c1850de9231cbf0e6bd452a78a846cf651d50674f53505f3e"), looks := false }, kinds := [], alts := [], laidByText := true, laidKinds := [.data, .pinned], laidTests := true, laidLooks := .later }
def WalkFaultsCardSaid : Prop := Claim7.holds Tryz.pinned (.plain (OpenSpec.ofChange walkFaultsSpec)) walkFaultsCard

/-- THE TIED CARD OF 'steamerlaw7.FsGone'. -/
def fsGoneCard : Claim7 := { stood := { row := fsGoneRow, standIns := [], harness := (true, "732ee1b984e4be7c1850de9231cbf0e6bd452a78a846cf651d50674f53505f3e"), looks := false }, kinds := [], alts := [], laidByText := true, laidKinds := [.data, .pinned], laidTests := true, laidLooks := .later }
def FsGoneCardSaid : Prop := Claim7.holds Tryz.pinned (.plain (OpenSpec.ofChange fsGoneSpec)) fsGoneCard

/-- THE TIED CARD OF 'steamerlaw7.FsFaults'. -/
def fsFaultsCard : Claim7 := { stood := { row := fsFaultsRow, standIns := [], harness := (true, "732ee1b984e4be7c1850de9231cbf0e6bd452a78a846cf651d50674f53505f3e"), looks := false }, kinds := [], alts := [], laidByText := true, laidKinds := [.data, .pinned], laidTests := true, laidLooks := .later }
def FsFaultsCardSaid : Prop := Claim7.holds Tryz.pinned (.plain (OpenSpec.ofChange fsFaultsSpec)) fsFaultsCard

/-- THE TIED CARD OF 'steamerlaw7.FsTimes'. -/
def fsTimesCard : Claim7 := { stood := { row := fsTimesRow, standIns := [], harness := (true, "732ee1b984e4be7c1850de9231cbf0e6bd452a78a846cf651d50674f53505f3e"), looks := false }, kinds := [], alts := [], laidByText := true, laidKinds := [.data, .pinned], laidTests := true, laidLooks := .later }
def FsTimesCardSaid : Prop := Claim7.holds Tryz.pinned (.plain (OpenSpec.ofChange fsTimesSpec)) fsTimesCard

/-- THE TIED CARD OF 'steamerlaw7.FsLinks'. -/
def fsLinksCard : Claim7 := { stood := { row := fsLinksRow, standIns := [], harness := (true, "732ee1b984e4be7c1850de9231cbf0e6bd452a78a846cf651d50674f53505f3e"), looks := false }, kinds := [], alts := [], laidByText := true, laidKinds := [.data, .pinned], laidTests := true, laidLooks := .later }
def FsLinksCardSaid : Prop := Claim7.holds Tryz.pinned (.plain (OpenSpec.ofChange fsLinksSpec)) fsLinksCard

/-- THE TIED CARD OF 'steamerlaw7.FsPaths'. -/
def fsPathsCard : Claim7 := { stood := { row := fsPathsRow, standIns := [], harness := (true, "732ee1b984e4be7c1850de9231cbf0e6bd452a78a846cf651d50674f53505f3e"), looks := false }, kinds := [], alts := [], laidByText := true, laidKinds := [.data, .pinned], laidTests := true, laidLooks := .later }
def FsPathsCardSaid : Prop := Claim7.holds Tryz.pinned (.plain (OpenSpec.ofChange fsPathsSpec)) fsPathsCard

/-- THE TIED CARD OF 'steamerlaw7.FsQuota'. -/
def fsQuotaCard : Claim7 := { stood := { row := fsQuotaRow, standIns := [], harness := (true, "732ee1b984e4be7c1850de9231cbf0e6bd452a78a846cf651d50674f53505f3e"), looks := false }, kinds := [], alts := [], laidByText := true, laidKinds := [.data, .pinned], laidTests := true, laidLooks := .later }
def FsQuotaCardSaid : Prop := Claim7.holds Tryz.pinned (.plain (OpenSpec.ofChange fsQuotaSpec)) fsQuotaCard

/-- THE TIED CARD OF 'steamerlaw7.FsFrom'. -/
def fsFromCard : Claim7 := { stood := { row := fsFromRow, standIns := [], harness := (true, "732ee1b984e4be7c1850de9231cbf0e6bd452a78a846cf651d50674f53505f3e"), looks := false }, kinds := [], alts := [], laidByText := true, laidKinds := [.data, .pinned], laidTests := true, laidLooks := .later }
def FsFromCardSaid : Prop := Claim7.holds Tryz.pinned (.plain (OpenSpec.ofChange fsFromSpec)) fsFromCard

/-- THE TIED CARD OF 'steamerlaw7.FsPlays'. -/
def fsPlaysCard : Claim7 := { stood := { row := fsPlaysRow, standIns := [], harness := (true, "732ee1b984e4be7c1850de9231cbf0e6bd452a78a846cf651d50674f53505f3e"), looks := false }, kinds := [], alts := [], laidByText := true, laidKinds := [.data, .pinned], laidTests := true, laidLooks := .later }
def FsPlaysCardSaid : Prop := Claim7.holds Tryz.pinned (.plain (OpenSpec.ofChange fsPlaysSpec)) fsPlaysCard

/-- THE SECOND FORM's CARD OF 'steamerlaw8.WalkAsks'. -/
def walkAsksUptoCard : Claim7 := { stood := { row := walkAsksUptoRow, standIns := [], harness := (true, "732ee1b984e4be7c1850de9231cbf0e6bd452a78a846cf651d50674f53505f3e"), looks := false }, kinds := [], alts := [], laidByText := true, laidKinds := [.data, .pinned], laidTests := true, laidLooks := .later }
def WalkAsksUptoCardSaid : Prop := Claim7.holds Tryz.pinned (.plain (OpenSpec.upto walkAsksSpec)) walkAsksUptoCard

/-- THE SECOND FORM's CARD OF 'steamerlaw8.WalkOrders'. -/
def walkOrdersUptoCard : Claim7 := { stood := { row := walkOrdersUptoRow, standIns := [], harness := (true, "732ee1b984e4be7c1850de9231cbf0e6bd452a78a846cf651d50674f53505f3e"), looks := false }, kinds := [], alts := [], laidByText := true, laidKinds := [.data, .pinned], laidTests := true, laidLooks := .later }
def WalkOrdersUptoCardSaid : Prop := Claim7.holds Tryz.pinned (.plain (OpenSpec.upto walkOrdersSpec)) walkOrdersUptoCard

/-- THE SECOND FORM's CARD OF 'steamerlaw8.WalkFaults'. -/
def walkFaultsUptoCard : Claim7 := { stood := { row := walkFaultsUptoRow, standIns := [], harness := (true, "732ee1b984e4be7c1850de9231cbf0e6bd452a78a846cf651d50674f53505f3e"), looks := false }, kinds := [], alts := [], laidByText := true, laidKinds := [.data, .pinned], laidTests := true, laidLooks := .later }
def WalkFaultsUptoCardSaid : Prop := Claim7.holds Tryz.pinned (.plain (OpenSpec.upto walkFaultsSpec)) walkFaultsUptoCard

/-- THE SECOND FORM's CARD OF 'steamerlaw7.FsGone'. -/
def fsGoneUptoCard : Claim7 := { stood := { row := fsGoneUptoRow, standIns := [], harness := (true, "732ee1b984e4be7c1850de9231cbf0e6bd452a78a846cf651d50674f53505f3e"), looks := false }, kinds := [], alts := [], laidByText := true, laidKinds := [.data, .pinned], laidTests := true, laidLooks := .later }
def FsGoneUptoCardSaid : Prop := Claim7.holds Tryz.pinned (.plain (OpenSpec.upto fsGoneSpec)) fsGoneUptoCard

/-- THE SECOND FORM's CARD OF 'steamerlaw7.FsFaults'. -/
def fsFaultsUptoCard : Claim7 := { stood := { row := fsFaultsUptoRow, standIns := [], harness := (true, "732ee1b984e4be7c1850de9231cbf0e6bd452a78a846cf651d50674f53505f3e"), looks := false }, kinds := [], alts := [], laidByText := true, laidKinds := [.data, .pinned], laidTests := true, laidLooks := .later }
def FsFaultsUptoCardSaid : Prop := Claim7.holds Tryz.pinned (.plain (OpenSpec.upto fsFaultsSpec)) fsFaultsUptoCard

/-- THE SECOND FORM's CARD OF 'steamerlaw7.FsTimes'. -/
def fsTimesUptoCard : Claim7 := { stood := { row := fsTimesUptoRow, standIns := [], harness := (true, "732ee1b984e4be7c1850de9231cbf0e6bd452a78a846cf651d50674f53505f3e"), looks := false }, kinds := [], alts := [], laidByText := true, laidKinds := [.data, .pinned], laidTests := true, laidLooks := .later }
def FsTimesUptoCardSaid : Prop := Claim7.holds Tryz.pinned (.plain (OpenSpec.upto fsTimesSpec)) fsTimesUptoCard

/-- THE SECOND FORM's CARD OF 'steamerlaw7.FsLinks'. -/
def fsLinksUptoCard : Claim7 := { stood := { row := fsLinksUptoRow, standIns := [], harness := (true, "732ee1b984e4be7c1850de9231cbf0e6bd452a78a846cf651d50674f53505f3e"), looks := false }, kinds := [], alts := [], laidByText := true, laidKinds := [.data, .pinned], laidTests := true, laidLooks := .later }
def FsLinksUptoCardSaid : Prop := Claim7.holds Tryz.pinned (.plain (OpenSpec.upto fsLinksSpec)) fsLinksUptoCard

/-- THE SECOND FORM's CARD OF 'steamerlaw7.FsPaths'. -/
def fsPathsUptoCard : Claim7 := { stood := { row := fsPathsUptoRow, standIns := [], harness := (true, "732ee1b984e4be7c1850de9231cbf0e6bd452a78a846cf651d50674f53505f3e"), looks := false }, kinds := [], alts := [], laidByText := true, laidKinds := [.data, .pinned], laidTests := true, laidLooks := .later }
def FsPathsUptoCardSaid : Prop := Claim7.holds Tryz.pinned (.plain (OpenSpec.upto fsPathsSpec)) fsPathsUptoCard

/-- THE SECOND FORM's CARD OF 'steamerlaw7.FsQuota'. -/
def fsQuotaUptoCard : Claim7 := { stood := { row := fsQuotaUptoRow, standIns := [], harness := (true, "732ee1b984e4be7c1850de9231cbf0e6bd452a78a846cf651d50674f53505f3e"), looks := false }, kinds := [], alts := [], laidByText := true, laidKinds := [.data, .pinned], laidTests := true, laidLooks := .later }
def FsQuotaUptoCardSaid : Prop := Claim7.holds Tryz.pinned (.plain (OpenSpec.upto fsQuotaSpec)) fsQuotaUptoCard

/-- THE SECOND FORM's CARD OF 'steamerlaw7.FsFrom'. -/
def fsFromUptoCard : Claim7 := { stood := { row := fsFromUptoRow, standIns := [], harness := (true, "732ee1b984e4be7c1850de9231cbf0e6bd452a78a846cf651d50674f53505f3e"), looks := false }, kinds := [], alts := [], laidByText := true, laidKinds := [.data, .pinned], laidTests := true, laidLooks := .later }
def FsFromUptoCardSaid : Prop := Claim7.holds Tryz.pinned (.plain (OpenSpec.upto fsFromSpec)) fsFromUptoCard

/-- THE SECOND FORM's CARD OF 'steamerlaw7.FsPlays'. -/
def fsPlaysUptoCard : Claim7 := { stood := { row := fsPlaysUptoRow, standIns := [], harness := (true, "732ee1b984e4be7c1850de9231cbf0e6bd452a78a846cf651d50674f53505f3e"), looks := false }, kinds := [], alts := [], laidByText := true, laidKinds := [.data, .pinned], laidTests := true, laidLooks := .later }
def FsPlaysUptoCardSaid : Prop := Claim7.holds Tryz.pinned (.plain (OpenSpec.upto fsPlaysSpec)) fsPlaysUptoCard
end Rows
end Go.Proofs.YtiebbecknfpdeaaGreatDoor
