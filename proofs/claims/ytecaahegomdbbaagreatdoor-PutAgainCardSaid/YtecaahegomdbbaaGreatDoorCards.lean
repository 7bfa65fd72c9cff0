/-
  DERIVED. GIVEN WITH THE SEED: THE CARDS: each row of YtecaahegomdbbaaGreatDoorRows.lean that lists a variable, with what it lists TIED to the program's text (the seventh form; the later family's looks); each row that meets fmt, with fmt's text TOLD by the authors' own Lean function (tested against real Go, not proved from fmt's source: count such statements apart). THE CARD IS WHAT COUNTS. Prove the row's statement (the work); the ties are given (YtecaahegomdbbaaGreatDoorTie.lean); close each card by the builder's one call (the guide's Derived/Test/ToyasCard.lean, 'card_holds'). Laid BY PROGRAM, IN A SANDBOX (cutbox-door.mjs). By AI agents, Wed Nov 11 2026. No macro, syntax, notation, axiom, sorry.
-/
import Derived.Test.YtecaahegomdbbaaGreatDoorRows
import GoSem.ClaimSeven
namespace Go.Proofs.YtecaahegomdbbaaGreatDoor
namespace Rows

/-- THE TIED CARD OF 'steamerlaw25.PutSteps'. -/
def putStepsCard : Claim7 := { stood := { row := putStepsRow, standIns := [], harness := (true, "e52e13cf40da334dce1fddebb9ee70c602f3950b7b8ee0d6414b9599e03695cc"), looks := true }, kinds := [], alts := [], laidByText := true, laidKinds := [.data, .data, .data, .data, .sentinel, .sentinel, .pinned], laidTests := true, laidLooks := .later }
def PutStepsCardSaid : Prop := Claim7.holds Tryz.pinned (.plain (OpenSpec.ofChange putStepsSpec)) putStepsCard

/-- THE TIED CARD OF 'steamerlaw25.PutWhole'. -/
def putWholeCard : Claim7 := { stood := { row := putWholeRow, standIns := [], harness := (true, "e52e13cf40da334dce1fddebb9ee70c602f3950b7b8ee0d6414b9599e03695cc"), looks := true }, kinds := [], alts := [], laidByText := true, laidKinds := [.data, .data, .data, .data, .sentinel, .sentinel, .pinned], laidTests := true, laidLooks := .later }
def PutWholeCardSaid : Prop := Claim7.holds Tryz.pinned (.plain (OpenSpec.ofChange putWholeSpec)) putWholeCard

/-- THE TIED CARD OF 'steamerlaw25.PutAgain'. -/
def putAgainCard : Claim7 := { stood := { row := putAgainRow, standIns := [], harness := (true, "e52e13cf40da334dce1fddebb9ee70c602f3950b7b8ee0d6414b9599e03695cc"), looks := true }, kinds := [], alts := [], laidByText := true, laidKinds := [.data, .data, .data, .data, .sentinel, .sentinel, .pinned], laidTests := true, laidLooks := .later }
def PutAgainCardSaid : Prop := Claim7.holds Tryz.pinned (.plain (OpenSpec.ofChange putAgainSpec)) putAgainCard

/-- THE TIED CARD OF 'steamerlaw25.PutOthers'. -/
def putOthersCard : Claim7 := { stood := { row := putOthersRow, standIns := [], harness := (true, "e52e13cf40da334dce1fddebb9ee70c602f3950b7b8ee0d6414b9599e03695cc"), looks := true }, kinds := [], alts := [], laidByText := true, laidKinds := [.data, .data, .data, .data, .sentinel, .sentinel, .pinned], laidTests := true, laidLooks := .later }
def PutOthersCardSaid : Prop := Claim7.holds Tryz.pinned (.plain (OpenSpec.ofChange putOthersSpec)) putOthersCard

/-- THE SECOND FORM's CARD OF 'steamerlaw25.PutSteps'. -/
def putStepsUptoCard : Claim7 := { stood := { row := putStepsUptoRow, standIns := [], harness := (true, "e52e13cf40da334dce1fddebb9ee70c602f3950b7b8ee0d6414b9599e03695cc"), looks := true }, kinds := [], alts := [], laidByText := true, laidKinds := [.data, .data, .data, .data, .sentinel, .sentinel, .pinned], laidTests := true, laidLooks := .later }
def PutStepsUptoCardSaid : Prop := Claim7.holds Tryz.pinned (.plain (OpenSpec.upto putStepsSpec)) putStepsUptoCard

/-- THE SECOND FORM's CARD OF 'steamerlaw25.PutWhole'. -/
def putWholeUptoCard : Claim7 := { stood := { row := putWholeUptoRow, standIns := [], harness := (true, "e52e13cf40da334dce1fddebb9ee70c602f3950b7b8ee0d6414b9599e03695cc"), looks := true }, kinds := [], alts := [], laidByText := true, laidKinds := [.data, .data, .data, .data, .sentinel, .sentinel, .pinned], laidTests := true, laidLooks := .later }
def PutWholeUptoCardSaid : Prop := Claim7.holds Tryz.pinned (.plain (OpenSpec.upto putWholeSpec)) putWholeUptoCard

/-- THE SECOND FORM's CARD OF 'steamerlaw25.PutAgain'. -/
def putAgainUptoCard : Claim7 := { stood := { row := putAgainUptoRow, standIns := [], harness := (true, "e52e13cf40da334dce1fddebb9ee70c602f3950b7b8ee0d6414b9599e03695cc"), looks := true }, kinds := [], alts := [], laidByText := true, laidKinds := [.data, .data, .data, .data, .sentinel, .sentinel, .pinned], laidTests := true, laidLooks := .later }
def PutAgainUptoCardSaid : Prop := Claim7.holds Tryz.pinned (.plain (OpenSpec.upto putAgainSpec)) putAgainUptoCard

/-- THE SECOND FORM's CARD OF 'steamerlaw25.PutOthers'. -/
def putOthersUptoCard : Claim7 := { stood := { row := putOthersUptoRow, standIns := [], harness := (true, "e52e13cf40da334dce1fddebb9ee70c602f3950b7b8ee0d6414b9599e03695cc"), looks := true }, kinds := [], alts := [], laidByText := true, laidKinds := [.data, .data, .data, .data, .sentinel, .sentinel, .pinned], laidTests := true, laidLooks := .later }
def PutOthersUptoCardSaid : Prop := Claim7.holds Tryz.pinned (.plain (OpenSpec.upto putOthersSpec)) putOthersUptoCard
end Rows
end Go.Proofs.YtecaahegomdbbaaGreatDoor
