/-
  DERIVED. GIVEN WITH THE SEED: THE CARDS: each row of YtpfelapckcojjaaGreatDoorRows.lean that lists a variable, with what it lists TIED to the program's text (the seventh form; the later family's looks); each row that meets fmt, with fmt's text TOLD by the authors' own Lean function (tested against real Go, not proved from fmt's source: count such statements apart). THE CARD IS WHAT COUNTS. Prove the row's statement (the work); the ties are given (YtpfelapckcojjaaGreatDoorTie.lean); close each card by the builder's one call (the guide's Derived/Test/ToyasCard.lean, 'card_holds'). Laid BY PROGRAM, IN A SANDBOX (cutbox-door.mjs). By AI agents, Wed Nov 11 2026. No macro, syntax, notation, axiom, sorry.
-/
import Derived.Test.YtpfelapckcojjaaGreatDoorRows
import GoSem.ClaimSeven
namespace Go.Proofs.YtpfelapckcojjaaGreatDoor
namespace Rows

/-- THE TIED CARD OF 'steamerlaw25.PutClash'. -/
def putClashCard : Claim7 := { stood := { row := putClashRow, standIns := [], harness := (true, "8a055244774ce283c8a099e012b4f2443d96c843d39ccb887bf423b4cbce553b"), looks := true }, kinds := [], alts := [], laidByText := true, laidKinds := [.data, .data, .data, .data, .sentinel, .sentinel, .pinned], laidTests := true, laidLooks := .later }
def PutClashCardSaid : Prop := Claim7.holds Tryz.pinned (.plain (OpenSpec.ofChange putClashSpec)) putClashCard

/-- THE SECOND FORM's CARD OF 'steamerlaw25.PutClash'. -/
def putClashUptoCard : Claim7 := { stood := { row := putClashUptoRow, standIns := [], harness := (true, "8a055244774ce283c8a099e012b4f2443d96c843d39ccb887bf423b4cbce553b"), looks := true }, kinds := [], alts := [], laidByText := true, laidKinds := [.data, .data, .data, .data, .sentinel, .sentinel, .pinned], laidTests := true, laidLooks := .later }
def PutClashUptoCardSaid : Prop := Claim7.holds Tryz.pinned (.plain (OpenSpec.upto putClashSpec)) putClashUptoCard
end Rows
end Go.Proofs.YtpfelapckcojjaaGreatDoor
