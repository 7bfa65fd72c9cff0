/-
  DERIVED. GIVEN WITH THE SEED: THE CARDS: each row of YtoheknblphcloaaGreatDoorRows.lean that lists a variable, with what it lists TIED to the program's text (the seventh form; the later family's looks); each row that meets fmt, with fmt's text TOLD by the authors' own Lean function (tested against real Go, not proved from fmt's source: count such statements apart). THE CARD IS WHAT COUNTS. Prove the row's statement (the work); the ties are given (YtoheknblphcloaaGreatDoorTie.lean); close each card by the builder's one call (the guide's Derived/Test/ToyasCard.lean, 'card_holds'). Laid BY PROGRAM, IN A SANDBOX (cutbox-door.mjs). By AI agents, Wed Nov 11 2026. No macro, syntax, notation, axiom, sorry.
-/
import Derived.Test.YtoheknblphcloaaGreatDoorRows
import GoSem.ClaimSeven
namespace Go.Proofs.YtoheknblphcloaaGreatDoor
namespace Rows

/-- THE TIED CARD OF 'steamerlaw23.OpenHeads'. -/
def openHeadsCard : Claim7 := { stood := { row := openHeadsRow, standIns := [], harness := (true, "04503aa241cafa8220cd870fa33776e9b66d47a63b25470f13220ff38479e8cc"), looks := true }, kinds := [], alts := [], laidByText := true, laidKinds := [.data, .data, .data, .sentinel, .sentinel], laidTests := true, laidLooks := .later }
def OpenHeadsCardSaid : Prop := Claim7.holds Tryz.pinned (.plain (OpenSpec.ofChange openHeadsSpec)) openHeadsCard

/-- THE SECOND FORM's CARD OF 'steamerlaw23.OpenHeads'. -/
def openHeadsUptoCard : Claim7 := { stood := { row := openHeadsUptoRow, standIns := [], harness := (true, "04503aa241cafa8220cd870fa33776e9b66d47a63b25470f13220ff38479e8cc"), looks := true }, kinds := [], alts := [], laidByText := true, laidKinds := [.data, .data, .data, .sentinel, .sentinel], laidTests := true, laidLooks := .later }
def OpenHeadsUptoCardSaid : Prop := Claim7.holds Tryz.pinned (.plain (OpenSpec.upto openHeadsSpec)) openHeadsUptoCard
end Rows
end Go.Proofs.YtoheknblphcloaaGreatDoor
