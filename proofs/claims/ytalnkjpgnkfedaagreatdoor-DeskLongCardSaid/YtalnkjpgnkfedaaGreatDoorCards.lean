/-
  DERIVED. GIVEN WITH THE SEED: THE CARDS: each row of YtalnkjpgnkfedaaGreatDoorRows.lean that lists a variable, with what it lists TIED to the program's text (the seventh form; the later family's looks); each row that meets fmt, with fmt's text TOLD by the authors' own Lean function (tested against real Go, not proved from fmt's source: count such statements apart). THE CARD IS WHAT COUNTS. Prove the row's statement (the work); the ties are given (YtalnkjpgnkfedaaGreatDoorTie.lean); close each card by the builder's one call (the guide's Derived/Test/ToyasCard.lean, 'card_holds'). Laid BY PROGRAM, IN A SANDBOX (cutbox-door.mjs). By AI agents, Wed Nov 11 2026. No macro, syntax, notation, axiom, sorry.
-/
import Derived.Test.YtalnkjpgnkfedaaGreatDoorRows
import GoSem.ClaimSeven
namespace Go.Proofs.YtalnkjpgnkfedaaGreatDoor
namespace Rows

/-- THE TIED CARD OF 'steamerlaw28.DeskLong'. -/
def deskLongCard : Claim7 := { stood := { row := deskLongRow, standIns := [], harness := (true, "9107884afa5c15a7d68593d52cde91a1c7e1a439664920c1676b17a3531fdaaf"), looks := true }, kinds := [], alts := [], laidByText := true, laidKinds := [.data, .data, .data, .data, .sentinel, .sentinel, .pinned], laidTests := true, laidLooks := .later }
def DeskLongCardSaid : Prop := Claim7.holds Tryz.pinned (.plain (OpenSpec.ofChange deskLongSpec)) deskLongCard

/-- THE TIED CARD OF 'steamerlaw28.DeskWords'. -/
def deskWordsCard : Claim7 := { stood := { row := deskWordsRow, standIns := [], harness := (true, "9107884afa5c15a7d68593d52cde91a1c7e1a439664920c1676b17a3531fdaaf"), looks := true }, kinds := [], alts := [], laidByText := true, laidKinds := [.data, .data, .data, .data, .sentinel, .sentinel, .pinned], laidTests := true, laidLooks := .later }
def DeskWordsCardSaid : Prop := Claim7.holds Tryz.pinned (.plain (OpenSpec.ofChange deskWordsSpec)) deskWordsCard

/-- THE SECOND FORM's CARD OF 'steamerlaw28.DeskLong'. -/
def deskLongUptoCard : Claim7 := { stood := { row := deskLongUptoRow, standIns := [], harness := (true, "9107884afa5c15a7d68593d52cde91a1c7e1a439664920c1676b17a3531fdaaf"), looks := true }, kinds := [], alts := [], laidByText := true, laidKinds := [.data, .data, .data, .data, .sentinel, .sentinel, .pinned], laidTests := true, laidLooks := .later }
def DeskLongUptoCardSaid : Prop := Claim7.holds Tryz.pinned (.plain (OpenSpec.upto deskLongSpec)) deskLongUptoCard

/-- THE SECOND FORM's CARD OF 'steamerlaw28.DeskWords'. -/
def deskWordsUptoCard : Claim7 := { stood := { row := deskWordsUptoRow, standIns := [], harness := (true, "9107884afa5c15a7d68593d52cde91a1c7e1a439664920c1676b17a3531fdaaf"), looks := true }, kinds := [], alts := [], laidByText := true, laidKinds := [.data, .data, .data, .data, .sentinel, .sentinel, .pinned], laidTests := true, laidLooks := .later }
def DeskWordsUptoCardSaid : Prop := Claim7.holds Tryz.pinned (.plain (OpenSpec.upto deskWordsSpec)) deskWordsUptoCard
end Rows
end Go.Proofs.YtalnkjpgnkfedaaGreatDoor
