/-
  DERIVED. GIVEN WITH THE SEED: THE CARDS: each row of YtiebbecknfpdeaaDoorRows.lean that lists a variable, with what it lists TIED to the program's text (the seventh form; the later family's looks); each row that meets fmt, with fmt's text TOLD by the authors' own Lean function (tested against real Go, not proved from fmt's source: count such statements apart). THE CARD IS WHAT COUNTS. Prove the row's statement (the work); the ties are given (YtiebbecknfpdeaaDoorTie.lean); close each card by the builder's one call (the guide's Derived/Test/ToyasCard.lean, 'card_holds'). Laid BY PROGRAM, IN A SANDBOX (cutbox-door.mjs). By AI agents, Wed Nov 11 2026. No macro, syntax, notation, axiom, sorry.
-/
import Derived.Test.YtiebbecknfpdeaaDoorRows
import GoSem.ClaimSeven
namespace Go.Proofs.YtiebbecknfpdeaaDoor
namespace Rows

/-- THE TIED CARD OF 'steamerlaw8.WalkTurns'. -/
def walkTurnsCard : Claim7 := { stood := { row := walkTurnsRow, standIns := [], harness := (true, "00e5f056c67a6e8b5c01a06cbf970072086f98d56eab896707bc242ad347e1ea"), looks := false }, kinds := [], alts := [], laidByText := true, laidKinds := [.data, .pinned], laidTests := true, laidLooks := .later }
def WalkTurnsCardSaid : Prop := Claim7.holds Tryd.pinned (.plain (OpenSpec.ofChange walkTurnsSpec)) walkTurnsCard

/-- THE SECOND FORM's CARD OF 'steamerlaw8.WalkTurns'. -/
def walkTurnsUptoCard : Claim7 := { stood := { row := walkTurnsUptoRow, standIns := [], harness := (true, "00e5f056c67a6e8b5c01a06cbf970072086f98d56eab896707bc242ad347e1ea"), looks := false }, kinds := [], alts := [], laidByText := true, laidKinds := [.data, .pinned], laidTests := true, laidLooks := .later }
def WalkTurnsUptoCardSaid : Prop := Claim7.holds Tryd.pinned (.plain (OpenSpec.upto walkTurnsSpec)) walkTurnsUptoCard
end Rows
end Go.Proofs.YtiebbecknfpdeaaDoor
