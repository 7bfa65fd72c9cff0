/-
  DERIVED. GIVEN WITH THE SEED: THE CARDS: each row of YtbpmlbjapapoaaaGreatDoorRows.lean that lists a variable, with what it lists TIED to the program's text (the seventh form; the later family's looks); each row that meets fmt, with fmt's text TOLD by the authors' own Lean function (tested against real Go, not proved from fmt's source: count such statements apart). THE CARD IS WHAT COUNTS. Prove the row's statement (the work); the ties are given (YtbpmlbjapapoaaaGreatDoorTie.lean); close each card by the builder's one call (the guide's Derived/Test/ToyasCard.lean, 'card_holds'). Laid BY PROGRAM, IN A SANDBOX (cutbox-door.mjs). By AI agents, Wed Nov 11 2026. No macro, syntax, notation, axiom, sorry.
-/
import Derived.Test.YtbpmlbjapapoaaaGreatDoorRows
import GoSem.ClaimSeven
namespace Go.Proofs.YtbpmlbjapapoaaaGreatDoor
namespace Rows

/-- THE TIED CARD OF 'steamerlaw22.ArchRecs'. -/
def archRecsCard : Claim7 := { stood := { row := archRecsRow, standIns := [], harness := (true, "06fbb43b1eaffaa157105eaa2c3fc3656114fe88355f8e7a1189cbd2e0fc80a2"), looks := true }, kinds := [], alts := [], laidByText := true, laidKinds := [.data, .data, .data, .sentinel, .sentinel], laidTests := true, laidLooks := .later }
def ArchRecsCardSaid : Prop := Claim7.holds Tryz.pinned (.plain (OpenSpec.ofChange archRecsSpec)) archRecsCard

/-- THE TIED CARD OF 'steamerlaw22.ArchRaw'. -/
def archRawCard : Claim7 := { stood := { row := archRawRow, standIns := [], harness := (true, "06fbb43b1eaffaa157105eaa2c3fc3656114fe88355f8e7a1189cbd2e0fc80a2"), looks := true }, kinds := [], alts := [], laidByText := true, laidKinds := [.data, .data, .data, .sentinel, .sentinel], laidTests := true, laidLooks := .later }
def ArchRawCardSaid : Prop := Claim7.holds Tryz.pinned (.plain (OpenSpec.ofChange archRawSpec)) archRawCard

/-- THE TIED CARD OF 'steamerlaw22.ArchLinks'. -/
def archLinksCard : Claim7 := { stood := { row := archLinksRow, standIns := [], harness := (true, "06fbb43b1eaffaa157105eaa2c3fc3656114fe88355f8e7a1189cbd2e0fc80a2"), looks := true }, kinds := [], alts := [], laidByText := true, laidKinds := [.data, .data, .data, .sentinel, .sentinel], laidTests := true, laidLooks := .later }
def ArchLinksCardSaid : Prop := Claim7.holds Tryz.pinned (.plain (OpenSpec.ofChange archLinksSpec)) archLinksCard

/-- THE SECOND FORM's CARD OF 'steamerlaw22.ArchRecs'. -/
def archRecsUptoCard : Claim7 := { stood := { row := archRecsUptoRow, standIns := [], harness := (true, "06fbb43b1eaffaa157105eaa2c3fc3656114fe88355f8e7a1189cbd2e0fc80a2"), looks := true }, kinds := [], alts := [], laidByText := true, laidKinds := [.data, .data, .data, .sentinel, .sentinel], laidTests := true, laidLooks := .later }
def ArchRecsUptoCardSaid : Prop := Claim7.holds Tryz.pinned (.plain (OpenSpec.upto archRecsSpec)) archRecsUptoCard

/-- THE SECOND FORM's CARD OF 'steamerlaw22.ArchRaw'. -/
def archRawUptoCard : Claim7 := { stood := { row := archRawUptoRow, standIns := [], harness := (true, "06fbb43b1eaffaa157105eaa2c3fc3656114fe88355f8e7a1189cbd2e0fc80a2"), looks := true }, kinds := [], alts := [], laidByText := true, laidKinds := [.data, .data, .data, .sentinel, .sentinel], laidTests := true, laidLooks := .later }
def ArchRawUptoCardSaid : Prop := Claim7.holds Tryz.pinned (.plain (OpenSpec.upto archRawSpec)) archRawUptoCard

/-- THE SECOND FORM's CARD OF 'steamerlaw22.ArchLinks'. -/
def archLinksUptoCard : Claim7 := { stood := { row := archLinksUptoRow, standIns := [], harness := (true, "06fbb43b1eaffaa157105eaa2c3fc3656114fe88355f8e7a1189cbd2e0fc80a2"), looks := true }, kinds := [], alts := [], laidByText := true, laidKinds := [.data, .data, .data, .sentinel, .sentinel], laidTests := true, laidLooks := .later }
def ArchLinksUptoCardSaid : Prop := Claim7.holds Tryz.pinned (.plain (OpenSpec.upto archLinksSpec)) archLinksUptoCard
end Rows
end Go.Proofs.YtbpmlbjapapoaaaGreatDoor
