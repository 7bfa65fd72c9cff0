/-
  DERIVED. GIVEN WITH THE SEED: THE CARDS: each row of YtleaanenpimanaaGreatDoorRows.lean that lists a variable, with what it lists TIED to the program's text (the seventh form; the later family's looks); each row that meets fmt, with fmt's text TOLD by the authors' own Lean function (tested against real Go, not proved from fmt's source: count such statements apart). THE CARD IS WHAT COUNTS. Prove the row's statement (the work); the ties are given (YtleaanenpimanaaGreatDoorTie.lean); close each card by the builder's one call (the guide's Derived/Test/ToyasCard.lean, 'card_holds'). Laid BY PROGRAM, IN A SANDBOX (cutbox-door.mjs). By AI agents, Wed Nov 11 2026. No macro, syntax, notation, axiom, sorry.
-/
import Derived.Test.YtleaanenpimanaaGreatDoorRows
import GoSem.ClaimSeven
namespace Go.Proofs.YtleaanenpimanaaGreatDoor
namespace Rows

/-- THE TIED CARD OF 'steamerlaw6.TreeAsks'. -/
def treeAsksCard : Claim7 := { stood := { row := treeAsksRow, standIns := [], harness := (true, "92aeb82cd1d3dab98b9de4a3e2dd6acda68c9ddf19efd73e3a46c300c3f2383f"), looks := false }, kinds := [], alts := [], laidByText := true, laidKinds := [.data, .pinned], laidTests := true, laidLooks := .later }
def TreeAsksCardSaid : Prop := Claim7.holds Tryz.pinned (.plain (OpenSpec.ofChange treeAsksSpec)) treeAsksCard

/-- THE TIED CARD OF 'steamerlaw6.TreeNorms'. -/
def treeNormsCard : Claim7 := { stood := { row := treeNormsRow, standIns := [], harness := (true, "92aeb82cd1d3dab98b9de4a3e2dd6acda68c9ddf19efd73e3a46c300c3f2383f"), looks := false }, kinds := [], alts := [], laidByText := true, laidKinds := [.data, .pinned], laidTests := true, laidLooks := .later }
def TreeNormsCardSaid : Prop := Claim7.holds Tryz.pinned (.plain (OpenSpec.ofChange treeNormsSpec)) treeNormsCard

/-- THE TIED CARD OF 'steamerlaw6.TreeParts'. -/
def treePartsCard : Claim7 := { stood := { row := treePartsRow, standIns := [], harness := (true, "92aeb82cd1d3dab98b9de4a3e2dd6acda68c9ddf19efd73e3a46c300c3f2383f"), looks := false }, kinds := [], alts := [], laidByText := true, laidKinds := [.data, .pinned], laidTests := true, laidLooks := .later }
def TreePartsCardSaid : Prop := Claim7.holds Tryz.pinned (.plain (OpenSpec.ofChange treePartsSpec)) treePartsCard

/-- THE TIED CARD OF 'steamerlaw6.TreeClasses'. -/
def treeClassesCard : Claim7 := { stood := { row := treeClassesRow, standIns := [], harness := (true, "92aeb82cd1d3dab98b9de4a3e2dd6acda68c9ddf19efd73e3a46c300c3f2383f"), looks := false }, kinds := [], alts := [], laidByText := true, laidKinds := [.data, .pinned], laidTests := true, laidLooks := .later }
def TreeClassesCardSaid : Prop := Claim7.holds Tryz.pinned (.plain (OpenSpec.ofChange treeClassesSpec)) treeClassesCard

/-- THE TIED CARD OF 'steamerlaw6.TreeKids'. -/
def treeKidsCard : Claim7 := { stood := { row := treeKidsRow, standIns := [], harness := (true, "92aeb82cd1d3dab98b9de4a3e2dd6acda68c9ddf19efd73e3a46c300c3f2383f"), looks := false }, kinds := [], alts := [], laidByText := true, laidKinds := [.data, .pinned], laidTests := true, laidLooks := .later }
def TreeKidsCardSaid : Prop := Claim7.holds Tryz.pinned (.plain (OpenSpec.ofChange treeKidsSpec)) treeKidsCard

/-- THE TIED CARD OF 'steamerlaw6.TreeSpoilt'. -/
def treeSpoiltCard : Claim7 := { stood := { row := treeSpoiltRow, standIns := [], harness := (true, "92aeb82cd1d3dab98b9de4a3e2dd6acda68c9ddf19efd73e3a46c300c3f2383f"), looks := false }, kinds := [], alts := [], laidByText := true, laidKinds := [.data, .pinned], laidTests := true, laidLooks := .later }
def TreeSpoiltCardSaid : Prop := Claim7.holds Tryz.pinned (.plain (OpenSpec.ofChange treeSpoiltSpec)) treeSpoiltCard

/-- THE TIED CARD OF 'steamerlaw8.WalkAsks'. -/
def walkAsksCard : Claim7 := { stood := { row := walkAsksRow, standIns := [], harness := (true, "92aeb82cd1d3dab98b9de4a3e2dd6acda68c9ddf19efd73e3a46c300c3f2383f"), looks := false }, kinds := [], alts := [], laidByText := true, laidKinds := [.data, .pinned], laidTests := true, laidLooks := .later }
def WalkAsksCardSaid : Prop := Claim7.holds Tryz.pinned (.plain (OpenSpec.ofChange walkAsksSpec)) walkAsksCard

/-- THE TIED CARD OF 'steamerlaw8.WalkOrders'. -/
def walkOrdersCard : Claim7 := { stood := { row := walkOrdersRow, standIns := [], harness := (true, "92aeb82cd1d3dab98b9de4a3e2dd6acda68c9ddf19efd73e3a46c300c3f2383f"), looks := false }, kinds := [], alts := [], laidByText := true, laidKinds := [.data, .pinned], laidTests := true, laidLooks := .later }
def WalkOrdersCardSaid : Prop := Claim7.holds Tryz.pinned (.plain (OpenSpec.ofChange walkOrdersSpec)) walkOrdersCard

/-- THE TIED CARD OF 'steamerlaw8.WalkFaults'. -/
def walkFaultsCard : Claim7 := { stood := { row := walkFaultsRow, standIns := [], harness := (true, "92aeb82cd1d3dab98b9de4a3e2dd6acda68c9ddf19efd73e3a46c300c3f2383f"), looks := false }, kinds := [], alts := [], laidByText := true, laidKinds := [.data, .pinned], laidTests := true, laidLooks := .later }
def WalkFaultsCardSaid : Prop := Claim7.holds Tryz.pinned (.plain (OpenSpec.ofChange walkFaultsSpec)) walkFaultsCard

/-- THE SECOND FORM's CARD OF 'steamerlaw6.TreeAsks'. -/
def treeAsksUptoCard : Claim7 := { stood := { row := treeAsksUptoRow, standIns := [], harness := (true, "92aeb82cd1d3dab98b9de4a3e2dd6acda68c9ddf19efd73e3a46c300c3f2383f"), looks := false }, kinds := [], alts := [], laidByText := true, laidKinds := [.data, .pinned], laidTests := true, laidLooks := .later }
def TreeAsksUptoCardSaid : Prop := Claim7.holds Tryz.pinned (.plain (OpenSpec.upto treeAsksSpec)) treeAsksUptoCard

/-- THE SECOND FORM's CARD OF 'steamerlaw6.TreeNorms'. -/
def treeNormsUptoCard : Claim7 := { stood := { row := treeNormsUptoRow, standIns := [], harness := (true, "92aeb82cd1d3dab98b9de4a3e2dd6acda68c9ddf19efd73e3a46c300c3f2383f"), looks := false }, kinds := [], alts := [], laidByText := true, laidKinds := [.data, .pinned], laidTests := true, laidLooks := .later }
def TreeNormsUptoCardSaid : Prop := Claim7.holds Tryz.pinned (.plain (OpenSpec.upto treeNormsSpec)) treeNormsUptoCard

/-- THE SECOND FORM's CARD OF 'steamerlaw6.TreeParts'. -/
def treePartsUptoCard : Claim7 := { stood := { row := treePartsUptoRow, standIns := [], harness := (true, "92aeb82cd1d3dab98b9de4a3e2dd6acda68c9ddf19efd73e3a46c300c3f2383f"), looks := false }, kinds := [], alts := [], laidByText := true, laidKinds := [.data, .pinned], laidTests := true, laidLooks := .later }
def TreePartsUptoCardSaid : Prop := Claim7.holds Tryz.pinned (.plain (OpenSpec.upto treePartsSpec)) treePartsUptoCard

/-- THE SECOND FORM's CARD OF 'steamerlaw6.TreeClasses'. -/
def treeClassesUptoCard : Claim7 := { stood := { row := treeClassesUptoRow, standIns := [], harness := (true, "92aeb82cd1d3dab98b9de4a3e2dd6acda68c9ddf19efd73e3a46c300c3f2383f"), looks := false }, kinds := [], alts := [], laidByText := true, laidKinds := [.data, .pinned], laidTests := true, laidLooks := .later }
def TreeClassesUptoCardSaid : Prop := Claim7.holds Tryz.pinned (.plain (OpenSpec.upto treeClassesSpec)) treeClassesUptoCard

/-- THE SECOND FORM's CARD OF 'steamerlaw6.TreeKids'. -/
def treeKidsUptoCard : Claim7 := { stood := { row := treeKidsUptoRow, standIns := [], harness := (true, "92aeb82cd1d3dab98b9de4a3e2dd6acda68c9ddf19efd73e3a46c300c3f2383f"), looks := false }, kinds := [], alts := [], laidByText := true, laidKinds := [.data, .pinned], laidTests := true, laidLooks := .later }
def TreeKidsUptoCardSaid : Prop := Claim7.holds Tryz.pinned (.plain (OpenSpec.upto treeKidsSpec)) treeKidsUptoCard

/-- THE SECOND FORM's CARD OF 'steamerlaw6.TreeSpoilt'. -/
def treeSpoiltUptoCard : Claim7 := { stood := { row := treeSpoiltUptoRow, standIns := [], harness := (true, "92aeb82cd1d3dab98b9de4a3e2dd6acda68c9ddf19efd73e3a46c300c3f2383f"), looks := false }, kinds := [], alts := [], laidByText := true, laidKinds := [.data, .pinned], laidTests := true, laidLooks := .later }
def TreeSpoiltUptoCardSaid : Prop := Claim7.holds Tryz.pinned (.plain (OpenSpec.upto treeSpoiltSpec)) treeSpoiltUptoCard

/-- THE SECOND FORM's CARD OF 'steamerlaw8.WalkAsks'. -/
def walkAsksUptoCard : Claim7 := { stood := { row := walkAsksUptoRow, standIns := [], harness := (true, "92aeb82cd1d3dab98b9de4a3e2dd6acda68c9ddf19efd73e3a46c300c3f2383f"), looks := false }, kinds := [], alts := [], laidByText := true, laidKinds := [.data, .pinned], laidTests := true, laidLooks := .later }
def WalkAsksUptoCardSaid : Prop := Claim7.holds Tryz.pinned (.plain (OpenSpec.upto walkAsksSpec)) walkAsksUptoCard

/-- THE SECOND FORM's CARD OF 'steamerlaw8.WalkOrders'. -/
def walkOrdersUptoCard : Claim7 := { stood := { row := walkOrdersUptoRow, standIns := [], harness := (true, "92aeb82cd1d3dab98b9de4a3e2dd6acda68c9ddf19efd73e3a46c300c3f2383f"), looks := false }, kinds := [], alts := [], laidByText := true, laidKinds := [.data, .pinned], laidTests := true, laidLooks := .later }
def WalkOrdersUptoCardSaid : Prop := Claim7.holds Tryz.pinned (.plain (OpenSpec.upto walkOrdersSpec)) walkOrdersUptoCard

/-- THE SECOND FORM's CARD OF 'steamerlaw8.WalkFaults'. -/
def walkFaultsUptoCard : Claim7 := { stood := { row := walkFaultsUptoRow, standIns := [], harness := (true, "92aeb82cd1d3dab98b9de4a3e2dd6acda68c9ddf19efd73e3a46c300c3f2383f"), looks := false }, kinds := [], alts := [], laidByText := true, laidKinds := [.data, .pinned], laidTests := true, laidLooks := .later }
def WalkFaultsUptoCardSaid : Prop := Claim7.holds Tryz.pinned (.plain (OpenSpec.upto walkFaultsSpec)) walkFaultsUptoCard
end Rows
end Go.Proofs.YtleaanenpimanaaGreatDoor
