/-
  DERIVED. GIVEN WITH THE SEED: THE CARDS: each row of YtebbhlimbaapeaaGreatDoorRows.lean that lists a variable, with what it lists TIED to the program's text (the seventh form; the later family's looks); each row that meets fmt, with fmt's text TOLD by the authors' own Lean function (tested against real Go, not proved from fmt's source: count such statements apart). THE CARD IS WHAT COUNTS. Prove the row's statement (the work); the ties are given (YtebbhlimbaapeaaGreatDoorTie.lean); close each card by the builder's one call (the guide's Derived/Test/ToyasCard.lean, 'card_holds'). Laid BY PROGRAM, IN A SANDBOX (cutbox-door.mjs). By AI agents, Wed Nov 11 2026. No macro, syntax, notation, axiom, sorry.
-/
import Derived.Test.YtebbhlimbaapeaaGreatDoorRows
import GoSem.ClaimSeven
namespace Go.Proofs.YtebbhlimbaapeaaGreatDoor
namespace Rows

/-- THE TIED CARD OF 'posternlaw30.SceneNames'. -/
def sceneNamesCard : Claim7 := { stood := { row := sceneNamesRow, standIns := [], harness := (true, "124d57d68a995a762c1086fcec4bb53c71aea1d017e75e06409c76fe08d336f0"), looks := true }, kinds := [], alts := [], laidByText := true, laidKinds := [.data, .data, .data, .sentinel, .sentinel], laidTests := true, laidLooks := .later }
def SceneNamesCardSaid : Prop := Claim7.holds Tryz.pinned (.plain (OpenSpec.ofChange sceneNamesSpec)) sceneNamesCard

/-- THE SECOND FORM's CARD OF 'posternlaw30.SceneNames'. -/
def sceneNamesUptoCard : Claim7 := { stood := { row := sceneNamesUptoRow, standIns := [], harness := (true, "124d57d68a995a762c1086fcec4bb53c71aea1d017e75e06409c76fe08d336f0"), looks := true }, kinds := [], alts := [], laidByText := true, laidKinds := [.data, .data, .data, .sentinel, .sentinel], laidTests := true, laidLooks := .later }
def SceneNamesUptoCardSaid : Prop := Claim7.holds Tryz.pinned (.plain (OpenSpec.upto sceneNamesSpec)) sceneNamesUptoCard
end Rows
end Go.Proofs.YtebbhlimbaapeaaGreatDoor
