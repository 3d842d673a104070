/-
  DERIVED. GIVEN WITH THE SEED: THE CARDS: each row of YthjdcddpoihcdaaGreatDoorRows.lean that lists a variable, with what it lists TIED to the program's text (the seventh form; the later family's looks); each row that meets fmt, with fmt's text TOLD by the authors' own Lean function (tested against real Go, not proved from fmt's source: count such statements apart). THE CARD IS WHAT COUNTS. Prove the row's statement (the work); the ties are given (YthjdcddpoihcdaaGreatDoorTie.lean); close each card by the builder's one call (the guide's Derived/Test/ToyasCard.lean, 'card_holds'). Laid BY PROGRAM, IN A SANDBOX (cutbox-door.mjs). By AI agents, Wed Nov 11 2026. No macro, syntax, notation, axiom, sorry.
-/
import Derived.Test.YthjdcddpoihcdaaGreatDoorRows
import GoSem.ClaimSeven
namespace Go.Proofs.YthjdcddpoihcdaaGreatDoor
namespace Rows

/-- THE TIED CARD OF 'posternlaw30.SceneNone'. -/
def sceneNoneCard : Claim7 := { stood := { row := sceneNoneRow, standIns := [], harness := (true, "b5135d4a6e58cd63d65840303ef47f6c0868c9fd8f57605004555b477e92e673"), looks := true }, kinds := [], alts := [], laidByText := true, laidKinds := [.data, .data, .data, .sentinel, .sentinel], laidTests := true, laidLooks := .later }
def SceneNoneCardSaid : Prop := Claim7.holds Tryz.pinned (.plain (OpenSpec.ofChange sceneNoneSpec)) sceneNoneCard

/-- THE SECOND FORM's CARD OF 'posternlaw30.SceneNone'. -/
def sceneNoneUptoCard : Claim7 := { stood := { row := sceneNoneUptoRow, standIns := [], harness := (true, "b5135d4a6e58cd63d65840303ef47f6c0868c9fd8f57605004555b477e92e673"), looks := true }, kinds := [], alts := [], laidByText := true, laidKinds := [.data, .data, .data, .sentinel, .sentinel], laidTests := true, laidLooks := .later }
def SceneNoneUptoCardSaid : Prop := Claim7.holds Tryz.pinned (.plain (OpenSpec.upto sceneNoneSpec)) sceneNoneUptoCard
end Rows
end Go.Proofs.YthjdcddpoihcdaaGreatDoor
