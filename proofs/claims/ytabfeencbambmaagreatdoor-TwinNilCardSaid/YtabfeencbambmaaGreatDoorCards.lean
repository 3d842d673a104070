/-
  DERIVED. GIVEN WITH THE SEED: THE CARDS: each row of YtabfeencbambmaaGreatDoorRows.lean that lists a variable, with what it lists TIED to the program's text (the seventh form; the later family's looks); each row that meets fmt, with fmt's text TOLD by the authors' own Lean function (tested against real Go, not proved from fmt's source: count such statements apart). THE CARD IS WHAT COUNTS. Prove the row's statement (the work); the ties are given (YtabfeencbambmaaGreatDoorTie.lean); close each card by the builder's one call (the guide's Derived/Test/ToyasCard.lean, 'card_holds'). Laid BY PROGRAM, IN A SANDBOX (cutbox-door.mjs). By AI agents, Wed Nov 11 2026. No macro, syntax, notation, axiom, sorry.
-/
import Derived.Test.YtabfeencbambmaaGreatDoorRows
import GoSem.ClaimSeven
namespace Go.Proofs.YtabfeencbambmaaGreatDoor
namespace Rows

/-- THE TIED CARD OF 'posternlaw26.TwinNil'. -/
def twinNilCard : Claim7 := { stood := { row := twinNilRow, standIns := [], harness := (true, "a425c5ed14fd29ef96ef32b4d28e662ace4c2241ad9e3cc39cb7b2212ddb112e"), looks := true }, kinds := [], alts := [], laidByText := true, laidKinds := [.data, .data, .data, .handle], laidTests := true, laidLooks := .later }
def TwinNilCardSaid : Prop := Claim7.holds Tryz.pinned (.plain (OpenSpec.ofChange twinNilSpec)) twinNilCard

/-- THE SECOND FORM's CARD OF 'posternlaw26.TwinNil'. -/
def twinNilUptoCard : Claim7 := { stood := { row := twinNilUptoRow, standIns := [], harness := (true, "a425c5ed14fd29ef96ef32b4d28e662ace4c2241ad9e3cc39cb7b2212ddb112e"), looks := true }, kinds := [], alts := [], laidByText := true, laidKinds := [.data, .data, .data, .handle], laidTests := true, laidLooks := .later }
def TwinNilUptoCardSaid : Prop := Claim7.holds Tryz.pinned (.plain (OpenSpec.upto twinNilSpec)) twinNilUptoCard
end Rows
end Go.Proofs.YtabfeencbambmaaGreatDoor
