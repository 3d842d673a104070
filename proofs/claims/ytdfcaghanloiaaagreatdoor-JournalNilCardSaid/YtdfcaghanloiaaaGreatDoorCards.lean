/-
  DERIVED. GIVEN WITH THE SEED: THE CARDS: each row of YtdfcaghanloiaaaGreatDoorRows.lean that lists a variable, with what it lists TIED to the program's text (the seventh form; the later family's looks); each row that meets fmt, with fmt's text TOLD by the authors' own Lean function (tested against real Go, not proved from fmt's source: count such statements apart). THE CARD IS WHAT COUNTS. Prove the row's statement (the work); the ties are given (YtdfcaghanloiaaaGreatDoorTie.lean); close each card by the builder's one call (the guide's Derived/Test/ToyasCard.lean, 'card_holds'). Laid BY PROGRAM, IN A SANDBOX (cutbox-door.mjs). By AI agents, Wed Nov 11 2026. No macro, syntax, notation, axiom, sorry.
-/
import Derived.Test.YtdfcaghanloiaaaGreatDoorRows
import GoSem.ClaimSeven
namespace Go.Proofs.YtdfcaghanloiaaaGreatDoor
namespace Rows

/-- THE TIED CARD OF 'posternlaw29.JournalNil'. -/
def journalNilCard : Claim7 := { stood := { row := journalNilRow, standIns := [], harness := (true, "7aa41342ff93db2c4bc8fea0bef6d18776ccb5836886a36f7d84f193e530b3e6"), looks := true }, kinds := [], alts := [], laidByText := true, laidKinds := [.handle, .data, .data, .data], laidTests := true, laidLooks := .later }
def JournalNilCardSaid : Prop := Claim7.holds Tryz.pinned (.plain (OpenSpec.ofChange journalNilSpec)) journalNilCard

/-- THE SECOND FORM's CARD OF 'posternlaw29.JournalNil'. -/
def journalNilUptoCard : Claim7 := { stood := { row := journalNilUptoRow, standIns := [], harness := (true, "7aa41342ff93db2c4bc8fea0bef6d18776ccb5836886a36f7d84f193e530b3e6"), looks := true }, kinds := [], alts := [], laidByText := true, laidKinds := [.handle, .data, .data, .data], laidTests := true, laidLooks := .later }
def JournalNilUptoCardSaid : Prop := Claim7.holds Tryz.pinned (.plain (OpenSpec.upto journalNilSpec)) journalNilUptoCard
end Rows
end Go.Proofs.YtdfcaghanloiaaaGreatDoor
