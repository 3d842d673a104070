/- The Go function posternlaw29.JournalNil returns true for every turn and every number, and all memory that was there before the call reads as it did. Conditions: the four listed package-level variables of the Go library read as the program lays them. -/
import Derived.Test.YtdfcaghanloiaaaGreatDoorV
import Derived.Test.YtdfcaghanloiaaaGreatDoorH
import Derived.Test.YtdfcaghanloiaaaGreatDoorRows
import Derived.Test.YtdfcaghanloiaaaGreatDoorCards
import Derived.Test.YtdfcaghanloiaaaGreatDoorTies
import Derived.Test.YtdfcaghanloiaaaGreatDoorJ
import Derived.LaidMore
import Derived.LaidLaws
import Derived.LaidHandle
import Derived.Stop.Joined
import Derived.SevenTiedAt
namespace Go.Proofs.YtdfcaghanloiaaaGreatDoor.journalNil
open Go Go.ChangeShapes Go.WideShapes Go.ChangeAt Go.RowKit
set_option linter.unusedVariables false
set_option linter.unusedSimpArgs false

set_option maxHeartbeats 8000000 in
theorem proved : Rows.JournalNilCardSaid :=
  Claim7.holds_tied_plain_at .later [] [.handle, .data, .data, .data] true (true, "7aa41342ff93db2c4bc8fea0bef6d18776ccb5836886a36f7d84f193e530b3e6") true
    over (fun _ h => by cases h) cardWf (fun _ h => by cases h) journalNil_row_tie rfl ⟨rfl, rfl⟩ cardMain rfl cardFacts cardGoes
#print axioms proved
end Go.Proofs.YtdfcaghanloiaaaGreatDoor.journalNil
