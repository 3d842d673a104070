/- The Go function posternlaw26.TwinNil returns true for every edge, every side and every turn, and all memory that was there before the call reads as it did. Conditions: the four listed package-level variables of the Go library read as the program lays them. -/
import Derived.Test.YtabfeencbambmaaGreatDoorO
import Derived.Test.YtabfeencbambmaaGreatDoorH
import Derived.Test.YtabfeencbambmaaGreatDoorRows
import Derived.Test.YtabfeencbambmaaGreatDoorCards
import Derived.Test.YtabfeencbambmaaGreatDoorTie
import Derived.Test.YtabfeencbambmaaGreatDoorJ
import Derived.LaidMore
import Derived.LaidLaws
import Derived.LaidHandle
import Derived.Stop.Joined
import Derived.SevenTiedAt
namespace Go.Proofs.YtabfeencbambmaaGreatDoor.twinNil
open Go Go.ChangeShapes Go.WideShapes Go.ChangeAt Go.RowKit
set_option linter.unusedVariables false
set_option linter.unusedSimpArgs false

set_option maxHeartbeats 8000000 in
theorem proved : Rows.TwinNilCardSaid :=
  Claim7.holds_tied_plain_at .later [] [.data, .data, .data, .handle] true (true, "a425c5ed14fd29ef96ef32b4d28e662ace4c2241ad9e3cc39cb7b2212ddb112e") true
    over (fun _ h => by cases h) cardWf (fun _ h => by cases h) twinNil_row_tie rfl ⟨rfl, rfl⟩ cardMain rfl cardFacts cardGoes
#print axioms proved
end Go.Proofs.YtabfeencbambmaaGreatDoor.twinNil
