/- The Go function posternlaw30.SceneNone returns true for every cue, and all memory that was there before the call reads as it did. Conditions: what is handed in is of bulk at most the bound that the row names; the listed package-level variables read as the program lays them. -/
import Derived.Test.YthjdcddpoihcdaaGreatDoorV2
import Derived.Test.YthjdcddpoihcdaaGreatDoorH
import Derived.Test.YthjdcddpoihcdaaGreatDoorRows
import Derived.Test.YthjdcddpoihcdaaGreatDoorCards
import Derived.Test.YthjdcddpoihcdaaGreatDoorTie
import Derived.SevenTiedAt
namespace Go.Proofs.YthjdcddpoihcdaaGreatDoor.sceneNone
open Go Go.ChangeShapes Go.WideShapes Go.ChangeAt Go.RowKit
set_option linter.unusedVariables false
set_option linter.unusedSimpArgs false

theorem proved : Rows.SceneNoneUptoCardSaid :=
  Claim7.holds_tied_plain_at .later [] [.data, .data, .data, .sentinel, .sentinel] true (true, "b5135d4a6e58cd63d65840303ef47f6c0868c9fd8f57605004555b477e92e673") true
    over (fun _ h => by cases h) cardWf (fun _ h => by cases h) sceneNoneUpto_row_tie rfl ⟨rfl, rfl⟩ cardMain rfl cardFacts cardGoes
#print axioms proved
end Go.Proofs.YthjdcddpoihcdaaGreatDoor.sceneNone
