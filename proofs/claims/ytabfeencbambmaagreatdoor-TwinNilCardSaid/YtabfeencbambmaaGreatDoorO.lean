/- The row TwinNil holds of the program. -/
import Derived.Test.YtabfeencbambmaaGreatDoorL
import Derived.Test.YtabfeencbambmaaGreatDoorG
import Derived.Test.YtabfeencbambmaaGreatDoorF
import Derived.Test.YtabfeencbambmaaGreatDoorRows
import Derived.Test.YtabfeencbambmaaGreatDoorJ
import Derived.LaidMore
import Derived.LaidLaws
import Derived.LaidHandle
import Derived.Stop.Joined
import Derived.SevenTiedAt
namespace Go.Proofs.YtabfeencbambmaaGreatDoor.twinNil
open Go Go.ChangeShapes Go.WideShapes Go.ChangeAt Go.RowKit
set_option linter.unusedVariables false
set_option linter.unusedSimpArgs false

set_option maxHeartbeats 8000000 in
set_option maxRecDepth 100000 in
theorem over : Rows.TwinNilSaid :=
  OpenClaim.holds_of_wide 3 Tryz.f3 rfl rfl rfl rfl rfl rfl rfl ⟨rfl, rfl, rfl, rfl, rfl⟩ rfl rfl rfl rfl rfl (by as_aux_lemma => kernel_rfl) Tryz.func3 closed
    inst wrap
    (fun os started H enc _ => lifted os started H enc)

end Go.Proofs.YtabfeencbambmaaGreatDoor.twinNil
