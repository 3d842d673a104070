/- Pieces of the run: each carried out by the kernel. -/
import Derived.Test.YtmiihogjngljcaaGreatS
import Derived.KernelRfl
namespace Go.Proofs.YtmiihogjngljcaaGreat.sweepNone
open Go Go.PB Go.PB.W
set_option linter.unusedVariables false

theorem R7 : runC Tryz.prog [40] 100000 537 [0, 1, 2, 17, 24, 31, 32, 33, 34, 35, 87, 139, 142, 143, 144, 145, 146, 409, 410, 671, 674, 675, 676] S6 = some S7 := by kernel_rfl

theorem R8 : rangeC Tryz.prog 100000 3 1 [0, 1, 2, 17, 24, 31, 32, 33, 34, 35, 87, 139, 142, 143, 144, 145, 146, 409, 410, 671, 674, 675] [8, 9, 39, 40, 41, 42, 43, 44, 45, 46] 677 S7 = some (List.replicate 6 S8) := by kernel_rfl

theorem R9 : runC Tryz.prog [40] 100000 13 [0, 1, 2, 17, 24, 31, 32, 33, 34, 35, 87, 139, 142, 143, 144, 145, 146, 409, 410, 671, 674, 675, 677] S8 = some S9 := by kernel_rfl

end Go.Proofs.YtmiihogjngljcaaGreat.sweepNone
