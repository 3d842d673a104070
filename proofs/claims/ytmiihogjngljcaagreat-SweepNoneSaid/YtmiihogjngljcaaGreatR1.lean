/- Pieces of the run: each carried out by the kernel. -/
import Derived.Test.YtmiihogjngljcaaGreatS
import Derived.KernelRfl
namespace Go.Proofs.YtmiihogjngljcaaGreat.sweepNone
open Go Go.PB Go.PB.W
set_option linter.unusedVariables false

theorem R4 : runC Tryz.prog [40] 100000 3649 [0, 1, 2, 17, 24, 31, 32, 33, 34, 35, 87, 139, 142, 143, 144, 145, 146, 409, 410, 411, 412, 413, 442, 455, 456, 457, 459, 460, 461, 488, 489, 490, 491, 492,
  493, 494, 495, 496, 497, 498, 499, 500] S3 = some S4 := by kernel_rfl

theorem R5 : runC Tryz.prog [40] 100000 2672 [0, 1, 2, 17, 24, 31, 32, 33, 34, 35, 87, 139, 142, 143, 144, 145, 146, 409, 410, 411, 412, 413, 506, 507, 508, 579, 580, 581, 582] S4 = some S5 := by kernel_rfl

theorem R6 : runC Tryz.prog [40] 100000 1862 [0, 1, 2, 17, 24, 31, 32, 33, 34, 35, 87, 139, 142, 143, 144, 145, 146, 409, 410, 411, 412, 413, 506, 507, 508, 648, 649, 650] S5 = some S6 := by kernel_rfl

end Go.Proofs.YtmiihogjngljcaaGreat.sweepNone
