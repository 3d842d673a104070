/- Pieces of the run: each carried out by the kernel. -/
import Derived.Test.YtmiihogjngljcaaGreatS
import Derived.KernelRfl
namespace Go.Proofs.YtmiihogjngljcaaGreat.sweepNone
open Go Go.PB Go.PB.W
set_option linter.unusedVariables false

theorem R1 : runC Tryz.prog [40] 100000 6000 [0, 1, 2, 17, 24, 31, 32, 33, 34, 35, 87, 139, 142, 143, 144, 145, 146, 147, 148, 149, 150, 151] S0 = some S1 := by kernel_rfl

theorem R2 : runC Tryz.prog [40] 100000 3649 [0, 1, 2, 17, 24, 31, 32, 33, 34, 35, 87, 139, 142, 143, 144, 145, 146, 147, 148, 149, 242, 243, 244, 245, 246, 247, 248, 249] S1 = some S2 := by kernel_rfl

theorem R3 : runC Tryz.prog [40] 100000 3649 [0, 1, 2, 17, 24, 31, 32, 33, 34, 35, 87, 139, 142, 143, 144, 145, 146, 147, 148, 149, 242, 243, 244, 315, 316, 317, 318, 319, 332, 333, 334, 335, 368, 369,
  370] S2 = some S3 := by kernel_rfl

end Go.Proofs.YtmiihogjngljcaaGreat.sweepNone
