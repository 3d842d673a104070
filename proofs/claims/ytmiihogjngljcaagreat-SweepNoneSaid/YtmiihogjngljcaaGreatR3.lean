/- Pieces of the run: each carried out by the kernel. -/
import Derived.Test.YtmiihogjngljcaaGreatS
import Derived.KernelRfl
namespace Go.Proofs.YtmiihogjngljcaaGreat.sweepNone
open Go Go.PB Go.PB.W
set_option linter.unusedVariables false

theorem R10 : rangeC Tryz.prog 100000 3 1 [0, 1, 2, 17, 24, 31, 32, 33, 34, 35, 87, 139, 142, 143, 144, 145, 146, 409, 410, 671, 674, 675] [8, 9, 10, 11, 39, 40, 41, 42, 43, 44, 45, 46, 76, 77, 78, 80, 81, 82, 83, 84, 85, 86, 90, 91, 92, 93, 99, 100, 101, 107, 108, 109] 698 S9 = some (List.replicate 6 S10) := by kernel_rfl

end Go.Proofs.YtmiihogjngljcaaGreat.sweepNone
