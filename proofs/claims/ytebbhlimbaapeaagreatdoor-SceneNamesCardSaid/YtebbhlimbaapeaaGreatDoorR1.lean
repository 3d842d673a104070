/- Pieces of the run: each carried out by the kernel. -/
import Derived.Test.YtebbhlimbaapeaaGreatDoorS2
import Derived.KernelRfl
namespace Go.Proofs.YtebbhlimbaapeaaGreatDoor.sceneNames
open Go Go.PB Go.PB.W
set_option linter.unusedVariables false

theorem R7 : runC Tryz.prog [] 100000 5000 [0, 1, 2, 3, 4, 5, 6, 7, 8, 9, 10, 11, 12, 13, 14, 15, 16, 17, 49, 179, 335, 411, 451, 452, 453, 493, 494, 495, 496, 497, 502, 503, 504, 505, 597, 598, 599,
  608, 609, 610, 611, 628, 637, 646, 647, 656, 664, 665, 666, 667] S6 = some S7 := by kernel_rfl

theorem R8 : runC Tryz.prog [] 100000 5000 [0, 1, 2, 3, 4, 5, 6, 7, 8, 9, 10, 11, 12, 13, 14, 15, 16, 17, 49, 179, 335, 495, 674, 747, 762, 764] S7 = some S8 := by kernel_rfl

theorem R9 : runC Tryz.prog [] 100000 5000 [0, 1, 2, 3, 4, 5, 6, 7, 8, 9, 10, 11, 12, 13, 14, 15, 16, 17, 49, 179, 335, 674, 747, 762, 764, 834, 852, 854] S8 = some S9 := by kernel_rfl

theorem R10 : runC Tryz.prog [] 100000 5000 [0, 1, 2, 3, 4, 5, 6, 7, 8, 9, 10, 49, 179, 335, 674, 747, 762, 764, 852, 881, 886, 892, 897, 898, 899, 900, 901, 902, 903, 905, 906, 907, 908, 955, 963] S9 = some S10 := by kernel_rfl

theorem R11 : runC Tryz.prog [] 100000 2722 [0, 1, 2, 3, 4, 5, 6, 7, 8, 9, 10, 49, 179, 335, 674, 747, 762, 764, 852, 881, 886, 892, 897, 898, 899, 900, 901, 902, 903, 905, 906, 907, 955, 963, 1001,
  1002, 1039, 1040] S10 = some S11 := by kernel_rfl

theorem R12 : rangeC Tryz.prog 100000 6 1 [0, 1, 2, 3, 4, 5, 6, 7, 8, 9, 10, 49, 179, 335, 674, 747, 762, 764, 852, 881, 886, 892, 897, 898, 899, 900, 901, 902, 903, 905, 906, 907, 955, 963, 1001,
  1002, 1039] [3, 4, 5, 6, 20, 21, 22, 24, 25, 26, 30, 31, 32, 33, 34, 35, 36, 37, 38, 39, 40, 41, 42, 46, 47, 48, 49, 62, 63, 64, 65, 84, 89, 90, 91, 92, 93] 1095 S11 = some (List.replicate 6 S12) := by kernel_rfl

end Go.Proofs.YtebbhlimbaapeaaGreatDoor.sceneNames
