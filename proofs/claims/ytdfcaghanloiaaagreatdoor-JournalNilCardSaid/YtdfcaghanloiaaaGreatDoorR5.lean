/- Pieces of the run: each carried out by the kernel. -/
import Derived.Test.YtdfcaghanloiaaaGreatDoorS
import Derived.KernelRfl
namespace Go.Proofs.YtdfcaghanloiaaaGreatDoor.journalNil
open Go Go.PB Go.PB.W
set_option linter.unusedVariables false

theorem R16 : runC Tryz.prog [] 100000 5000 [0, 1, 2, 11, 12, 15, 16, 17, 18, 19, 20, 21, 23, 24, 25, 26, 48, 49, 51, 53, 55, 56, 58, 59, 61, 63, 65, 66, 87, 96, 116, 125, 126, 361, 362, 364, 366,
  368, 369, 371, 372, 374, 376, 378, 379, 400, 409, 439, 466, 467, 468, 695, 697, 699, 801, 841, 842, 843, 844, 845, 846, 848, 850, 852, 853, 855, 856, 857,
  862, 863, 864, 865, 866, 867, 868, 869, 879] S15 = some S16 := by kernel_rfl

theorem R17 : runC Tryz.prog [] 100000 5000 [0, 1, 2, 11, 12, 15, 16, 17, 18, 19, 20, 21, 23, 24, 25, 26, 48, 49, 51, 53, 55, 56, 58, 59, 61, 63, 65, 66, 87, 96, 116, 125, 126, 361, 362, 364, 366,
  368, 369, 371, 372, 374, 376, 378, 379, 400, 409, 439, 466, 467, 695, 697, 863, 919, 921, 923] S16 = some S17 := by kernel_rfl

theorem R18 : runC Tryz.prog [] 100000 5000 [0, 1, 2, 11, 12, 15, 16, 17, 18, 19, 20, 21, 23, 24, 25, 26, 48, 49, 51, 53, 55, 56, 58, 59, 61, 63, 65, 66, 87, 96, 116, 125, 126, 361, 362, 364, 366,
  368, 369, 371, 372, 374, 376, 378, 379, 400, 409, 439, 466, 467, 695, 697, 863, 919, 921, 923, 925, 926, 927, 928] S17 = some S18 := by kernel_rfl

end Go.Proofs.YtdfcaghanloiaaaGreatDoor.journalNil
