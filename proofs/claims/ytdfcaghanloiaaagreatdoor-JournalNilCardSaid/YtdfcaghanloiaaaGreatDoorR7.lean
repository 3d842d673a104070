/- Pieces of the run: each carried out by the kernel. -/
import Derived.Test.YtdfcaghanloiaaaGreatDoorS
import Derived.KernelRfl
namespace Go.Proofs.YtdfcaghanloiaaaGreatDoor.journalNil
open Go Go.PB Go.PB.W
set_option linter.unusedVariables false

theorem R22 : runC Tryz.prog [] 100000 5000 [0, 1, 2, 11, 12, 15, 16, 17, 18, 19, 20, 21, 23, 24, 25, 26, 48, 49, 51, 53, 55, 56, 58, 59, 61, 63, 65, 66, 87, 96, 116, 125, 126, 361, 362, 364, 366,
  368, 369, 371, 372, 374, 376, 378, 379, 400, 409, 439, 466, 467, 695, 697, 863, 919, 989, 990, 992, 994, 996, 997, 1028, 1037, 1069, 1072, 1073, 1075, 1077,
  1079, 1080, 1082, 1224, 1226, 1228, 1330, 1331, 1333] S21 = some S22 := by kernel_rfl

end Go.Proofs.YtdfcaghanloiaaaGreatDoor.journalNil
