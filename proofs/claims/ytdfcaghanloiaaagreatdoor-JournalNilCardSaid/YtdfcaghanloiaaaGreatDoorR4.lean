/- Pieces of the run: each carried out by the kernel. -/
import Derived.Test.YtdfcaghanloiaaaGreatDoorS
import Derived.KernelRfl
namespace Go.Proofs.YtdfcaghanloiaaaGreatDoor.journalNil
open Go Go.PB Go.PB.W
set_option linter.unusedVariables false

theorem R13 : runC Tryz.prog [] 100000 5000 [0, 1, 2, 11, 12, 15, 16, 17, 18, 19, 20, 21, 23, 24, 25, 26, 48, 49, 51, 53, 55, 56, 58, 59, 61, 63, 65, 66, 87, 96, 116, 125, 126, 127, 128, 130, 132,
  134, 135, 301, 302, 304, 306, 308, 309, 330, 339, 361, 362, 364, 366, 368, 369, 371, 372, 374, 376, 378, 379, 400, 409, 429, 438, 439, 440, 449] S12 = some S13 := by kernel_rfl

theorem R14 : runC Tryz.prog [] 100000 5000 [0, 1, 2, 11, 12, 15, 16, 17, 18, 19, 20, 21, 23, 24, 25, 26, 48, 49, 51, 53, 55, 56, 58, 59, 61, 63, 65, 66, 87, 96, 116, 125, 126, 361, 362, 364, 366,
  368, 369, 371, 372, 374, 376, 378, 379, 400, 409, 429, 438, 439, 465, 466, 467, 468, 500, 501, 502, 521, 522] S13 = some S14 := by kernel_rfl

theorem R15 : runC Tryz.prog [] 100000 5000 [0, 1, 2, 11, 12, 15, 16, 17, 18, 19, 20, 21, 23, 24, 25, 26, 48, 49, 51, 53, 55, 56, 58, 59, 61, 63, 65, 66, 87, 96, 116, 125, 126, 361, 362, 364, 366,
  368, 369, 371, 372, 374, 376, 378, 379, 400, 409, 429, 438, 439, 465, 466, 467, 468, 543, 544, 545, 546, 547, 549, 551, 553, 554, 556, 557, 558, 560, 561,
  562, 563, 695] S14 = some S15 := by kernel_rfl

end Go.Proofs.YtdfcaghanloiaaaGreatDoor.journalNil
