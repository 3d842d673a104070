/- Pieces of the run: each carried out by the kernel. -/
import Derived.Test.YtdfcaghanloiaaaGreatDoorS
import Derived.KernelRfl
namespace Go.Proofs.YtdfcaghanloiaaaGreatDoor.journalNil
open Go Go.PB Go.PB.W
set_option linter.unusedVariables false

theorem R10 : runC Tryz.prog [] 100000 5000 [0, 1, 2, 11, 12, 15, 16, 17, 18, 19, 20, 21, 23, 24, 25, 26, 48, 49, 51, 53, 55, 56, 58, 59, 61, 63, 65, 66, 87, 96, 116, 125, 126, 127, 128, 130, 132,
  134, 135, 137, 138, 139, 141, 143, 145, 146, 148, 149, 156, 158, 161, 167] (S9 (i 16777217)) = some S10 := by kernel_rfl

theorem R11 : runC Tryz.prog [] 100000 5000 [0, 1, 2, 11, 12, 15, 16, 17, 18, 19, 20, 21, 23, 24, 25, 26, 48, 49, 51, 53, 55, 56, 58, 59, 61, 63, 65, 66, 87, 96, 116, 125, 126, 127, 128, 130, 132,
  134, 135, 137, 138, 139, 141, 143, 145, 146, 148, 149, 284] S10 = some S11 := by kernel_rfl

theorem R12 : runC Tryz.prog [] 100000 5000 [0, 1, 2, 11, 12, 15, 16, 17, 18, 19, 20, 21, 23, 24, 25, 26, 48, 49, 51, 53, 55, 56, 58, 59, 61, 63, 65, 66, 87, 96, 116, 125, 126, 127, 128, 130, 132,
  134, 135, 301, 302, 304, 306, 308, 309, 330, 339, 340, 361, 362, 364, 366, 368, 369, 371, 372, 374, 376, 378, 379, 381, 382, 383, 384, 385, 386, 387, 388,
  393, 394] S11 = some S12 := by kernel_rfl

end Go.Proofs.YtdfcaghanloiaaaGreatDoor.journalNil
