/- Pieces of the run: each carried out by the kernel. -/
import Derived.Test.YtdfcaghanloiaaaGreatDoorS
import Derived.KernelRfl
namespace Go.Proofs.YtdfcaghanloiaaaGreatDoor.journalNil
open Go Go.PB Go.PB.W
set_option linter.unusedVariables false

theorem R4 : runC Tryz.prog [] 100000 16 [0, 1, 2, 11, 12, 15, 16] S3 = some S4 := by kernel_rfl

theorem R5 : runC Tryz.prog [] 100000 1 [0, 1, 2, 11, 12, 15, 16] S4 = some (S5 (goI long.length)) := by kernel_rfl

theorem R6 : runC Tryz.prog [] 100000 32 [0, 1, 2, 11, 12, 15, 16] (S5 (i 16777217)) = some S6 := by kernel_rfl

end Go.Proofs.YtdfcaghanloiaaaGreatDoor.journalNil
