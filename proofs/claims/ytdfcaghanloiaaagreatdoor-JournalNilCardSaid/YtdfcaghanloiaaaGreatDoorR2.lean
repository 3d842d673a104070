/- Pieces of the run: each carried out by the kernel. -/
import Derived.Test.YtdfcaghanloiaaaGreatDoorS
import Derived.KernelRfl
namespace Go.Proofs.YtdfcaghanloiaaaGreatDoor.journalNil
open Go Go.PB Go.PB.W
set_option linter.unusedVariables false

theorem R7 : runC Tryz.prog [] 100000 1 [0, 1, 2, 11, 12, 15, 16] S6 = some (S7 (goI long.length)) := by kernel_rfl

theorem R8 : runC Tryz.prog [] 100000 39 [0, 1, 2, 11, 12, 15, 16] (S7 (i 16777217)) = some S8 := by kernel_rfl

theorem R9 : runC Tryz.prog [] 100000 1 [0, 1, 2, 11, 12, 15, 16] S8 = some (S9 (goI long.length)) := by kernel_rfl

end Go.Proofs.YtdfcaghanloiaaaGreatDoor.journalNil
