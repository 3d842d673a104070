/- Pieces of the run: each carried out by the kernel. -/
import Derived.Test.YtdfcaghanloiaaaGreatDoorS
import Derived.KernelRfl
namespace Go.Proofs.YtdfcaghanloiaaaGreatDoor.journalNil
open Go Go.PB Go.PB.W
set_option linter.unusedVariables false

theorem R1 : runC Tryz.prog [] 100000 969 [0, 1, 2, 11, 12, 15] S0 = some S1 := by kernel_rfl

theorem R2 : runC Tryz.prog [] 100000 1 [0, 1, 2, 11, 12, 15, 16] S1 = some S2 := by kernel_rfl

theorem H3 : S2.toS.h.get 16 = some (.cells (repl [.int .u8 0] 16777217) 5 false) := by kernel_rfl
theorem R3 : zerosC Tryz.prog S2 16 16777217 0 = some S3 := by kernel_rfl

end Go.Proofs.YtdfcaghanloiaaaGreatDoor.journalNil
