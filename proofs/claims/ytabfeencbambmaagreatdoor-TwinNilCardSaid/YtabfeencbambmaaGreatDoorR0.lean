/- Pieces of the run: each carried out by the kernel. -/
import Derived.Test.YtabfeencbambmaaGreatDoorS1
import Derived.Test.YtabfeencbambmaaGreatDoorV
import Derived.KernelRfl
namespace Go.Proofs.YtabfeencbambmaaGreatDoor.twinNil
open Go Go.PB Go.PB.W
set_option linter.unusedVariables false

theorem R1 : runC Tryz.prog [] 100000 3764 [0, 1, 2, 3, 4, 5, 6, 7, 9, 10, 11, 12, 14, 16, 18, 19, 21, 22, 24, 26, 28, 29, 31, 50, 52, 53, 64, 66, 74, 75, 77, 79, 81, 82, 84, 85, 87, 89, 91, 92, 99,
  105, 106] S0 = some S1 := by kernel_rfl

theorem R2 : runC Tryz.prog [] 100000 1 [0, 1, 2, 3, 4, 5, 6, 7, 9, 10, 11, 12, 14, 16, 18, 19, 21, 22, 24, 26, 28, 29, 31, 50, 52, 53, 64, 66, 74, 75, 77, 79, 81, 82, 84, 85, 87, 89, 91, 92, 99,
  105, 106, 107] S1 = some S2 := by kernel_rfl

theorem R3 : runC Tryz.prog [] 100000 1 [0, 1, 2, 3, 4, 5, 6, 7, 9, 10, 11, 12, 14, 16, 18, 19, 21, 22, 24, 26, 28, 29, 31, 50, 52, 53, 64, 66, 74, 75, 77, 79, 81, 82, 84, 85, 87, 89, 91, 92, 99,
  105, 106, 107] S2 = some S3 := by kernel_rfl

theorem I4 : enterB Tryz.prog 9 [.ptr 106 0, .ptr 106 0, .slice 107 0 65537 (some 65537)] .normal = some S3.fr := by kernel_rfl
theorem P4 : (memC S3.next S3.heap).get 106 = some (.cells [p 82 0, .ptr 92 0, n 99 0 1, .slice 105 0 1 none, z] 30 false) := by kernel_rfl
theorem L4 : (memC S3.next S3.heap).get 105 = some (.cells [.int .i64 0, .nils, .nils, .nils] 52 false) := by kernel_rfl
theorem T4 : (memC S3.next S3.heap).get 107 = some (.cells (repl [.int .i64 0, .int .i64 0] 65537) 24 false) := by kernel_rfl
theorem A4 : callR Tryz.prog 3000 18 [.ptr 106 0] (memC S3.next S3.heap) (S3.next + 500) [0, 1, 2, 3, 4, 5, 6, 7, 9, 10, 11, 12, 14, 16, 18, 19, 21, 22, 24, 26, 28, 29, 31, 50, 52, 53, 64, 66, 74, 75, 77, 79, 81, 82, 84, 85, 87, 89, 91, 92, 99,
  105, 106, 107] = some (.ptr 116 0, S3.heap) := by kernel_rfl
theorem B4 : callR Tryz.prog 3000 18 [.ptr 106 0] (memC (S3.next + 500) S3.heap) (S3.next + 1000) [0, 1, 2, 3, 4, 5, 6, 7, 9, 10, 11, 12, 14, 16, 18, 19, 21, 22, 24, 26, 28, 29, 31, 50, 52, 53, 64, 66, 74, 75, 77, 79, 81, 82, 84, 85, 87, 89, 91, 92, 99,
  105, 106, 107] = some (.ptr 616 0, S3.heap) := by kernel_rfl
theorem D4 : DoesG (fun _ => True) Tryz.prog 9 [.ptr 106 0, .ptr 106 0, .slice 107 0 65537 (some 65537)] (.tuple [.int .i64 0, .int .i64 0, .bool false, .int .i64 4]) (memC S3.next S3.heap) (memC (S3.next + 1000) S3.heap) := does_alike A4 B4 P4 L4 T4
theorem R4 : backR Tryz.prog [] 100000 0 S3 (.tuple [.int .i64 0, .int .i64 0, .bool false, .int .i64 4]) (memC (S3.next + 1000) S3.heap) [0, 1, 2, 3, 4, 5, 6, 7, 9, 10, 11, 12, 14, 16, 18, 19, 21, 22, 24, 26, 28, 29, 31, 50, 52, 53, 64, 66, 74, 75, 77, 79, 81, 82, 84, 85, 87, 89, 91, 92, 99,
  105, 106, 107] = some S4 := by kernel_rfl

theorem R5 : runC Tryz.prog [] 100000 13 [0, 1, 2, 3, 4, 5, 6, 7, 9, 10, 11, 12, 14, 16, 18, 19, 21, 22, 24, 26, 28, 29, 31, 50, 52, 53, 64, 66, 74, 75, 77, 79, 81, 82, 84, 85, 87, 89, 91, 92, 99,
  105, 106, 107] S4 = some S5 := by kernel_rfl

theorem R6 : runC Tryz.prog [] 100000 1 [0, 1, 2, 3, 4, 5, 6, 7, 9, 10, 11, 12, 14, 16, 18, 19, 21, 22, 24, 26, 28, 29, 31, 50, 52, 53, 64, 66, 74, 75, 77, 79, 81, 82, 84, 85, 87, 89, 91, 92, 99,
  105, 106, 107, 1108] S5 = some S6 := by kernel_rfl

theorem R7 : runC Tryz.prog [] 100000 1 [0, 1, 2, 3, 4, 5, 6, 7, 9, 10, 11, 12, 14, 16, 18, 19, 21, 22, 24, 26, 28, 29, 31, 50, 52, 53, 64, 66, 74, 75, 77, 79, 81, 82, 84, 85, 87, 89, 91, 92, 99,
  105, 106, 107, 1108] S6 = some S7 := by kernel_rfl

theorem I8 : enterB Tryz.prog 10 [.ptr 106 0, .int .i64 1, .int .i64 0, .slice 1108 0 65537 (some 65537)] .normal = some S7.fr := by kernel_rfl
theorem P8 : (memC S7.next S7.heap).get 106 = some (.cells [p 82 0, .ptr 92 0, n 99 0 1, .slice 105 0 1 none, z] 30 false) := by kernel_rfl
theorem L8 : (memC S7.next S7.heap).get 105 = some (.cells [.int .i64 0, .nils, .nils, .nils] 52 false) := by kernel_rfl
theorem T8 : (memC S7.next S7.heap).get 1108 = some (.cells (repl [.int .i64 0, .int .i64 0] 65537) 24 false) := by kernel_rfl
noncomputable def M8 : List (Nat × BObj) := [(1109,  .map [] 0), (1110,  .map [] 0), (1112,  q [i 0] 22), (1114,  q [f, f] 4), (1116,  q [i 0, i 0] 3), (1117,  q [n 1112 0 1, n 1114 0 2, m 1109, m 1110,
  i 0, n 1116 0 2] 62)]
theorem A8 : callR Tryz.prog 3000 18 [.ptr 106 0] (memC S7.next S7.heap) (S7.next + 500) [0, 1, 2, 3, 4, 5, 6, 7, 9, 10, 11, 12, 14, 16, 18, 19, 21, 22, 24, 26, 28, 29, 31, 50, 52, 53, 64, 66, 74, 75, 77, 79, 81, 82, 84, 85, 87, 89, 91, 92, 99,
  105, 106, 107, 1108, 1109, 1110, 1112, 1114, 1116, 1117] = some (.ptr 1117 0, S7.heap ++ M8) := by kernel_rfl
theorem B8 : callR Tryz.prog 3000 11 [.ptr 1117 0, .int .i64 1, .int .i64 0] (memC (S7.next + 500) (S7.heap ++ M8)) (S7.next + 1000) [0, 1, 2, 3, 4, 5, 6, 7, 9, 10, 11, 12, 14, 16, 18, 19, 21, 22, 24, 26, 28, 29, 31, 50, 52, 53, 64, 66, 74, 75, 77, 79, 81, 82, 84, 85, 87, 89, 91, 92, 99,
  105, 106, 107, 1108, 1610] = some (.tuple [.slice 1610 0 (0 + 1) none, .int .i64 0], S7.heap ++ [(1610, .cells [.int .i64 0] 22 false)]) := by kernel_rfl
theorem Y8 : (memC (S7.next + 1000) (S7.heap ++ [(1610, .cells [.int .i64 0] 22 false)])).get 1610 = some (.cells (.int .i64 0 :: []) 22 false) := by kernel_rfl
theorem Z8 : collectC (memC (S7.next + 1000) (S7.heap ++ [(1610, .cells [.int .i64 0] 22 false)])) [0, 1, 2, 3, 4, 5, 6, 7, 9, 10, 11, 12, 14, 16, 18, 19, 21, 22, 24, 26, 28, 29, 31, 50, 52, 53, 64, 66, 74, 75, 77, 79, 81, 82, 84, 85, 87, 89, 91, 92, 99,
  105, 106, 107, 1108] = S7.heap := by kernel_rfl
theorem D8 : DoesG (fun _ => True) Tryz.prog 10 [.ptr 106 0, .int .i64 1, .int .i64 0, .slice 1108 0 65537 (some 65537)] (.tuple [.int .i64 0, .int .i64 0, .bool false, .int .i64 4]) (memC S7.next S7.heap) (memC (S7.next + 1000) S7.heap) := does_parted A8 B8 Y8 Z8 P8 L8 T8
theorem R8 : backR Tryz.prog [] 100000 0 S7 (.tuple [.int .i64 0, .int .i64 0, .bool false, .int .i64 4]) (memC (S7.next + 1000) S7.heap) [0, 1, 2, 3, 4, 5, 6, 7, 9, 10, 11, 12, 14, 16, 18, 19, 21, 22, 24, 26, 28, 29, 31, 50, 52, 53, 64, 66, 74, 75, 77, 79, 81, 82, 84, 85, 87, 89, 91, 92, 99,
  105, 106, 107, 1108] = some S8 := by kernel_rfl

end Go.Proofs.YtabfeencbambmaaGreatDoor.twinNil
