/- Pieces of the run: each carried out by the kernel. -/
import Derived.Test.YtebbhlimbaapeaaGreatDoorS2
import Derived.KernelRfl
namespace Go.Proofs.YtebbhlimbaapeaaGreatDoor.sceneNames
open Go Go.PB Go.PB.W
set_option linter.unusedVariables false

theorem R1 : runC Tryz.prog [] 100000 5000 [0, 1, 2, 3, 4, 5, 6, 7, 8, 9, 10, 11, 12, 13, 14, 15, 16, 17, 44, 49, 50, 51, 52, 53, 73, 74, 75, 76] S0 = some S1 := by kernel_rfl

theorem R2 : runC Tryz.prog [] 100000 5000 [0, 1, 2, 3, 4, 5, 6, 7, 8, 9, 10, 11, 12, 13, 14, 15, 16, 17, 49, 134, 179, 187, 188, 189, 190, 191, 192, 193, 194] S1 = some S2 := by kernel_rfl

theorem R3 : runC Tryz.prog [] 100000 5000 [0, 1, 2, 3, 4, 5, 6, 7, 8, 9, 10, 11, 12, 13, 14, 15, 16, 17, 49, 179, 248, 275, 276, 277, 278, 279, 283, 284, 285] S2 = some S3 := by kernel_rfl

theorem R4 : runC Tryz.prog [] 100000 5000 [0, 1, 2, 3, 4, 5, 6, 7, 8, 9, 10, 11, 12, 13, 14, 15, 16, 17, 49, 179, 325, 335, 336, 337, 338, 339, 342, 343, 344, 345, 346, 347] S3 = some S4 := by kernel_rfl

theorem R5 : runC Tryz.prog [] 100000 5000 [0, 1, 2, 3, 4, 5, 6, 7, 8, 9, 10, 11, 12, 13, 14, 15, 16, 17, 49, 179, 325, 335, 336, 337, 338, 339, 404, 405, 409] S4 = some S5 := by kernel_rfl

theorem R6 : runC Tryz.prog [] 100000 5000 [0, 1, 2, 3, 4, 5, 6, 7, 8, 9, 10, 11, 12, 13, 14, 15, 16, 17, 49, 179, 335, 411, 451, 452, 453, 493, 494, 495, 496, 497, 502, 503, 504, 505, 514, 515, 516,
  517, 534, 543, 552, 553, 554, 563, 564, 565] S5 = some S6 := by kernel_rfl

end Go.Proofs.YtebbhlimbaapeaaGreatDoor.sceneNames
