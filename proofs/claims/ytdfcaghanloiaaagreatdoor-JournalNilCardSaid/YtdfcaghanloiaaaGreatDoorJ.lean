/- The pieces joined: the law returns true. -/
import Derived.Test.YtdfcaghanloiaaaGreatDoorS
import Derived.Test.YtdfcaghanloiaaaGreatDoorR0
import Derived.Test.YtdfcaghanloiaaaGreatDoorR1
import Derived.Test.YtdfcaghanloiaaaGreatDoorR2
import Derived.Test.YtdfcaghanloiaaaGreatDoorR3
import Derived.Test.YtdfcaghanloiaaaGreatDoorR4
import Derived.Test.YtdfcaghanloiaaaGreatDoorR5
import Derived.Test.YtdfcaghanloiaaaGreatDoorR6
import Derived.Test.YtdfcaghanloiaaaGreatDoorR7
import Derived.Test.YtdfcaghanloiaaaGreatDoorChecked
import Derived.KernelRfl
namespace Go.Proofs.YtdfcaghanloiaaaGreatDoor.journalNil
open Go Go.PB Go.PB.W
set_option linter.unusedVariables false

theorem mixed : Tryz.prog.follows .mixedOrders = true := Checked.mixed Tryz.checked
theorem C0 : Go.PB.Comes Tryz.prog 3 (Tryz.f3.params.toList.map (shapeB Tryz.prog)) S0 := comes_first (by kernel_rfl)
theorem C1 : Go.PB.Comes Tryz.prog 3 (Tryz.f3.params.toList.map (shapeB Tryz.prog)) S1 := comes_next mixed C0 R1
theorem C2 : Go.PB.Comes Tryz.prog 3 (Tryz.f3.params.toList.map (shapeB Tryz.prog)) S2 := comes_next mixed C1 R2
theorem C3 : Go.PB.Comes Tryz.prog 3 (Tryz.f3.params.toList.map (shapeB Tryz.prog)) S3 := comes_zerosC mixed C2 H3 R3
theorem C4 : Go.PB.Comes Tryz.prog 3 (Tryz.f3.params.toList.map (shapeB Tryz.prog)) S4 := comes_next mixed C3 R4
theorem C5 : Go.PB.Comes Tryz.prog 3 (Tryz.f3.params.toList.map (shapeB Tryz.prog)) (S5 (i 16777217)) := by
  have h := comes_next mixed C4 R5
  rwa [long_len] at h
theorem C6 : Go.PB.Comes Tryz.prog 3 (Tryz.f3.params.toList.map (shapeB Tryz.prog)) S6 := comes_next mixed C5 R6
theorem C7 : Go.PB.Comes Tryz.prog 3 (Tryz.f3.params.toList.map (shapeB Tryz.prog)) (S7 (i 16777217)) := by
  have h := comes_next mixed C6 R7
  rwa [long_len] at h
theorem C8 : Go.PB.Comes Tryz.prog 3 (Tryz.f3.params.toList.map (shapeB Tryz.prog)) S8 := comes_next mixed C7 R8
theorem C9 : Go.PB.Comes Tryz.prog 3 (Tryz.f3.params.toList.map (shapeB Tryz.prog)) (S9 (i 16777217)) := by
  have h := comes_next mixed C8 R9
  rwa [long_len] at h
theorem C10 : Go.PB.Comes Tryz.prog 3 (Tryz.f3.params.toList.map (shapeB Tryz.prog)) S10 := comes_next mixed C9 R10
theorem C11 : Go.PB.Comes Tryz.prog 3 (Tryz.f3.params.toList.map (shapeB Tryz.prog)) S11 := comes_next mixed C10 R11
theorem C12 : Go.PB.Comes Tryz.prog 3 (Tryz.f3.params.toList.map (shapeB Tryz.prog)) S12 := comes_next mixed C11 R12
theorem C13 : Go.PB.Comes Tryz.prog 3 (Tryz.f3.params.toList.map (shapeB Tryz.prog)) S13 := comes_next mixed C12 R13
theorem C14 : Go.PB.Comes Tryz.prog 3 (Tryz.f3.params.toList.map (shapeB Tryz.prog)) S14 := comes_next mixed C13 R14
theorem C15 : Go.PB.Comes Tryz.prog 3 (Tryz.f3.params.toList.map (shapeB Tryz.prog)) S15 := comes_next mixed C14 R15
theorem C16 : Go.PB.Comes Tryz.prog 3 (Tryz.f3.params.toList.map (shapeB Tryz.prog)) S16 := comes_next mixed C15 R16
theorem C17 : Go.PB.Comes Tryz.prog 3 (Tryz.f3.params.toList.map (shapeB Tryz.prog)) S17 := comes_next mixed C16 R17
theorem C18 : Go.PB.Comes Tryz.prog 3 (Tryz.f3.params.toList.map (shapeB Tryz.prog)) S18 := comes_next mixed C17 R18
theorem C19 : Go.PB.Comes Tryz.prog 3 (Tryz.f3.params.toList.map (shapeB Tryz.prog)) S19 := comes_next mixed C18 R19
theorem C20 : Go.PB.Comes Tryz.prog 3 (Tryz.f3.params.toList.map (shapeB Tryz.prog)) S20 := comes_next mixed C19 R20
theorem C21 : Go.PB.Comes Tryz.prog 3 (Tryz.f3.params.toList.map (shapeB Tryz.prog)) S21 := comes_next mixed C20 R21
theorem C22 : Go.PB.Comes Tryz.prog 3 (Tryz.f3.params.toList.map (shapeB Tryz.prog)) S22 := comes_next mixed C21 R22
theorem E : endC Tryz.prog [] 100000 1875 3 S22 = true := by kernel_rfl
end Go.Proofs.YtdfcaghanloiaaaGreatDoor.journalNil
