/- The pieces joined: the law returns true. -/
import Derived.Test.YtabfeencbambmaaGreatDoorR0
import Derived.Test.YtabfeencbambmaaGreatDoorR1
import Derived.Test.YtabfeencbambmaaGreatDoorR2
import Derived.Test.YtabfeencbambmaaGreatDoorR3
import Derived.Test.YtabfeencbambmaaGreatDoorR4
import Derived.Test.YtabfeencbambmaaGreatDoorR5
import Derived.Test.YtabfeencbambmaaGreatDoorR6
import Derived.Test.YtabfeencbambmaaGreatDoorPosS
import Derived.Test.YtabfeencbambmaaGreatDoorAs
import Derived.KernelRfl
namespace Go.Proofs.YtabfeencbambmaaGreatDoor.twinNil
open Go Go.PB Go.PB.W
set_option linter.unusedVariables false

theorem mixed : Tryz.prog.follows .mixedOrders = true := by kernel_rfl
theorem C0 : Go.PB.Comes Tryz.prog 3 (Tryz.f3.params.toList.map (shapeB Tryz.prog)) S0 := comes_first (by kernel_rfl)
theorem C1 : Go.PB.Comes Tryz.prog 3 (Tryz.f3.params.toList.map (shapeB Tryz.prog)) S1 := comes_next mixed C0 R1
theorem C2 : Go.PB.Comes Tryz.prog 3 (Tryz.f3.params.toList.map (shapeB Tryz.prog)) S2 := comes_next mixed C1 R2
theorem C3 : Go.PB.Comes Tryz.prog 3 (Tryz.f3.params.toList.map (shapeB Tryz.prog)) S3 := comes_next mixed C2 R3
theorem C4 : Go.PB.Comes Tryz.prog 3 (Tryz.f3.params.toList.map (shapeB Tryz.prog)) S4 := (comesW_backG (X := fun _ => True) mixed (fun _ _ _ _ _ => trivial) C3.on I4 D4 R4).off
theorem C5 : Go.PB.Comes Tryz.prog 3 (Tryz.f3.params.toList.map (shapeB Tryz.prog)) S5 := comes_next mixed C4 R5
theorem C6 : Go.PB.Comes Tryz.prog 3 (Tryz.f3.params.toList.map (shapeB Tryz.prog)) S6 := comes_next mixed C5 R6
theorem C7 : Go.PB.Comes Tryz.prog 3 (Tryz.f3.params.toList.map (shapeB Tryz.prog)) S7 := comes_next mixed C6 R7
theorem C8 : Go.PB.Comes Tryz.prog 3 (Tryz.f3.params.toList.map (shapeB Tryz.prog)) S8 := (comesW_backG (X := fun _ => True) mixed (fun _ _ _ _ _ => trivial) C7.on I8 D8 R8).off
theorem C9 : Go.PB.Comes Tryz.prog 3 (Tryz.f3.params.toList.map (shapeB Tryz.prog)) S9 := comes_next mixed C8 R9
theorem C10 : Go.PB.Comes Tryz.prog 3 (Tryz.f3.params.toList.map (shapeB Tryz.prog)) S10 := comes_next mixed C9 R10
theorem C11 : Go.PB.Comes Tryz.prog 3 (Tryz.f3.params.toList.map (shapeB Tryz.prog)) S11 := comes_next mixed C10 R11
theorem C12 : Go.PB.Comes Tryz.prog 3 (Tryz.f3.params.toList.map (shapeB Tryz.prog)) S12 := comes_next mixed C11 R12
theorem C13 : Go.PB.Comes Tryz.prog 3 (Tryz.f3.params.toList.map (shapeB Tryz.prog)) S13 := comes_next mixed C12 R13
theorem C14 : Go.PB.Comes Tryz.prog 3 (Tryz.f3.params.toList.map (shapeB Tryz.prog)) S14 := comes_next mixed C13 R14
theorem C15 : Go.PB.Comes Tryz.prog 3 (Tryz.f3.params.toList.map (shapeB Tryz.prog)) S15 := comes_next mixed C14 R15
theorem C16 : Go.PB.Comes Tryz.prog 3 (Tryz.f3.params.toList.map (shapeB Tryz.prog)) S16 := comes_next mixed C15 R16
theorem C17 : Go.PB.Comes Tryz.prog 3 (Tryz.f3.params.toList.map (shapeB Tryz.prog)) S17 := comes_next mixed C16 R17
theorem C18 : Go.PB.Comes Tryz.prog 3 (Tryz.f3.params.toList.map (shapeB Tryz.prog)) S18 := comes_next mixed C17 R18
theorem C19 : Go.PB.Comes Tryz.prog 3 (Tryz.f3.params.toList.map (shapeB Tryz.prog)) S19 := comes_next mixed C18 R19
theorem C20 : Go.PB.Comes Tryz.prog 3 (Tryz.f3.params.toList.map (shapeB Tryz.prog)) S20 := comes_next mixed C19 R20
theorem C21 : Go.PB.Comes Tryz.prog 3 (Tryz.f3.params.toList.map (shapeB Tryz.prog)) S21 := comes_next mixed C20 R21
theorem C22 : Go.PB.Comes Tryz.prog 3 (Tryz.f3.params.toList.map (shapeB Tryz.prog)) S22 := comes_next mixed C21 R22
theorem C23 : Go.PB.Comes Tryz.prog 3 (Tryz.f3.params.toList.map (shapeB Tryz.prog)) S23 := comes_next mixed C22 R23
theorem C24 : Go.PB.Comes Tryz.prog 3 (Tryz.f3.params.toList.map (shapeB Tryz.prog)) S24 := comes_next mixed C23 R24
theorem C25 : Go.PB.Comes Tryz.prog 3 (Tryz.f3.params.toList.map (shapeB Tryz.prog)) S25 := comes_next mixed C24 R25
theorem C26 : Go.PB.Comes Tryz.prog 3 (Tryz.f3.params.toList.map (shapeB Tryz.prog)) S26 := comes_next mixed C25 R26
theorem C27 : Go.PB.Comes Tryz.prog 3 (Tryz.f3.params.toList.map (shapeB Tryz.prog)) S27 := comes_next mixed C26 R27
theorem C28 : Go.PB.Comes Tryz.prog 3 (Tryz.f3.params.toList.map (shapeB Tryz.prog)) S28 := comes_next mixed C27 R28
theorem C29 : Go.PB.Comes Tryz.prog 3 (Tryz.f3.params.toList.map (shapeB Tryz.prog)) S29 := comes_next mixed C28 R29
theorem C30 : Go.PB.Comes Tryz.prog 3 (Tryz.f3.params.toList.map (shapeB Tryz.prog)) S30 := comes_next mixed C29 R30
theorem C31 : Go.PB.Comes Tryz.prog 3 (Tryz.f3.params.toList.map (shapeB Tryz.prog)) S31 := comes_next mixed C30 R31
theorem C32 : Go.PB.Comes Tryz.prog 3 (Tryz.f3.params.toList.map (shapeB Tryz.prog)) S32 := comes_next mixed C31 R32
theorem C33 : Go.PB.Comes Tryz.prog 3 (Tryz.f3.params.toList.map (shapeB Tryz.prog)) S33 := comes_next mixed C32 R33
theorem C34 : Go.PB.Comes Tryz.prog 3 (Tryz.f3.params.toList.map (shapeB Tryz.prog)) S34 := comes_next mixed C33 R34
theorem C35 : Go.PB.Comes Tryz.prog 3 (Tryz.f3.params.toList.map (shapeB Tryz.prog)) S35 := comes_next mixed C34 R35
theorem C36 : Go.PB.Comes Tryz.prog 3 (Tryz.f3.params.toList.map (shapeB Tryz.prog)) S36 := comes_next mixed C35 R36
theorem C37 : Go.PB.Comes Tryz.prog 3 (Tryz.f3.params.toList.map (shapeB Tryz.prog)) S37 := comes_next mixed C36 R37
theorem C38 : Go.PB.Comes Tryz.prog 3 (Tryz.f3.params.toList.map (shapeB Tryz.prog)) S38 := comes_next mixed C37 R38
theorem C39 : Go.PB.Comes Tryz.prog 3 (Tryz.f3.params.toList.map (shapeB Tryz.prog)) S39 := comes_next mixed C38 R39
theorem C40 : Go.PB.Comes Tryz.prog 3 (Tryz.f3.params.toList.map (shapeB Tryz.prog)) S40 := comes_next mixed C39 R40
theorem C41 : Go.PB.Comes Tryz.prog 3 (Tryz.f3.params.toList.map (shapeB Tryz.prog)) S41 := comes_next mixed C40 R41
theorem C42 : Go.PB.Comes Tryz.prog 3 (Tryz.f3.params.toList.map (shapeB Tryz.prog)) S42 := comes_next mixed C41 R42
theorem C43 : Go.PB.Comes Tryz.prog 3 (Tryz.f3.params.toList.map (shapeB Tryz.prog)) S43 := comes_next mixed C42 R43
theorem C44 : Go.PB.Comes Tryz.prog 3 (Tryz.f3.params.toList.map (shapeB Tryz.prog)) S44 := comes_next mixed C43 R44
theorem C45 : Go.PB.Comes Tryz.prog 3 (Tryz.f3.params.toList.map (shapeB Tryz.prog)) S45 := (comesW_back (X := fun _ => True) mixed (fun _ _ _ _ _ => trivial) C44.on I45 (does_as S44.toS.h 10570 0 10573 (zi) H45) R45).off
theorem C46 : Go.PB.Comes Tryz.prog 3 (Tryz.f3.params.toList.map (shapeB Tryz.prog)) S46 := comes_next mixed C45 R46
theorem C47 : Go.PB.Comes Tryz.prog 3 (Tryz.f3.params.toList.map (shapeB Tryz.prog)) S47 := comes_next mixed C46 R47
theorem C48 : Go.PB.Comes Tryz.prog 3 (Tryz.f3.params.toList.map (shapeB Tryz.prog)) S48 := comes_next mixed C47 R48
theorem C49 : Go.PB.Comes Tryz.prog 3 (Tryz.f3.params.toList.map (shapeB Tryz.prog)) S49 := comes_next mixed C48 R49
theorem C50 : Go.PB.Comes Tryz.prog 3 (Tryz.f3.params.toList.map (shapeB Tryz.prog)) S50 := comes_next mixed C49 R50
theorem C51 : Go.PB.Comes Tryz.prog 3 (Tryz.f3.params.toList.map (shapeB Tryz.prog)) S51 := comes_next mixed C50 R51
theorem C52 : Go.PB.Comes Tryz.prog 3 (Tryz.f3.params.toList.map (shapeB Tryz.prog)) S52 := comes_next mixed C51 R52
theorem C53 : Go.PB.Comes Tryz.prog 3 (Tryz.f3.params.toList.map (shapeB Tryz.prog)) S53 := comes_next mixed C52 R53
theorem C54 : Go.PB.Comes Tryz.prog 3 (Tryz.f3.params.toList.map (shapeB Tryz.prog)) S54 := comes_next mixed C53 R54
theorem E : endC Tryz.prog [] 100000 6199 3 S54 = true := by kernel_rfl
end Go.Proofs.YtabfeencbambmaaGreatDoor.twinNil
