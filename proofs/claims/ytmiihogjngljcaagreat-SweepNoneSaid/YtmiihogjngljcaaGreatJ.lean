/- The pieces joined: the law returns true. -/
import Derived.Test.YtmiihogjngljcaaGreatS
import Derived.Test.YtmiihogjngljcaaGreatR0
import Derived.Test.YtmiihogjngljcaaGreatR1
import Derived.Test.YtmiihogjngljcaaGreatR2
import Derived.Test.YtmiihogjngljcaaGreatR3
import Derived.KernelRfl
namespace Go.Proofs.YtmiihogjngljcaaGreat.sweepNone
open Go Go.PB Go.PB.W
set_option linter.unusedVariables false

theorem mixed : Tryz.prog.follows .mixedOrders = true := Checked.mixed Tryz.checked
theorem C0 : Go.PB.Comes Tryz.prog 3 (Tryz.f3.params.toList.map (shapeB Tryz.prog)) S0 := comes_first (by kernel_rfl)
theorem C1 : Go.PB.Comes Tryz.prog 3 (Tryz.f3.params.toList.map (shapeB Tryz.prog)) S1 := comes_next mixed C0 R1
theorem C2 : Go.PB.Comes Tryz.prog 3 (Tryz.f3.params.toList.map (shapeB Tryz.prog)) S2 := comes_next mixed C1 R2
theorem C3 : Go.PB.Comes Tryz.prog 3 (Tryz.f3.params.toList.map (shapeB Tryz.prog)) S3 := comes_next mixed C2 R3
theorem C4 : Go.PB.Comes Tryz.prog 3 (Tryz.f3.params.toList.map (shapeB Tryz.prog)) S4 := comes_next mixed C3 R4
theorem C5 : Go.PB.Comes Tryz.prog 3 (Tryz.f3.params.toList.map (shapeB Tryz.prog)) S5 := comes_next mixed C4 R5
theorem C6 : Go.PB.Comes Tryz.prog 3 (Tryz.f3.params.toList.map (shapeB Tryz.prog)) S6 := comes_next mixed C5 R6
theorem C7 : Go.PB.Comes Tryz.prog 3 (Tryz.f3.params.toList.map (shapeB Tryz.prog)) S7 := comes_next mixed C6 R7
theorem C8 : Go.PB.Comes Tryz.prog 3 (Tryz.f3.params.toList.map (shapeB Tryz.prog)) S8 := comes_range mixed C7 R8
theorem C9 : Go.PB.Comes Tryz.prog 3 (Tryz.f3.params.toList.map (shapeB Tryz.prog)) S9 := comes_next mixed C8 R9
theorem C10 : Go.PB.Comes Tryz.prog 3 (Tryz.f3.params.toList.map (shapeB Tryz.prog)) S10 := comes_range mixed C9 R10
theorem E : endC Tryz.prog [40] 100000 251 3 S10 = true := by kernel_rfl
end Go.Proofs.YtmiihogjngljcaaGreat.sweepNone
