/- That the row names the very function, of the program as it is. -/
import Derived.Test.YtabfeencbambmaaGreatDoorRows
import Derived.LaidMore
import Derived.LaidLaws
import Derived.LaidHandle
import Derived.Stop.Joined
import Derived.SevenTiedAt
namespace Go.Proofs.YtabfeencbambmaaGreatDoor.twinNil
open Go
set_option linter.unusedVariables false
set_option linter.unusedSimpArgs false

set_option maxHeartbeats 8000000 in
set_option maxRecDepth 100000 in
theorem wrap : Tryz.f3.isWrapper Tryz.prog Rows.twinNilRow.wrapper Rows.twinNilRow.mainSum := by
  unfold Func.isWrapper
  first | (rw [if_pos (by decide +kernel)]; as_aux_lemma => kernel_rfl) | (rw [if_neg (by decide +kernel)]; exact ⟨by as_aux_lemma => rfl, by as_aux_lemma => rfl⟩)

theorem inst : Tryz.f3.isInstance Tryz.prog Rows.twinNilRow.origin Rows.twinNilRow.targs := of_decide_eq_true (by as_aux_lemma => kernel_rfl)
end Go.Proofs.YtabfeencbambmaaGreatDoor.twinNil
