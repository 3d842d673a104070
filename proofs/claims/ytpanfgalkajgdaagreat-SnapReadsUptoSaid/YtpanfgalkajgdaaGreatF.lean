/- The closed facts that the row SnapReads (second form) asks of the program, each a lemma of its own. -/
import Derived.Test.YtpanfgalkajgdaaGreatRows
import Derived.JoinedCond
import Derived.LaidMore
import Derived.LaidLaws
import Derived.LaidHandle
import Derived.Stop.Joined
import Derived.SevenTiedAt
namespace Go.Proofs.YtpanfgalkajgdaaGreat.snapReads
open Go
set_option linter.all false

set_option maxHeartbeats 8000000 in
set_option maxRecDepth 100000 in
theorem closed : joinedFacts Tryz.prog 3 Tryz.f3 (Rows.OpenSpec.upto Rows.snapReadsSpec).bare Rows.snapReadsUptoRow = true := by
  unfold joinedFacts
  simp only [Bool.and_eq_true]
  repeat' (refine And.intro ?_ ?_)
  all_goals (as_aux_lemma => kernel_rfl)

set_option maxHeartbeats 8000000 in
set_option maxRecDepth 100000 in
theorem wrap : Tryz.f3.isWrapper Tryz.prog Rows.snapReadsUptoRow.wrapper Rows.snapReadsUptoRow.mainSum := by
  unfold Func.isWrapper
  first | (rw [if_pos (by decide +kernel)]; as_aux_lemma => kernel_rfl) | (rw [if_neg (by decide +kernel)]; exact ⟨by as_aux_lemma => rfl, by as_aux_lemma => rfl⟩)

theorem inst : Tryz.f3.isInstance Tryz.prog Rows.snapReadsUptoRow.origin Rows.snapReadsUptoRow.targs := of_decide_eq_true (by as_aux_lemma => kernel_rfl)
end Go.Proofs.YtpanfgalkajgdaaGreat.snapReads
