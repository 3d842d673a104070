/- The closed facts that the card TwinNil asks of the program. -/
import Derived.Test.YtabfeencbambmaaGreatDoorRows
import Derived.Test.YtabfeencbambmaaGreatDoorCards
import Derived.SevenTiedAt
namespace Go.Proofs.YtabfeencbambmaaGreatDoor.twinNil
open Go
set_option linter.unusedVariables false
set_option linter.unusedSimpArgs false

set_option maxHeartbeats 8000000 in
theorem cardWf : Rows.twinNilRow.wfByText (OpenSpec.ofChange Rows.twinNilSpec) = true := by kernel_rfl
set_option maxHeartbeats 8000000 in
theorem cardMain : Tryz.pinned.checked.prog.mainIs = some (true, "a425c5ed14fd29ef96ef32b4d28e662ace4c2241ad9e3cc39cb7b2212ddb112e".toList) := by kernel_rfl
set_option maxHeartbeats 8000000 in
theorem cardNamed : Tryz.prog.funcNamed Tryz.f3.name = some 3 := by kernel_rfl
set_option maxHeartbeats 8000000 in
theorem cardLooks : true = Tryz.pinned.checked.prog.looks [] := by kernel_rfl
set_option maxHeartbeats 8000000 in
theorem cardStand : (([3, 22, 24] : List Nat).all fun u => !Tryz.pinned.checked.prog.wantsStandIn u) = true := by kernel_rfl
set_option maxHeartbeats 8000000 in
theorem noneGoes : Tryz.pinned.checked.prog.funcs.toList.all (fun fn => !fn.goes) = true := by kernel_rfl

/-- no function of the program starts a goroutine: so no call does -/
theorem goes_none {P : Program} {c : OpenClaim} (hs : c.start = .entering) (h : P.funcs.toList.all (fun fn => !fn.goes) = true) : false = c.goesBy P := by
  have hg : ∀ g : Nat, (P.funcs[g]?).any Func.goes = false := by
    intro g
    cases hgf : P.funcs[g]? with
    | none => rfl
    | some fn =>
      have hm : fn ∈ P.funcs.toList := by
        have := Array.mem_of_getElem? hgf
        simpa using this
      have := List.all_eq_true.1 h fn hm
      simpa using this
  have hany : P.funcs.any Func.goes = false := by
    rw [Array.any_eq_false']
    intro fn hm
    have := List.all_eq_true.1 h fn (by simpa using hm)
    simpa using this
  have hP : ∀ f, P.goes f = false := by
    intro f
    unfold Program.goes
    rw [hany, Bool.and_false, Bool.or_false]
    apply List.any_eq_false.2
    intro g _
    rw [hg g]
    simp
  unfold OpenClaim.goesBy Program.goesAt Program.goesFrom
  rw [hs]
  cases P.funcNamed c.func with
  | none => rfl
  | some f => simp [hP f]

theorem cardGoes : false = Rows.twinNilRow.goesBy Tryz.pinned.checked.prog := goes_none rfl noneGoes

set_option maxHeartbeats 8000000 in
theorem cardFacts (f : FuncId) (fn : Func) (hf : Tryz.pinned.checked.prog.funcNamed Rows.twinNilRow.func = some f) (hfn : Tryz.pinned.checked.prog.funcs[f]? = some fn) :
    true = Tryz.pinned.checked.prog.looks [] ∧ ∀ (j : Nat) t, fn.params[j]? = some t → Tryz.pinned.checked.prog.wantsStandIn t = false := by
  obtain rfl : f = 3 := Option.some.inj (cardNamed.symm.trans hf) |>.symm
  obtain rfl : fn = Tryz.f3 := (Option.some.inj (Tryz.func3.symm.trans hfn)).symm
  refine ⟨cardLooks, fun j t ht => ?_⟩
  rw [Tryz.params3] at ht
  have hm : t ∈ ([3, 22, 24] : List Nat) := by simpa using Array.mem_of_getElem? ht
  have h := List.all_eq_true.1 cardStand t hm
  revert h
  generalize Tryz.pinned.checked.prog.wantsStandIn t = b
  intro h
  cases b
  · rfl
  · cases h
end Go.Proofs.YtabfeencbambmaaGreatDoor.twinNil
