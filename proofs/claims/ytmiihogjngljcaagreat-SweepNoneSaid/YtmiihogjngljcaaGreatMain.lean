/- The Go function posternlaw28.SweepNone returns true for every subject, and all memory that was there before the call reads as it did. Conditions: the argument has no loops of pointers (the row's own cell). -/
import Derived.Test.YtmiihogjngljcaaGreatRows
import Derived.Test.YtmiihogjngljcaaGreatJ
namespace Go.Proofs.YtmiihogjngljcaaGreat.sweepNone
open Go Go.ChangeShapes Go.WideShapes Go.ChangeAt Go.RowKit
set_option linter.unusedVariables false
set_option linter.unusedSimpArgs false

theorem own : ownKnob Tryz.prog.godebug = none := by kernel_rfl

theorem laid : laidOutB Tryz.prog = true := by kernel_rfl
theorem params : Go.PB.paramsOk Tryz.prog Tryz.f3.params.toList = true := by kernel_rfl

theorem spec (H : Type) (ds : List (DataW H)) (hd : ds.length = Tryz.f3.params.toList.length) : Rows.sweepNoneSpec.fn H ds = { results := [.lit (.bool true)], args := ds } := by
  rw [Tryz.params3] at hd
  match ds, hd with
  | [d0], _ => rfl

set_option maxRecDepth 100000 in
theorem walk (W : World) (base : Nat) (args : Array Value) (hs : args.size = Tryz.f3.params.size)
    (hok : ∀ (j : Nat) t v, Tryz.f3.params[j]? = some t → args[j]? = some v → Value.okWide Tryz.prog W .any base t v) :
    Calls Tryz.prog 3 args W fun e W' => e = .returned (.bool true) ∧ Go.PB.Kept W W' :=
  Go.PB.comes_blind (P := Tryz.prog) mixed hs hok C10 E W

set_option maxRecDepth 100000 in
theorem lifted (os : Os) (started : os.Started) (H : Type) (enc : TypeId × Value → H) :
    ReturnsInHanded {} Tryz.checked os 3 .any (Rows.sweepNoneSpec.pre6 enc Tryz.prog Tryz.f3 Rows.sweepNoneRow.domain false) (Rows.sweepNoneSpec.post enc Tryz.prog Tryz.f3 false true false false) :=
  Go.PB.law_returns (C := Tryz.checked) own started (by kernel_rfl) Tryz.func3
    (ChangeSpec.witness6 (enc := enc) (C := Tryz.checked) false ⟨#[], #[.agg #[.int .i64 0, .slice none 0 0, .slice none 0 0, .slice none 0 0]], []⟩ 8 (by kernel_rfl) (by kernel_rfl) (by kernel_rfl) (by kernel_rfl))
    laid params rfl (spec H) (by kernel_rfl) Tryz.underlying4
    (fun W base args ds ps hs hok _ => walk W base args hs hok)

theorem over : Rows.sweepNoneRow.holds Tryz.pinned (OpenSpec.ofChange Rows.sweepNoneSpec) :=
  OpenClaim.holds_of_wide 3 Tryz.f3 rfl rfl rfl rfl rfl rfl rfl ⟨rfl, rfl, rfl, rfl, rfl⟩ rfl rfl rfl rfl rfl (by kernel_rfl) Tryz.func3 (by kernel_rfl)
    (of_decide_eq_true (by kernel_rfl)) (by unfold Func.isWrapper; first | (rw [if_pos (by decide +kernel)]; kernel_rfl) | (rw [if_neg (by decide +kernel)]; exact ⟨rfl, rfl⟩))
    (fun os started H enc _ => lifted os started H enc)

theorem proved : Rows.SweepNoneSaid :=
  over
#print axioms proved
end Go.Proofs.YtmiihogjngljcaaGreat.sweepNone
