/- The Go function posternlaw27.SnapNone returns true for every string, and all memory that was there before the call reads as it did. Conditions: none. -/
import Derived.Test.YtddgjcpngipbnaaGreatRows
import Derived.Test.YtddgjcpngipbnaaGreatJ
namespace Go.Proofs.YtddgjcpngipbnaaGreat.snapNone
open Go Go.ChangeShapes Go.WideShapes Go.ChangeAt Go.RowKit
set_option linter.unusedVariables false
set_option linter.unusedSimpArgs false



theorem own : ownKnob Tryz.prog.godebug = none := by kernel_rfl
theorem laid : laidOutB Tryz.prog = true := by kernel_rfl
theorem params : Go.PB.paramsOk Tryz.prog Tryz.f3.params.toList = true := by kernel_rfl

theorem spec (H : Type) (ds : List (DataW H)) (hd : ds.length = Tryz.f3.params.toList.length) : Rows.snapNoneSpec.fn H ds = { results := [.lit (.bool true)], args := ds } := by
  rw [Tryz.params3] at hd
  match ds, hd with
  | [d0], _ => rfl

set_option maxRecDepth 100000 in
theorem contract (H : Type) (enc : TypeId × Value → H) (W : World) (base : Nat) (args : Array Value) (ds : List (DataW H)) (ps : List MemPlace)
    (hok : ∀ (j : Nat) t v, Tryz.f3.params[j]? = some t → args[j]? = some v → Value.okWide Tryz.prog W .any base t v)
    (hA : DataW.TrodAll enc Tryz.prog W 0 (fun _ => true) true Tryz.f3.params.toList args.toList ds ps) :
    Calls Tryz.prog 3 args W fun e W' => e = .returned (.bool true) ∧ Go.PB.Kept W W' := by
  rw [Tryz.params3] at hA hok
  obtain ⟨v, d, rfl, rfl, hd⟩ := trodAll_one hA
  obtain ⟨b, rfl, _, _, hs⟩ := Go.ChangeMaps.open_string Tryz.underlying9 (hok 0 9 v rfl rfl) hd
  exact walk b hs W

set_option maxRecDepth 100000 in
theorem lifted (os : Os) (started : os.Started) (H : Type) (enc : TypeId × Value → H) :
    ReturnsInHanded {} Tryz.checked os 3 .any (Rows.snapNoneSpec.pre6 enc Tryz.prog Tryz.f3 Rows.snapNoneRow.domain false) (Rows.snapNoneSpec.post enc Tryz.prog Tryz.f3 false true false false) :=
  Go.PB.law_returns (C := Tryz.checked) own started (by kernel_rfl) Tryz.func3
    (ChangeSpec.witness6 (enc := enc) (C := Tryz.checked) false ⟨#[], #[.string ByteArray.empty], []⟩ 8 (by kernel_rfl) (by kernel_rfl) (by kernel_rfl) (by kernel_rfl))
    laid params rfl (spec H) (by kernel_rfl) Tryz.underlying4
    (fun W base args ds ps hs hok hA => contract H enc W base args ds ps hok hA)

theorem over : Rows.snapNoneRow.holds Tryz.pinned (OpenSpec.ofChange Rows.snapNoneSpec) :=
  OpenClaim.holds_of_wide 3 Tryz.f3 rfl rfl rfl rfl rfl rfl rfl ⟨rfl, rfl, rfl, rfl, rfl⟩ rfl rfl rfl rfl rfl (by kernel_rfl) Tryz.func3 (by kernel_rfl)
    (of_decide_eq_true (by kernel_rfl)) (by unfold Func.isWrapper; first | (rw [if_pos (by decide +kernel)]; kernel_rfl) | (rw [if_neg (by decide +kernel)]; exact ⟨rfl, rfl⟩))
    (fun os started H enc _ => lifted os started H enc)

theorem proved : Rows.SnapNoneSaid :=
  over
#print axioms proved
end Go.Proofs.YtddgjcpngipbnaaGreat.snapNone
