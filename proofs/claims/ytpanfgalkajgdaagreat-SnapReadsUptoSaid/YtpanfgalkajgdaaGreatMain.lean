/- The Go function posternlaw27.SnapReads returns true for every World, subjects, code, list of ways to turn bytes, and other bytes, and all memory that was there before the call reads as it did. Conditions: what is handed in is of bulk at most the bound that the row names. -/
import Derived.Test.YtpanfgalkajgdaaGreatRows
import Derived.Test.YtpanfgalkajgdaaGreatF
import Derived.Test.YtpanfgalkajgdaaGreatM31
import Derived.LaidMore
import Derived.LaidLaws
import Derived.LaidHandle
import Derived.Stop.Joined
import Derived.Deep.DeepHandedRow
import Derived.JoinedCond
import Derived.SevenTiedAt
namespace Go.Proofs.YtpanfgalkajgdaaGreat.snapReads
open Go Go.PB Go.ChangeShapes Go.WideShapes Go.ChangeAt Go.RowKit
set_option linter.all false

theorem own : ownKnob Tryz.prog.godebug = none := by kernel_rfl
theorem laidOut : laidOutB Tryz.prog = true := by kernel_rfl
theorem params : af0 Tryz.prog Tryz.f3.params.toList = true := by kernel_rfl
theorem bulks (H : Type) : adR (H := H) Rows.uptoBulk Rows.uptoBulkAll := ⟨fun _ => rfl, fun _ _ => rfl, fun _ => rfl, rfl, fun _ _ => rfl, fun _ => rfl, rfl, fun _ _ => rfl⟩
theorem spec (H : Type) (ds : List (DataW H)) (hd : ds.length = Tryz.f3.params.toList.length) : Rows.snapReadsSpec.fn H ds = { results := [.lit (.bool true)], args := ds } := by
  rw [Tryz.params3] at hd
  match ds, hd with
  | [d0, d1, d2, d3, d4], _ => rfl

set_option maxRecDepth 100000 in
theorem contract (H : Type) (enc : TypeId × Value → H) (W : World) (base : Nat) (args : Array Value) (ds gs : List (DataW H)) (before : List MemPlace)
    (hval : ∀ (j : Nat) t v, Tryz.f3.params[j]? = some t → args[j]? = some v → Value.okWide Tryz.prog W .any base t v)
    (hW : DataW.Whole enc Tryz.prog Tryz.f3.params.toList Rows.snapReadsSpec.vars false W args.toList ds gs before) (hsm : Rows.uptoSmall H (ds ++ gs) = true) :
    Calls Tryz.prog 3 args W fun e W' => ∃ v, e = .returned v ∧ Rows.snapReadsSpec.post enc Tryz.prog Tryz.f3 false true false false W args v W' := by
  refine ajw (C := Tryz.checked) laidOut params rfl (spec H) (by kernel_rfl) Tryz.underlying4 hW ?_
  obtain ⟨p, q, hA0, hV, _, _, _⟩ := hW
  obtain ⟨hgs, _⟩ := trodVars_none hV
  rw [hgs, List.append_nil] at hsm
  have hA : DataW.TrodAll enc Tryz.prog W 0 (fun _ => true) true Tryz.f3.params.toList args.toList ds p := hA0
  rw [Tryz.params3] at hA hval
  exact amj (bulks H) (fun v hv => hval 0 _ v rfl hv) (fun v hv => hval 1 _ v rfl hv) (fun v hv => hval 2 _ v rfl hv) (fun v hv => hval 3 _ v rfl hv) (fun v hv => hval 4 _ v rfl hv) hA (by simpa [Rows.uptoSmall] using hsm)

/-- the arguments of the witness -/
def arg0 : Value := .agg #[.slice none 0 0, .slice none 0 0, .slice none 0 0, .int .i64 0, .slice none 0 0]
def arg1 : Value := .slice none 0 0
def arg2 : Value := .slice none 0 0
def arg3 : Value := .slice none 0 0
def arg4 : Value := .string ⟨#[]⟩

set_option maxHeartbeats 8000000 in
theorem door_met (os : Os) : laidMetH Tryz.prog Rows.snapReadsUptoRow.laid ((World.doorLaid Tryz.prog 400 os).forCall (fun _ _ => 0) ⟨#[], #[arg0, arg1, arg2, arg3, arg4], []⟩).memory :=
  laidMetH_of_parts3 (fuel := 8) (laidMet_of_run' 8 (by as_aux_lemma => kernel_rfl) (by as_aux_lemma => kernel_rfl)) (by as_aux_lemma => kernel_rfl) (by as_aux_lemma => kernel_rfl)

set_option maxHeartbeats 8000000 in
theorem reads (os : Os) {H : Type} (enc : TypeId × Value → H) : DataW.whole enc Tryz.prog ((World.doorLaid Tryz.prog 400 os).forCall (fun _ _ => 0) ⟨#[], #[arg0, arg1, arg2, arg3, arg4], []⟩).memory Tryz.f3.params.toList Rows.snapReadsSpec.vars false #[arg0, arg1, arg2, arg3, arg4].toList 8
    = some ([.agg [.nil, .nil, .nil, .lit (.int .i64 0), .nil], .nil, .nil, .nil, .lit (.string [])], [], []) := by kernel_rfl

theorem witness {H : Type} {enc : TypeId × Value → H} {C : Checked} {os : Os} {f : FuncId} {fn : Func} {s : OpenSpec} {conds : List PathCond} {apart : Bool} {laid : List (String × DataW Unit)} (modest : Bool) (w0 : World) (args : Array Value) (hos : w0.os = os)
    (hsh : (w0.forCall (fun _ _ => 0) ⟨#[], args, []⟩).Shaped C.prog)
    (hok : Input.okWideB C.prog (w0.forCall (fun _ _ => 0) ⟨#[], args, []⟩) f ⟨#[], args, []⟩ = true)
    (hrow : s.preRow enc C.prog fn conds apart laid (w0.forCall (fun _ _ => 0) ⟨#[], args, []⟩).memory args) :
    ∃ (w : World) (tape : Tape) (i : Input), w.os = os ∧ (w.forCall tape i).Shaped C.prog ∧ i.vars = [] ∧ Input.okWide C.prog (w.forCall tape i) .any w.heap.size f i ∧
      s.preRow enc C.prog fn conds apart laid (w.forCall tape i).memory i.args ∧ ({ modest := modest } : Assume).holds C.prog (lone (Frame.enter C.prog f i.args .normal) [] (w.forCall tape i)) :=
  ⟨w0, fun _ _ => 0, ⟨#[], args, []⟩, hos, hsh, (Input.okWide_of_okWideB (base := 0) hok).1, (Input.okWide_of_okWideB hok).2, hrow, by
    simp only [Assume.holds]
    exact ⟨by simp, by simp, fun _ => Modest.zero, by simp, by simp⟩⟩

set_option maxHeartbeats 8000000 in
set_option maxRecDepth 100000 in
theorem lifted (os : Os) (started : os.Started) (H : Type) (enc : TypeId × Value → H) (F : Stop.Interp) :
    ReturnsInHanded {} Tryz.checked os 3 .any ((Rows.OpenSpec.upto Rows.snapReadsSpec).preRow enc Tryz.prog Tryz.f3 Rows.snapReadsUptoRow.domain false Rows.snapReadsUptoRow.laid) (((Rows.OpenSpec.upto Rows.snapReadsSpec).at F).post enc Tryz.prog Tryz.f3 false true false false) := by
  refine returnsInHanded_of_row (C := Tryz.checked) (s := (Rows.OpenSpec.upto Rows.snapReadsSpec)) own started (by kernel_rfl) Tryz.func3
    (witness (enc := enc) (C := Tryz.checked) false (World.doorLaid Tryz.prog 400 os) #[arg0, arg1, arg2, arg3, arg4] rfl (World.shaped_of_RefB (by as_aux_lemma => kernel_rfl) (by as_aux_lemma => kernel_rfl)) (by as_aux_lemma => kernel_rfl)
      (OpenSpec.preRow_of_cond 8 (reads os enc) (by as_aux_lemma => kernel_rfl) (fun k hk => by cases hk; kernel_rfl) (by as_aux_lemma => kernel_rfl) (door_met os))) ?_
  intro W base args ds gs before hval hW _ hk _ _ _ _
  exact contract H enc W base args ds gs before hval hW (hk _ rfl)

set_option maxHeartbeats 8000000 in
set_option maxRecDepth 100000 in
theorem over : Rows.SnapReadsUptoSaid :=
  OpenClaim.holds_of_cond 3 Tryz.f3 rfl rfl rfl rfl rfl rfl rfl ⟨rfl, rfl, rfl, rfl, rfl⟩ rfl rfl rfl rfl rfl (by as_aux_lemma => kernel_rfl) Tryz.func3 closed
    inst wrap
    (fun os started H enc _ F => by rw [OpenClaim.pre_eq_preRow]; exact lifted os started H enc F)

theorem proved : Rows.SnapReadsUptoSaid := over
#print axioms proved
end Go.Proofs.YtpanfgalkajgdaaGreat.snapReads
