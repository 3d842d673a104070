/- The answer of a law's row, out of a call that returns true and keeps all that was there. -/
import Derived.Test.YthjdcddpoihcdaaGreatDoorPosE
set_option linter.unusedSimpArgs false
set_option linter.unusedVariables false
namespace Go.PB
open Go Go.ChangeShapes Go.WideShapes Go.ChangeAt Go.RowKit

theorem kept_alloc (w : World) (o : Obj) : Kept w (w.alloc o) :=
  ⟨by show w.heap.size ≤ (w.heap.push o).size; rw [Array.size_push]; omega, fun c hc => by show (w.heap.push o)[c]? = _; rw [Array.getElem?_push, if_neg (Nat.ne_of_lt hc)], rfl, rfl, rfl⟩
theorem Kept.trans' {a b c : World} (h1 : Kept a b) (h2 : Kept b c) : Kept a c :=
  ⟨Nat.le_trans h1.size h2.size, fun k hk => (h2.heap k (Nat.lt_of_lt_of_le hk h1.size)).trans (h1.heap k hk), h2.os.trans h1.os, h2.output.trans h1.output, h2.tape.trans h1.tape⟩

section
variable {H : Type} {enc : TypeId × Value → H}
theorem calls_post {C : Checked} {f : FuncId} {fn : Func} {s : ChangeSpec} {tb : TypeId} {W : World} {args : Array Value} {ds gs : List (DataW H)} {before : List MemPlace}
    (hl : laidOutB C.prog = true) (hps : paramsOk C.prog fn.params.toList = true) (hvars : s.vars = [])
    (hspec : ∀ ds : List (DataW H), ds.length = fn.params.toList.length → s.fn H ds = { results := [.lit (.bool true)], args := ds })
    (hres : fn.resultTypes = #[tb]) (htb : C.prog.underlying tb = some .bool)
    (hW : DataW.Whole enc C.prog fn.params.toList s.vars false W args.toList ds gs before)
    (hc : Calls C.prog f args W fun e W' => e = .returned (.bool true) ∧ Kept W W') :
    Calls C.prog f args W fun e W' => ∃ v, e = .returned v ∧ s.post enc C.prog fn false true false false W args v W' := by
  have hW' := hW
  obtain ⟨p, q, hA, hV, hpq, hfz, hnd⟩ := hW
  rw [hvars] at hV
  obtain ⟨hgs, hq⟩ := trodVars_none hV
  have hlen := trodAll_length hA
  refine hc.mono fun e W' ⟨he, hk⟩ => ?_
  subst he
  have hds : s.fn H (ds ++ gs) = { results := [.lit (.bool true)], args := ds } := by rw [hgs, List.append_nil]; exact hspec ds hlen.2
  have hbp : before = p := by rw [hpq, hq, List.append_nil]
  have hlt : ∀ x ∈ p, x.block < W.heap.size := fun x hx => hW'.lt x (by rw [hbp]; exact hx)
  have hparams : ∀ t ∈ fn.params.toList, C.prog.readableRec t = true ∧ t < C.prog.types.size := fun t ht => by
    have := List.all_eq_true.1 hps t ht
    simpa using this
  refine ⟨_, rfl, post_of_kept (pa := p) (pv := []) hW' (fun _ _ _ => ?_) (fun sp hsp => ?_) (fun sp hsp => ?_) (by rw [hbp, List.append_nil]) hk ?_⟩
  · rw [hds, hres]
    exact trodAll_cons_mk (shut_bool htb _) trodAll_mk0
  · rw [hds]
    exact trodAll_stays hl hk.below hparams hA hlt sp (fun x hx => hsp x (by rw [hbp]; exact hx))
  · rw [hds, hvars]; rfl
  · exact ok_one hres rfl (okWide_bool_mk htb _)
end
end Go.PB
