/- A law whose arguments B needs not look into: the row's step out of B's run. -/
import Derived.Test.YthjdcddpoihcdaaGreatDoorPosX3
import Derived.WalkKit
import Derived.ProofKit
import Derived.OpenShut
import Derived.WideKeyArgs
import Derived.Handed
import Derived.ChangeCalls
set_option linter.unusedSimpArgs false
set_option linter.unusedVariables false
namespace Go.PB
open Go Go.ChangeShapes Go.WideShapes Go.RowKit

/-- what is known of an argument by its type alone -/
def shapeB (P : Program) (t : TypeId) : BV :=
  match P.underlying t with
  | some (.struct _) | some (.array _ _) => .agg (List.replicate (P.cellsOf t) .any)
  | _ => .any

section
variable {P : Program} {g : Gh} {w W : World}

theorem rel_cell {r : Reach} {base : Nat} {t : TypeId} {v : Value} (h : Cell.okWide P W r base t v) : VRel P g w .any v := by
  have hn : (∀ cs, v ≠ .agg cs) ∧ ∀ cs, v ≠ .tuple cs := by
    constructor <;> intro cs e <;> subst e
    · unfold Cell.okWide at h
      split at h
      all_goals first
        | (rename_i e; cases e; done)
        | (rename_i _ e; cases e; done)
        | skip
      unfold Cell.ok at h
      split at h
      all_goals first
        | exact h
        | (rename_i e; cases e; done)
        | (rename_i _ e; cases e; done)
    · unfold Cell.okWide at h
      split at h
      all_goals first
        | (rename_i e; cases e; done)
        | (rename_i _ e; cases e; done)
        | skip
      unfold Cell.ok at h
      split at h
      all_goals first
        | exact h
        | (rename_i e; cases e; done)
        | (rename_i _ e; cases e; done)
  simp only [VRel]
  refine ⟨?_, hn⟩
  cases v <;> first
    | rfl
    | (exact absurd rfl (hn.1 _))

theorem rel_shape {r : Reach} {base : Nat} {t : TypeId} {v : Value} (h : Value.okWide P W r base t v) : VRel P g w (shapeB P t) v := by
  have hagg : ∀ {cs : Array Value}, cs.size = P.cellsOf t → Row.okWide P W r base t cs → VRel P g w (.agg (List.replicate (P.cellsOf t) .any)) (.agg cs) := by
    intro cs hs hrow
    simp only [VRel]
    refine ⟨cs, rfl, VRels.of_get (by simp [hs]) fun i b v hb hv => ?_⟩
    obtain ⟨ts, _, _, hc⟩ := hrow
    obtain ⟨u, _, hu⟩ := hc i v (by simpa using hv)
    have : b = .any := by
      have := List.mem_of_getElem? hb
      exact List.eq_of_mem_replicate this
    subst this
    exact rel_cell hu
  unfold Value.okWide at h
  unfold shapeB
  split at h
  · rename_i fs hu
    obtain ⟨cs, rfl, hs, hrow⟩ := h
    simp only [hu]
    exact hagg hs hrow
  · rename_i n e hu
    obtain ⟨cs, rfl, hs, hrow⟩ := h
    simp only [hu]
    exact hagg hs hrow
  · rename_i h1 h2
    split
    · rename_i fs hu; exact absurd hu (h1 fs)
    · rename_i n e hu; exact absurd hu (h2 n e)
    · exact rel_cell h

theorem rel_args {r : Reach} {base : Nat} {ps : Array TypeId} {args : Array Value} (hs : args.size = ps.size) (h : ∀ (j : Nat) t v, ps[j]? = some t → args[j]? = some v → Value.okWide P W r base t v) :
    VRels P g w (ps.toList.map (shapeB P)) args.toList := by
  refine VRels.of_get (by simp [hs]) fun i b v hb hv => ?_
  rw [List.getElem?_map] at hb
  cases hp : ps.toList[i]? with
  | none => rw [hp] at hb; cases hb
  | some t =>
    rw [hp] at hb
    simp only [Option.map_some, Option.some.injEq] at hb
    subst hb
    exact rel_shape (h i t v (by simpa using hp) (by simpa using hv))

/-- a call with arguments that B needs not look into -/
theorem blindX_true (hmix : P.follows .mixedOrders = true) {tbl : List Nat} {fuel n : Nat} {fid : FuncId} {r : Reach} {base : Nat} {ps : Array TypeId} {args : Array Value} (hs : args.size = ps.size)
    (h : ∀ (j : Nat) t v, ps[j]? = some t → args[j]? = some v → Value.okWide P W r base t v)
    (e : okB (callX P tbl fuel n fid (ps.toList.map (shapeB P)) h0) = true) (w : World) :
    Calls P fid args w fun ed w' => ed = .returned (.bool true) ∧ Kept w w' := by
  unfold okB at e
  split at e
  · rename_i h' hc
    refine (sim_callX hmix (hrel0 P w) (rel_args hs h) hc).mono ?_
    rintro ed w' ⟨v', g', h1, h2, h3, h4⟩
    simp only [VRel] at h4
    subst h4
    refine ⟨h1, ⟨h3.size, fun c hc => h3.kept c hc ?_, h3.os.1, h3.os.2.1, h3.os.2.2⟩⟩
    rintro ⟨b, o, base, hb, _⟩
    rw [h0_get] at hb; cases hb
  · cases e
end

section
variable {H : Type} {enc : TypeId × Value → H} {P : Program} {W W' : World}
theorem trodAll_stays (hl : laidOutB P = true) (hb : Below W.heap.size W W') : ∀ {ts : List TypeId} {vs : List Value} {ds : List (DataW H)} {ps : List MemPlace}, (∀ t ∈ ts, P.readableRec t = true ∧ t < P.types.size) →
    DataW.TrodAll enc P W 0 (fun _ => true) true ts vs ds ps → (∀ x ∈ ps, x.block < W.heap.size) → ∀ sp : Nat → Bool, (∀ x ∈ ps, sp x.block = true) → DataW.TrodAll enc P W' 0 sp true ts vs ds ps
  | [], _, _, _, _, h, _, _, _ => by
    obtain ⟨rfl, rfl, rfl⟩ := trodAll_nil h
    exact trodAll_mk0
  | t :: ts, vs, ds, ps, hts, h, hlt, sp, hsp => by
    obtain ⟨v, vr, d, dr, p, q, rfl, rfl, rfl, h1, h2⟩ := trodAll_cons h
    obtain ⟨hr, hrow⟩ := hts t List.mem_cons_self
    refine trodAll_cons_mk (Go.WideElems.Trod_stays hl hr hrow h1 (fun x hx => hb.same (hlt x (List.mem_append_left _ hx))) (fun x hx => hsp x (List.mem_append_left _ hx))) ?_
    exact trodAll_stays hl hb (fun t ht => hts t (List.mem_cons_of_mem _ ht)) h2 (fun x hx => hlt x (List.mem_append_right _ hx)) sp (fun x hx => hsp x (List.mem_append_right _ hx))

/-- the types of a law's arguments can be read -/
def paramsOk (P : Program) (ts : List TypeId) : Bool := ts.all fun t => P.readableRec t && decide (t < P.types.size)

/-- **A LAW's ROW, WHERE EACH CALL RETURNS true AND KEEPS ALL THAT WAS THERE.** -/
theorem law_returns {a : Assume} {C : Checked} {os : Os} {f : FuncId} {fn : Func} {s : ChangeSpec} {conds : List PathCond} {tb : TypeId}
    (own : ownKnob C.prog.godebug = none) (started : os.Started) (noInit : C.prog.inits.idxOf? f = none) (hfn : C.prog.funcs[f]? = some fn)
    (witness : ∃ (w : World) (tape : Tape) (i : Input), w.os = os ∧ (w.forCall tape i).Shaped C.prog ∧ i.vars = [] ∧ Input.okWide C.prog (w.forCall tape i) .any w.heap.size f i ∧
      s.pre6 enc C.prog fn conds false (w.forCall tape i).memory i.args ∧ a.holds C.prog (lone (Frame.enter C.prog f i.args .normal) [] (w.forCall tape i)))
    (hl : laidOutB C.prog = true) (hps : paramsOk C.prog fn.params.toList = true) (hvars : s.vars = [])
    (hspec : ∀ ds : List (DataW H), ds.length = fn.params.toList.length → s.fn H ds = { results := [.lit (.bool true)], args := ds })
    (hres : fn.resultTypes = #[tb]) (htb : C.prog.underlying tb = some .bool)
    (contract : ∀ (W : World) (base : Nat) (args : Array Value) (ds : List (DataW H)) (ps : List MemPlace), args.size = fn.params.size →
      (∀ (j : Nat) t v, fn.params[j]? = some t → args[j]? = some v → Value.okWide C.prog W .any base t v) →
      DataW.TrodAll enc C.prog W 0 (fun _ => true) true fn.params.toList args.toList ds ps →
      Calls C.prog f args W fun e W' => e = .returned (.bool true) ∧ Kept W W') :
    ReturnsInHanded a C os f .any (s.pre6 enc C.prog fn conds false) (s.post enc C.prog fn false true false false) := by
  refine returnsInHanded_of_change own started noInit hfn witness ?_
  intro W base args ds gs before hval hW _ _
  have hW' := hW
  obtain ⟨p, q, hA, hV, hpq, hfz, hnd⟩ := hW
  rw [hvars] at hV
  obtain ⟨hgs, hq⟩ := trodVars_none hV
  have hlen := trodAll_length hA
  have hsz : args.size = fn.params.size := by have := hlen.1; simpa using this
  refine (contract W base args ds p hsz hval hA).mono fun e W' ⟨he, hk⟩ => ?_
  subst he
  have hds : s.fn H (ds ++ gs) = { results := [.lit (.bool true)], args := ds } := by rw [hgs, List.append_nil]; exact hspec ds hlen.2
  have hbp : before = p := by rw [hpq, hq, List.append_nil]
  have hlt : ∀ x ∈ p, x.block < W.heap.size := fun x hx => hW'.lt x (by rw [hbp]; exact hx)
  have hparams : ∀ t ∈ fn.params.toList, C.prog.readableRec t = true ∧ t < C.prog.types.size := fun t ht => by
    have := List.all_eq_true.1 hps t ht
    simpa using this
  refine ⟨_, rfl, post_of_kept (pa := p) (pv := []) hW' (fun _ _ _ => ?_) (fun sp hsp => ?_) (fun sp hsp => ?_) (by rw [hbp, List.append_nil]) hk ?_⟩
  · rw [hds, hres]
    exact trodAll_cons_mk (shut_bool htb _) trodAll_mk0
  · rw [hds]
    exact trodAll_stays hl hk.below hparams hA hlt sp (fun x hx => hsp x (by rw [hbp]; exact hx))
  · rw [hds, hvars]; rfl
  · exact ok_one hres rfl (okWide_bool_mk htb _)
/-- the same, under a premise on the world -/
theorem law_returns_and {X : World → Array Value → Prop} (hX : ∀ (w w' : World) (args : Array Value), w.heap = w'.heap → X w args → X w' args) {a : Assume} {C : Checked} {os : Os} {f : FuncId} {fn : Func} {s : ChangeSpec} {conds : List PathCond} {tb : TypeId}
    (own : ownKnob C.prog.godebug = none) (started : os.Started) (noInit : C.prog.inits.idxOf? f = none) (hfn : C.prog.funcs[f]? = some fn)
    (witness : ∃ (w : World) (tape : Tape) (i : Input), w.os = os ∧ (w.forCall tape i).Shaped C.prog ∧ i.vars = [] ∧ Input.okWide C.prog (w.forCall tape i) .any w.heap.size f i ∧
      ((s.pre enc C.prog fn conds false (w.forCall tape i).memory i.args ∧ X (w.forCall tape i).memory i.args) ∧ sizedMet enc C.prog fn (OpenSpec.ofChange s) false (w.forCall tape i).memory i.args) ∧ a.holds C.prog (lone (Frame.enter C.prog f i.args .normal) [] (w.forCall tape i)))
    (hl : laidOutB C.prog = true) (hps : paramsOk C.prog fn.params.toList = true) (hvars : s.vars = [])
    (hspec : ∀ ds : List (DataW H), ds.length = fn.params.toList.length → s.fn H ds = { results := [.lit (.bool true)], args := ds })
    (hres : fn.resultTypes = #[tb]) (htb : C.prog.underlying tb = some .bool)
    (contract : ∀ (W : World) (base : Nat) (args : Array Value) (ds : List (DataW H)) (ps : List MemPlace), args.size = fn.params.size →
      (∀ (j : Nat) t v, fn.params[j]? = some t → args[j]? = some v → Value.okWide C.prog W .any base t v) →
      DataW.TrodAll enc C.prog W 0 (fun _ => true) true fn.params.toList args.toList ds ps →
      Calls C.prog f args W fun e W' => e = .returned (.bool true) ∧ Kept W W') :
    ReturnsInHanded a C os f .any (fun w args => (s.pre enc C.prog fn conds false w args ∧ X w args) ∧ sizedMet enc C.prog fn (OpenSpec.ofChange s) false w args) (s.post enc C.prog fn false true false false) := by
  refine returnsInHanded_of_change_and hX own started noInit hfn witness ?_
  intro W base args ds gs before hval hW _ _ _ _
  have hW' := hW
  obtain ⟨p, q, hA, hV, hpq, hfz, hnd⟩ := hW
  rw [hvars] at hV
  obtain ⟨hgs, hq⟩ := trodVars_none hV
  have hlen := trodAll_length hA
  have hsz : args.size = fn.params.size := by have := hlen.1; simpa using this
  refine (contract W base args ds p hsz hval hA).mono fun e W' ⟨he, hk⟩ => ?_
  subst he
  have hds : s.fn H (ds ++ gs) = { results := [.lit (.bool true)], args := ds } := by rw [hgs, List.append_nil]; exact hspec ds hlen.2
  have hbp : before = p := by rw [hpq, hq, List.append_nil]
  have hlt : ∀ x ∈ p, x.block < W.heap.size := fun x hx => hW'.lt x (by rw [hbp]; exact hx)
  have hparams : ∀ t ∈ fn.params.toList, C.prog.readableRec t = true ∧ t < C.prog.types.size := fun t ht => by
    have := List.all_eq_true.1 hps t ht
    simpa using this
  refine ⟨_, rfl, post_of_kept (pa := p) (pv := []) hW' (fun _ _ _ => ?_) (fun sp hsp => ?_) (fun sp hsp => ?_) (by rw [hbp, List.append_nil]) hk ?_⟩
  · rw [hds, hres]
    exact trodAll_cons_mk (shut_bool htb _) trodAll_mk0
  · rw [hds]
    exact trodAll_stays hl hk.below hparams hA hlt sp (fun x hx => hsp x (by rw [hbp]; exact hx))
  · rw [hds, hvars]; rfl
  · exact ok_one hres rfl (okWide_bool_mk htb _)
end
end Go.PB
