/- **ONE STEP OF B's MACHINE IS STEPS OF THE MODEL's.** -/
import Derived.Test.YthjdcddpoihcdaaGreatDoorPosM4
set_option linter.unusedSimpArgs false
set_option linter.unusedVariables false
namespace Go.PB
open Go

section
variable {P : Program} {g g' : Gh} {h h' : BHeap} {w w' : World} {lb ub : Nat} {base : Base} {b b' : BFrame} {f : Frame} {bs : List BFrame} {cs : List Frame}

def StepsTo (P : Program) (base : Base) (g : Gh) (h : BHeap) (w : World) (s' : BState) (m : Machine) : Prop :=
  ∃ g' w' lb' f' cs', Steps P m (lone f' cs' w') ∧ SRel P base g' w' lb' s' f' cs' ∧ Ext g h w g' s'.h w'

theorem StepsTo.of_lands {s' : BState} (hl : Lands P base g h w s' (stepG P true { frame := f, callers := cs, status := .running, dying := none } w)) : StepsTo P base g h w s' (lone f cs w) := by
  obtain ⟨g', w', lb', f', cs', h1, h2, h3⟩ := hl
  exact ⟨g', w', lb', f', cs', Steps.one (step_lone_go h1), h2, h3⟩

theorem StepsTo.trans {g1 : Gh} {h1 : BHeap} {w1 : World} {f1 : Frame} {cs1 : List Frame} {s' : BState} (hs : Steps P (lone f cs w) (lone f1 cs1 w1)) (hx : Ext g h w g1 h1 w1) (ht : StepsTo P base g1 h1 w1 s' (lone f1 cs1 w1)) :
    StepsTo P base g h w s' (lone f cs w) := by
  obtain ⟨g', w', lb', f', cs', k1, k2, k3⟩ := ht
  exact ⟨g', w', lb', f', cs', hs.trans k1, k2, hx.trans k3⟩

theorem Lands.of_bare {s' : BState} {r r' : GStep} (e : r.bare = r'.bare) (hl : Lands P base g h w s' r') : Lands P base g h w s' r := by
  obtain ⟨g', w', lb', f', cs', h1, h2, h3⟩ := hl
  exact ⟨g', w', lb', f', cs', e.trans h1, h2, h3⟩

theorem RunRel.plain {top : Bool} {env : List BV} {todo : List BItem} (he : VRels P g w env f.tmps.toList) (hi : ItemsRel g todo f.todo) (henv : b.env = env) (htodo : b.todo = todo) : RunRel P g h w lb ub top b f := by
  unfold RunRel
  split
  · rename_i d k ht
    exfalso
    rw [htodo] at ht
    rw [ht] at hi
    simp only [ItemsRel, ItemRel] at hi
    obtain ⟨_, _, _, h1, _⟩ := hi
    exact h1
  · rw [henv, htodo]; exact ⟨he, hi⟩

section
variable {bfn : FuncId} {benv : List BV} {btodo : List BItem} {bds : List BDef} {bkd : CallKind} {bro : Option Nat} {fn : FuncId} {tmps : Array Value} {ftodo : List Item} {ds : List Deferred} {kd : CallKind} {ro : Option Nat}

/-- B's frame that runs -/
abbrev bf (bfn : FuncId) (benv : List BV) (btodo : List BItem) (bds : List BDef) (bkd : CallKind) (bro : Option Nat) : BFrame :=
  { fn := bfn, env := benv, todo := btodo, defers := bds, mode := .run, kind := bkd, roundOf := bro }

theorem FRel.with {top top' : Bool} {ub' : Nat} (hf : FRel P g h w lb ub top (bf bfn benv btodo bds bkd bro) (rf fn tmps ftodo ds kd ro)) {benv' : List BV} {tmps' : Array Value} {btodo' : List BItem} {ftodo' : List Item}
    (he : VRels P g w benv' tmps'.toList) (hi : ItemsRel g btodo' ftodo') : FRel P g h w lb ub' top' (bf bfn benv' btodo' bds bkd bro) (rf fn tmps' ftodo' ds kd ro) :=
  ⟨hf.fn, hf.kind, hf.kinds, hf.defers, hf.mode, hf.round, fun _ => RunRel.plain (f := rf fn tmps' ftodo' ds kd ro) he hi rfl rfl, fun h => absurd rfl h⟩

theorem ctl (hr : HRel P g h w) (hlb : lb ≤ h.next) (hf : FRel P g h w lb h.next true (bf bfn benv btodo bds bkd bro) (rf fn tmps ftodo ds kd ro)) (hc : CRel P g h w base lb bs cs) {benv' : List BV} {tmps' : Array Value} {btodo' : List BItem} {ftodo' : List Item}
    (he : VRels P g w benv' tmps'.toList) (hi : ItemsRel g btodo' ftodo') (hs : step P (lone (rf fn tmps ftodo ds kd ro) cs w) = .next (lone (rf fn tmps' ftodo' ds kd ro) cs w)) :
    StepsTo P base g h w { fr := bf bfn benv' btodo' bds bkd bro, cs := bs, h } (lone (rf fn tmps ftodo ds kd ro) cs w) :=
  ⟨g, w, lb, _, cs, Steps.one hs, ⟨hr, hlb, hf.with he hi, hc⟩, Ext.refl _ _ _⟩

/-- an operation in a region of given order -/
theorem sim_region (hr : HRel P g h w) (hlb : lb ≤ h.next) {ops : Array Oper} {i : Nat} {rest : List Nat} {k : List BItem} {ir : List Item}
    (hf : FRel P g h w lb h.next true (bf bfn benv (.inRegion ops (i :: rest) :: k) bds bkd bro) (rf fn tmps (.inRegion ops (i :: rest) :: ir) ds kd ro)) (hc : CRel P g h w base lb bs cs)
    (henv : VRels P g w benv tmps.toList) (hir : ItemsRel g k ir) {s' : BState} (e : stepB P { fr := bf bfn benv (.inRegion ops (i :: rest) :: k) bds bkd bro, cs := bs, h } = some s') :
    StepsTo P base g h w s' (lone (rf fn tmps (.inRegion ops (i :: rest) :: ir) ds kd ro) cs w) := by
  simp only [stepB] at e
  split at e
  · rename_i ho
    cases e
    refine ctl hr hlb hf hc henv (btodo' := .inRegion ops rest :: k) ⟨_, _, rfl, rfl, hir⟩ ?_
    rw [a_opSkip (by simp [ho])]
    simp [Frame.finish, ho]
  · rename_i o ho
    have hwr : ∀ {r : Bool}, wantedB o ops (fun t => benv[t]?) = some r → Region.wanted o (yielded ops tmps) = r := fun hw =>
      wantedRel (P := P) (g := g) (w := w) (fun j b' _ t _ => by
        cases hb : benv[t]? with
        | none =>
          left
          refine ⟨rfl, ?_⟩
          have : tmps.toList[t]? = none := by rw [List.getElem?_eq_none]; have := henv.length; have := List.getElem?_eq_none_iff.1 hb; omega
          simpa using this
        | some y =>
          obtain ⟨v, h1, h2⟩ := henv.get hb
          exact .inr ⟨y, v, rfl, by simpa using h1, h2⟩) hw
    split at e
    · rename_i hw
      have hw' := hwr hw
      have hop : (ro = none ∨ ∀ c, o.op ≠ .defer c) ∧ ((opB P h (evalB benv) o).bind (applyB P (bf bfn benv (.inRegion ops (i :: rest) :: k) bds bkd bro) bs .normal)) = some s' := by
        have hro := hf.round
        cases bro with
        | none => exact ⟨.inl hro, e⟩
        | some l =>
          split at e
          · cases e
          · rename_i hno
            exact ⟨.inr fun c hcc => hno _ c rfl hcc, e⟩
      obtain ⟨hop1, hop2⟩ := hop
      cases hq : opB P h (evalB benv) o with
      | none => rw [hq] at hop2; cases hop2
      | some q =>
        obtain ⟨n, h1⟩ := q
        rw [hq] at hop2
        have hd := sim_op hr (σ := (rf fn tmps (.inRegion ops (i :: rest) :: ir) ds kd ro).eval) (fun x _ => evalRel henv _ rfl x) hq
        have := sim_apply (f := rf fn tmps (.inRegion ops (i :: rest) :: ir) ds kd ro) hr hlb (hf.with (btodo' := .inRegion ops (i :: rest) :: k) henv ⟨_, _, rfl, rfl, hir⟩) rfl hc hd hop2
        refine StepsTo.of_lands ?_
        rw [a_oper ho hw' hop1]
        exact this
    · rename_i hw
      have hw' := hwr hw
      simp only [Option.map_some, Option.some.injEq] at e
      subst e
      have hstep : step P (lone (rf fn tmps (.inRegion ops (i :: rest) :: ir) ds kd ro) cs w) = .next (lone (rf fn (putV tmps o.dst undef) (.inRegion ops rest :: ir) ds kd ro) cs w) := by
        rw [a_opSkip (by simp [ho, hw']), finish_rf ho]
      refine ctl hr hlb hf hc (benv' := putTmp benv o.dst BV.undef) (tmps' := putV tmps o.dst undef) (btodo' := .inRegion ops rest :: k) (putRel henv VRel.undef _) ⟨_, _, rfl, rfl, hir⟩ hstep
    · cases e

/-- a drawn region under way -/
theorem sim_draw (hr : HRel P g h w) (hlb : lb ≤ h.next) {d : Draw} {k : List BItem}
    (hf : FRel P g h w lb h.next true (bf bfn benv (.inDraw d :: k) bds bkd bro) (rf fn tmps ftodo ds kd ro)) (hc : CRel P g h w base lb bs cs)
    {s' : BState} (e : stepB P { fr := bf bfn benv (.inDraw d :: k) bds bkd bro, cs := bs, h } = some s') :
    StepsTo P base g h w s' (lone (rf fn tmps ftodo ds kd ro) cs w) := by
  have hrun := hf.run rfl
  unfold RunRel at hrun
  dsimp only at hrun
  obtain ⟨henv, rest, k', hft, hk, hp, hhp, ⟨ph, hd⟩, _⟩ := hrun
  rw [hhp rfl] at hd
  clear hhp hp
  subst hft henv
  obtain ⟨tmps', rest', g1, w1, s1, hr1, x1, p1, hd1, hcase⟩ := draw_run (fn := fn) (ds := ds) (kd := kd) (ro := ro) (k := k') (cs := cs) hr hd
  have hk1 := hk.mono x1.mono
  have hc1 := hc.mono x1.mono p1
  have hround := hf.round.mono x1.mono
  have hdefs := hf.defers.mono x1.mono
  simp only [stepB] at e
  rcases hcase with ⟨rfl, heff⟩ | ⟨x, r, effs, rfl, heff⟩
  · rw [heff] at e
    cases e
    refine StepsTo.trans s1 x1 ⟨g1, w1, lb, _, cs, Steps.one a_regionEnd, ⟨hr1, hlb, ?_, hc1⟩, Ext.refl _ _ _⟩
    exact ⟨hf.fn, hf.kind, hf.kinds, hdefs, hf.mode, hround, fun _ => RunRel.plain (f := rf fn tmps' k' ds kd ro) (draw_end hd1) hk1 rfl rfl, fun h => absurd rfl h⟩
  · rw [heff] at e
    dsimp only at e
    obtain ⟨o, ho, _⟩ := ((hd1.effs x).1 (by rw [heff]; simp)).2
    rw [ho] at e
    dsimp only at e
    have hf1 : FRel P g1 h w1 lb h.next false (bf bfn d.env0 (.inDraw d :: k) bds bkd bro) (rf fn tmps' (.inRegion d.ops (x :: r) :: k') ds kd ro) :=
      ⟨hf.fn, hf.kind, hf.kinds, hdefs, hf.mode, hround, fun _ => by
        unfold RunRel
        dsimp only
        exact ⟨rfl, _, _, rfl, hk1, h, (fun q => by cases q), ⟨ph, hd1⟩, fun _ => ⟨x, r, rfl, by rw [heff]; rfl⟩⟩, fun h => absurd rfl h⟩
    refine StepsTo.trans s1 x1 ?_
    split at e
    · rename_i hw
      have hw' := hd1.wanted ho hw
      have hop : (ro = none ∨ ∀ c, o.op ≠ .defer c) ∧ ((opB P h (evalAt d.ops (aheadBits d.ops) d.env0 d.vals x) o).bind (applyB P (bf bfn d.env0 (.inDraw d :: k) bds bkd bro) bs .normal)) = some s' := by
        have hro := hf.round
        clear hf hf1 hround
        cases bro with
        | none => exact ⟨.inl hro, e⟩
        | some l =>
          split at e
          · cases e
          · rename_i hno
            exact ⟨.inr fun c hcc => hno _ c rfl hcc, e⟩
      obtain ⟨hop1, hop2⟩ := hop
      cases hq : opB P h (evalAt d.ops (aheadBits d.ops) d.env0 d.vals x) o with
      | none => rw [hq] at hop2; cases hop2
      | some q =>
        obtain ⟨n, h1⟩ := q
        rw [hq] at hop2
        have hdn := sim_op hr1 (σ := (rf fn tmps' (.inRegion d.ops (x :: r) :: k') ds kd ro).eval) (hd1.eval ho _ rfl) hq
        have := sim_apply (f := rf fn tmps' (.inRegion d.ops (x :: r) :: k') ds kd ro) hr1 hlb hf1 rfl hc1 hdn hop2
        refine StepsTo.of_lands ?_
        rw [a_oper ho hw' hop1]
        exact this
    · rename_i hw
      have hw' := hd1.wanted ho hw
      have := lands_finish (r := stepG P true { frame := rf fn tmps' (.inRegion d.ops (x :: r) :: k') ds kd ro, callers := cs, status := .running, dying := none } w1) hr1 hlb (Nat.le_refl _) hf1 hc1 VRel.undef e (by simp [stepG, stepG.exec, ho, hw'])
      exact StepsTo.of_lands this
    · cases e
end
end
end Go.PB
