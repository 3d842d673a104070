/- **B's MACHINE IS SOUND**: a run of B's is a run of the model's. -/
import Derived.Test.YthjdcddpoihcdaaGreatDoorPosM6
set_option linter.unusedSimpArgs false
set_option linter.unusedVariables false
namespace Go.PB
open Go

section
variable {P : Program} {g g' : Gh} {h h' : BHeap} {w w' : World} {lb ub : Nat} {base : Base} {b b' : BFrame} {f : Frame} {bs : List BFrame} {cs : List Frame}

theorem sim_step (hmix : P.follows .mixedOrders = true) {s s' : BState} (hs : SRel P base g w lb s f cs) (e : stepB P s = some s') : StepsTo P base g s.h w s' (lone f cs w) := by
  obtain ⟨⟨bfn, benv, btodo, bds, bmode, bkd, bro⟩, bs, h⟩ := s
  obtain ⟨hr, hlb, hf, hc⟩ := hs
  obtain ⟨fn, tmps, ftodo, ds, fmode, kd, ro⟩ := f
  dsimp only at hr hlb hf hc ⊢
  by_cases hmode : bmode = .run
  case neg =>
    have e' : unwindB P { fn := bfn, env := benv, todo := btodo, defers := bds, mode := bmode, kind := bkd, roundOf := bro } bs h = some s' := by
      unfold stepB at e
      cases bmode <;> first | exact absurd rfl hmode | exact e
    have hu := sim_unwind hr hlb hf hmode hc e'
    have hfm := hf.mode
    refine StepsTo.of_lands ?_
    have : stepG P true { frame := { fn := fn, tmps := tmps, todo := ftodo, defers := ds, mode := fmode, kind := kd, roundOf := ro }, callers := cs, status := .running, dying := none } w =
        unwind P true { fn := fn, tmps := tmps, todo := ftodo, defers := ds, mode := fmode, kind := kd, roundOf := ro } cs none w := by
      dsimp only at hfm
      cases bmode with
      | run => exact absurd rfl hmode
      | returning => simp only [ModeRel] at hfm; subst hfm; simp [stepG]
      | panicking c => simp only [ModeRel] at hfm; obtain ⟨c', rfl, _⟩ := hfm; simp [stepG]
    rw [this]; exact hu
  case pos =>
    subst hmode
    have hfm : fmode = .run := hf.mode
    subst hfm
    have hplain : ∀ i k, btodo = i :: k → (∀ d, i ≠ .inDraw d) → VRels P g w benv tmps.toList ∧ ItemsRel g (i :: k) ftodo := by
      intro i k hb hnd
      have hrun := hf.run rfl
      unfold RunRel at hrun
      split at hrun
      · rename_i d k' ht
        dsimp only at ht
        rw [hb] at ht
        cases ht
        exact absurd rfl (hnd d)
      · dsimp only at hrun
        rw [hb] at hrun
        exact hrun
    cases btodo with
    | nil =>
      have hrun := hf.run rfl
      unfold RunRel at hrun
      dsimp only at hrun
      obtain ⟨henv, hi⟩ := hrun
      simp only [ItemsRel] at hi
      subst hi
      simp only [stepB] at e
      refine lands_leave hr hlb hf henv hc e (fun hro _ => ?_) (fun l v w1 hro hrun => ?_)
      · subst hro; simp [stepG, stepG.exec]
      · subst hro; simp [stepG, stepG.exec, hrun]
    | cons i k =>
      by_cases hnd : ∀ d, i ≠ .inDraw d
      case neg =>
        have : ∃ d, i = .inDraw d := Classical.byContradiction fun hn => hnd fun d hd => hn ⟨d, hd⟩
        obtain ⟨d, rfl⟩ := this
        exact sim_draw hr hlb hf hc e
      case pos =>
        obtain ⟨henv, hi⟩ := hplain i k rfl hnd
        simp only [ItemsRel] at hi
        obtain ⟨it, ir, rfl, hit, hir⟩ := hi
        cases i with
        | inDraw d => exact absurd rfl (hnd d)
        | code c =>
          simp only [ItemRel] at hit
          subst hit
          by_cases hrf : ∃ f' ps a b', c = .rangeFunc f' ps a b'
          · obtain ⟨f', ps, a, b', rfl⟩ := hrf
            exact sim_rangeFunc hr hlb hf hc henv hir e
          · exact sim_code hmix hr hlb hf hc henv hir (fun f' ps a b' hc => hrf ⟨f', ps, a, b', hc⟩) e
        | inBlock l =>
          simp only [ItemRel] at hit
          subst hit
          simp only [stepB] at e; cases e
          exact ctl hr hlb hf hc henv hir a_inBlock
        | inLoop c =>
          simp only [ItemRel] at hit
          subst hit
          simp only [stepB] at e; cases e
          exact ctl hr hlb hf hc henv (btodo' := .code c :: .inLoop c :: k) ⟨_, _, rfl, rfl, _, _, rfl, rfl, hir⟩ a_inLoop
        | inScope c =>
          simp only [ItemRel] at hit
          subst hit
          simp only [stepB] at e; cases e
          exact ctl hr hlb hf hc henv hir a_inScope
        | inRegion ops todo =>
          simp only [ItemRel] at hit
          subst hit
          cases todo with
          | nil => simp only [stepB] at e; cases e; exact ctl hr hlb hf hc henv hir a_regionEnd
          | cons i rest => exact sim_region hr hlb hf hc henv hir e
        | inRangeFunc l => simp only [stepB] at e; cases e
        | endRangeFunc l =>
          simp only [ItemRel] at hit
          obtain ⟨blk, hm, rfl⟩ := hit
          simp only [stepB] at e
          split at e
          · rename_i r hb
            split at e
            · cases e
            · rename_i hnb
              cases e
              obtain ⟨r', hw, hl, hwr⟩ := loop_write hr hb hm
              obtain ⟨h1, x1⟩ := hwr .exhausted r.pending
              have hrun := run_endLoop (P := P) hw (by rw [← hl.1]; exact hnb)
              have hpe : r.pending = r'.pending := hl.2.1
              rw [hpe] at h1 x1
              refine ⟨g, _, lb, rf fn tmps ((r'.pending.map Item.code).toList ++ ir) ds kd ro, cs, Steps.one (step_lone_go ?_), ⟨by rw [hpe]; exact h1, by simpa using hlb, ?_, ?_⟩, by rw [hpe]; exact x1⟩
              · simp only [stepG, stepG.exec, Sem.runT_eq, hrun, GStep.bare_after, GStep.bare_go]
              · have hmono := x1.mono
                refine ⟨hf.fn, hf.kind, hf.kinds, hf.defers.mono hmono, hf.mode, hf.round.mono hmono, fun _ => ?_, fun h => absurd rfl h⟩
                refine RunRel.plain (todo := (r.pending.map BItem.code).toList ++ k) (f := rf fn tmps ((r'.pending.map Item.code).toList ++ ir) ds kd ro) (VRels.mono hmono _ _ henv) ?_ rfl rfl
                rw [hpe]
                cases r'.pending with
                | none => exact hir.mono hmono
                | some c => exact ⟨_, _, rfl, rfl, hir.mono hmono⟩
              · rw [hpe]; exact hc.mono x1.mono ((Ph.put hm _).lt hlb)
          · cases e
        | beginRound =>
          simp only [ItemRel] at hit
          subst hit
          simp only [stepB] at e
          have hround := hf.round
          split at e
          · rename_i l
            simp only [RoundRel] at hround
            obtain ⟨blk, hm, hro⟩ := hround
            have hro : ro = some blk := hro
            subst hro
            split at e
            · rename_i r hb
              split at e
              · rename_i hst
                cases e
                obtain ⟨r', hw, hl, hwr⟩ := loop_write hr hb hm
                obtain ⟨h1, x1⟩ := hwr .busy r.pending
                have hrun := run_beginRound (P := P) hw (by rw [← hl.1]; exact hst)
                have hpe : r.pending = r'.pending := hl.2.1
                have hmono := x1.mono
                refine ⟨g, _, lb, rf fn tmps ir ds kd (some blk), cs, Steps.one (step_lone_go ?_), ⟨h1, by simpa using hlb, ?_, ?_⟩, x1⟩
                · rw [hpe]
                  simp [stepG, stepG.exec, stepG.apply, Sem.runT_eq, Sem.run_bind, hrun, Frame.finish]
                · exact ⟨hf.fn, hf.kind, hf.kinds, hf.defers.mono hmono, hf.mode, ⟨blk, hm, rfl⟩, fun _ => RunRel.plain (f := rf fn tmps ir ds kd (some blk)) (VRels.mono hmono _ _ henv) (hir.mono hmono) rfl rfl, fun h => absurd rfl h⟩
                · exact hc.mono x1.mono ((Ph.put hm _).lt hlb)
              · cases e
            · cases e
          · cases e

theorem sim_run (hmix : P.follows .mixedOrders = true) : ∀ (n : Nat) {s s' : BState} {g : Gh} {w : World} {lb : Nat} {f : Frame} {cs : List Frame}, SRel P base g w lb s f cs → runTo P n s = some s' →
    StepsTo P base g s.h w s' (lone f cs w) ∧ s'.ended = true := by
  intro n
  induction n with
  | zero => intro s s' g w lb f cs _ e; cases e
  | succ n ih =>
    intro s s' g w lb f cs hs e
    simp only [runTo] at e
    split at e
    · rename_i he
      cases e
      exact ⟨⟨g, w, lb, f, cs, Steps.refl _ _, hs, Ext.refl _ _ _⟩, he⟩
    · split at e
      · rename_i s1 h1
        obtain ⟨g1, w1, lb1, f1, cs1, k1, k2, k3⟩ := sim_step hmix hs h1
        obtain ⟨k4, k5⟩ := ih k2 e
        exact ⟨StepsTo.trans k1 k3 k4, k5⟩
      · cases e

/-- **A CALL THAT B CARRIES OUT.** -/
theorem sim_call (hmix : P.follows .mixedOrders = true) {n : Nat} {fid : FuncId} {args : List BV} {args' : Array Value} {v : BV} (hr : HRel P g h w) (ha : VRels P g w args args'.toList) (e : callB P n fid args h = some (v, h')) :
    Calls P fid args' w fun ed w' => ∃ v' g', ed = .returned v' ∧ HRel P g' h' w' ∧ Ext g h w g' h' w' ∧ VRel P g' w' v v' := by
  intro cs
  unfold callB at e
  split at e
  · cases e
  · rename_i fr hfr
    split at e
    · rename_i s hrun
      split at e
      · rename_i fn0 hkd hfn
        split at e
        · rename_i hfid
          have hfid : s.fr.fn = fid := Nat.eq_of_beq_eq_true hfid
          simp only [Option.map_eq_some_iff] at e
          obtain ⟨v0, hres, e2⟩ := e
          simp only [Prod.mk.injEq] at e2
          obtain ⟨rfl, rfl⟩ := e2
          have hs : SRel P (Base.of cs) g w h.next { fr, cs := [], h } (Frame.enter P fid args' .normal) cs := ⟨hr, Nat.le_refl _, enterRel (.inl rfl) ha hfr, rfl⟩
          obtain ⟨⟨g', w', lb', f', cs', k1, ⟨k2, k3, k4, k5⟩, k6⟩, hend⟩ := sim_run hmix n hs hrun
          simp only [BState.ended, Bool.and_eq_true, List.isEmpty_iff] at hend
          obtain ⟨⟨h1, h2⟩, h3⟩ := hend
          rw [h1] at k5
          simp only [CRel] at k5
          subst k5
          have hm : s.fr.mode = .returning := by
            cases hmm : s.fr.mode <;> rw [hmm] at h2 <;> first | rfl | (cases h2; done)
          have hfm := k4.mode
          rw [hm] at hfm
          simp only [ModeRel] at hfm
          have hds := k4.defers
          rw [h3] at hds
          simp only [DRels] at hds
          obtain ⟨v', hrv, hv⟩ := sim_results k2 (k4.env (by rw [hm]; exact fun h => by cases h)) hres
          exact ⟨.returned v', w', f', ⟨v', g', rfl, k2, k6, hv⟩, k1, by rw [← k4.fn]; exact hfid, hfm, hds, by rw [← k4.kind]; exact hkd, fn0, by rw [← k4.fn]; exact hfn, hrv⟩
        · cases e
      · cases e
    · cases e
end
end Go.PB
