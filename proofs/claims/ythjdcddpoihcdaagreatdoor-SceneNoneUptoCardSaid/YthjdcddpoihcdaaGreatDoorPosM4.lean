/- B's machine and the model's: a frame that is left: its deferred calls, its results. -/
import Derived.Test.YthjdcddpoihcdaaGreatDoorPosM3
set_option linter.unusedSimpArgs false
set_option linter.unusedVariables false
namespace Go.PB
open Go

section
variable {P : Program} {g g' : Gh} {h h' : BHeap} {w w' : World} {lb ub : Nat} {base : Base} {b b' : BFrame} {f : Frame} {bs : List BFrame} {cs : List Frame}

theorem getRel {env : List BV} {tmps : Array Value} (hv : VRels P g w env tmps.toList) (t : Nat) : VRel P g w (env.getD t BV.undef) (tmps.getD t undef) := by
  have := evalRel hv { (default : Frame) with tmps := tmps } rfl (.tmp t)
  simpa only [evalB, Frame.eval] using this

theorem sim_results (hr : HRel P g h w) {fn : Func} {env : List BV} {tmps : Array Value} (hv : VRels P g w env tmps.toList) {v : BV} (e : resultsB P h fn env = some v) :
    ∃ v', (results fn tmps).run P w = .ok v' w ∧ VRel P g w v v' := by
  have key : ∀ (l : List ResultVar) (vs : List BV), (l.mapM fun | .tmp t => some (env.getD t BV.undef) | .cell a t => loadB P h t (env.getD a BV.undef)) = some vs →
      ∃ us, (l.mapM (fun | .tmp t => pure (tmps.getD t undef) | .cell a t => do loadVar t (← asAddr (tmps.getD a undef)) : ResultVar → Sem Value)).run P w = .ok us w ∧ VRels P g w vs us := by
    intro l
    induction l with
    | nil => intro vs e; simp at e; subst e; exact ⟨[], by simp, by simp [VRels]⟩
    | cons x l ih =>
      intro vs e
      simp only [List.mapM_cons, Option.bind_eq_bind, Option.bind_eq_some_iff, Option.pure_def, Option.some.injEq] at e
      obtain ⟨y, h1, ys, h2, rfl⟩ := e
      obtain ⟨us, h3, h4⟩ := ih ys h2
      have hx : ∃ u, ((fun | .tmp t => pure (tmps.getD t undef) | .cell a t => do loadVar t (← asAddr (tmps.getD a undef)) : ResultVar → Sem Value) x).run P w = .ok u w ∧ VRel P g w y u := by
        cases x with
        | tmp t =>
          simp only [Option.some.injEq] at h1
          subst h1
          exact ⟨_, by simp, getRel hv t⟩
        | cell a t =>
          obtain ⟨ad, v', ha, hl, hvr⟩ := sim_loadVar hr (getRel hv a) h1
          refine ⟨v', ?_, hvr⟩
          dsimp only
          rw [ha]
          simp [asAddr, hl]
      obtain ⟨u, k1, k2⟩ := hx
      refine ⟨u :: us, ?_, by simp only [VRels]; exact ⟨u, us, rfl, k2, h4⟩⟩
      rw [List.mapM_cons]
      refine (Sem.run_bind P w _ _).trans ?_
      rw [k1, Result.andThen_ok]
      refine (Sem.run_bind P w _ _).trans ?_
      rw [h3, Result.andThen_ok]
      simp
  unfold resultsB at e
  have hres : ∀ us, ((fn.results.toList).mapM (fun | .tmp t => pure (tmps.getD t undef) | .cell a t => do loadVar t (← asAddr (tmps.getD a undef)) : ResultVar → Sem Value)).run P w = .ok us w →
      (results fn tmps).run P w = .ok (if h : us.toArray.size = 1 then us.toArray[0] else .tuple us.toArray) w := by
    intro us hus
    unfold results
    refine (Sem.run_bind P w _ _).trans ?_
    rw [Array.mapM_eq_mapM_toList]
    have : ((Functor.map List.toArray ((fn.results.toList).mapM (fun | .tmp t => pure (tmps.getD t undef) | .cell a t => do loadVar t (← asAddr (tmps.getD a undef)) : ResultVar → Sem Value))) : Sem (Array Value)).run P w = .ok us.toArray w := by
      rw [map_eq_pure_bind]
      refine (Sem.run_bind P w _ _).trans ?_
      rw [hus, Result.andThen_ok]; simp
    exact (congrArg (fun r => Result.andThen r (fun a w' => Sem.run P (pure (if h : a.size = 1 then a[0] else Value.tuple a)) w')) this).trans rfl
  split at e
  · rename_i x hm
    cases e
    obtain ⟨us, h1, h2⟩ := key _ _ hm
    obtain ⟨u, rfl, hu⟩ := VRels.one (by simpa using h2)
    exact ⟨u, by rw [hres _ h1]; simp, hu⟩
  · rename_i vs hne hm
    cases e
    obtain ⟨us, h1, h2⟩ := key _ _ hm
    refine ⟨.tuple us.toArray, ?_, by simp only [VRel]; exact ⟨_, rfl, by simpa using h2⟩⟩
    rw [hres _ h1, dif_neg]
    intro hs
    have hl := h2.length
    simp only [List.size_toArray] at hs
    cases vs with
    | nil => simp at hl; simp [hl] at hs
    | cons a r =>
      cases r with
      | nil => exact hne a rfl
      | cons b r => simp at hl; omega
  · cases e

theorem sim_unwind (hr : HRel P g h w) (hlb : lb ≤ h.next) (hf : FRel P g h w lb h.next true b f) (hmode : b.mode ≠ .run) (hc : CRel P g h w base lb bs cs) {s' : BState} (e : unwindB P b bs h = some s') :
    Lands P base g h w s' (unwind P true f cs none w) := by
  have henv := hf.env hmode
  obtain ⟨ffn, ftmps, ftodo, fdefers, fmode, fkind, fround⟩ := f
  have hds := hf.defers
  have hfm := hf.mode
  unfold unwindB at e
  split at e
  · rename_i d ds hbd
    rw [hbd] at hds
    simp only [DRels] at hds
    obtain ⟨d', dr, hfd, ⟨ht, ha⟩, hdr⟩ := hds
    subst hfd
    obtain ⟨tgt, args⟩ := d'
    dsimp only at ht ha
    split at e
    · rename_i block hbt
      rw [hbt] at ht
      simp only [TgRel] at ht
      obtain ⟨blk, hm, rfl⟩ := ht
      split at e
      · rename_i calls hb
        cases e
        obtain ⟨_, o', hw, ho⟩ := hr.obj _ _ _ _ hb hm
        simp only [ORel] at ho
        obtain ⟨_, ds', rfl, hdd⟩ := ho
        obtain ⟨h1, h2⟩ := hr.write (w' := w.putObj blk (.deferred none)) (o' := .deferred none) (co' := .deferred none) hb hm hw rfl ⟨rfl, rfl, rfl⟩ (fun s hs => by simp [World.shape?, hw] at hs) (fun _ => by simp [ORel])
        have hrun := run_takeDeferred (P := P) hw
        refine ⟨g, _, lb, { fn := ffn, tmps := ftmps, todo := ftodo, defers := ds' ++ dr, mode := fmode, kind := fkind, roundOf := fround }, cs, ?_, ⟨h1, by simpa using hlb, ?_, hc.mono h2.mono ((Ph.put hm _).lt hlb)⟩, h2⟩
        · simp only [unwind, Sem.runT_eq, hrun, GStep.bare_after, GStep.bare_go]
        · exact ⟨hf.fn, hf.kind, hf.kinds, (hdd.mono h2.mono).append (hdr.mono h2.mono), hf.mode.mono h2.mono, hf.round.mono h2.mono, fun h => absurd h hmode, fun _ => VRels.mono h2.mono _ _ henv⟩
      · cases e
    · rename_i hnc
      -- a deferred call
      unfold callDeferredB at e
      split at e
      · cases e
      · rename_i hnn
        have hntc : ∀ r, tgt ≠ .collected r := fun r hr' => by
          subst hr'
          cases hbt : d.target <;> rw [hbt] at ht <;> simp only [TgRel] at ht <;> first
            | (cases ht; done)
            | (obtain ⟨_, ht, _⟩ := ht; cases ht; done)
            | (obtain ⟨_, _, ht⟩ := ht; cases ht; done)
            | (exact absurd hbt (hnc _))
        have hntn : tgt ≠ .nil := fun hr' => by
          subst hr'
          cases hbt : d.target <;> rw [hbt] at ht <;> simp only [TgRel] at ht <;> first
            | (cases ht; done)
            | (obtain ⟨_, ht, _⟩ := ht; cases ht; done)
            | (obtain ⟨_, _, ht⟩ := ht; cases ht; done)
            | (exact absurd hbt hnn)
        have hun : unwind P true { fn := ffn, tmps := ftmps, todo := ftodo, defers := ⟨tgt, args⟩ :: dr, mode := fmode, kind := fkind, roundOf := fround } cs none w =
            callDeferred P { fn := ffn, tmps := ftmps, todo := ftodo, defers := dr, mode := fmode, kind := fkind, roundOf := fround } cs none ⟨tgt, args⟩ w := by
          cases tgt <;> first
            | rfl
            | exact absurd rfl (hntc _)
        rw [hun]
        have hf' : FRel P g h w lb h.next true { b with defers := ds } { fn := ffn, tmps := ftmps, todo := ftodo, defers := dr, mode := fmode, kind := fkind, roundOf := fround } :=
          ⟨hf.fn, hf.kind, hf.kinds, hdr, hf.mode, hf.round, fun h => absurd h hmode, fun _ => henv⟩
        cases hi : invokeB P h d.target d.args with
        | none => rw [hi] at e; cases e
        | some q =>
          obtain ⟨n, h1⟩ := q
          rw [hi] at e
          obtain ⟨g1, w1, hr1, x1, p1, hn⟩ := sim_invoke hr ht ha hi
          have hf1 : FRel P g1 h1 w1 lb h.next false { b with defers := ds } _ := (hf'.idle hmode lb h.next false).mono x1.mono (p1.lt (Nat.le_refl _))
          have hc1 := hc.mono x1.mono (p1.lt hlb)
          have hcd : ∀ (r : Result Next), (invoke tgt args).run P w = r → (∀ a w1, r = .ok a w1 → True) → True := fun _ _ _ => trivial
          cases n <;> try (cases e; done)
          case enter fid eargs =>
            obtain ⟨args', hv, hva⟩ := hn
            simp only [Option.map_eq_some_iff] at e
            obtain ⟨c, e1, rfl⟩ := e
            refine ⟨g1, w1, h.next, _, { fn := ffn, tmps := ftmps, todo := ftodo, defers := dr, mode := fmode, kind := fkind, roundOf := fround } :: cs, ?_, ⟨hr1, x1.next, enterRel (.inr rfl) hva e1, ?_⟩, x1⟩
            · unfold callDeferred
              dsimp only
              rw [if_neg (by clear hun hf hfm henv ht hcd hf' hf1; cases tgt <;> first | (exact Bool.false_ne_true) | exact absurd rfl hntn)]
              simp only [Sem.runT_eq, hv, GStep.bare_after, GStep.bare_go]
            · simp only [CRel]
              exact ⟨_, cs, lb, rfl, hlb, hf1, hc1⟩
          case value v =>
            obtain ⟨v', hv, hva⟩ := hn
            cases e
            refine ⟨g1, w1, lb, { fn := ffn, tmps := ftmps, todo := ftodo, defers := dr, mode := fmode, kind := fkind, roundOf := fround }, cs, ?_, ⟨hr1, Nat.le_trans hlb x1.next, hf1.idle hmode _ _ _, hc1⟩, x1⟩
            unfold callDeferred
            dsimp only
            rw [if_neg (by clear hun hf hfm henv ht hcd hf' hf1; cases tgt <;> first | (exact Bool.false_ne_true) | exact absurd rfl hntn)]
            simp only [Sem.runT_eq, hv, GStep.bare_after, GStep.bare_go]
  · rename_i hbd
    rw [hbd] at hds
    simp only [DRels] at hds
    subst hds
    cases hbm : b.mode with
    | run => exact absurd hbm hmode
    | panicking chain =>
      rw [hbm] at e hfm
      simp only [ModeRel] at hfm
      obtain ⟨c', rfl, hpr⟩ := hfm
      dsimp only at e
      split at e
      · rename_i fn0 cb rb hfn
        cases e
        simp only [CRel] at hc
        obtain ⟨c, cr, lb', rfl, h1, h2, h3⟩ := hc
        refine ⟨g, w, lb', _, cr, ?_, ⟨hr, Nat.le_trans h1 hlb, sim_raise h2 hpr _, h3⟩, Ext.refl _ _ _⟩
        have hfn' : P.funcs[ffn]? = some fn0 := by rw [← hfn, hf.fn]
        simp only [unwind, Frame.catches, hfn', Bool.false_eq_true, if_false, GStep.bare_go]
      · cases e
    | returning =>
      rw [hbm] at e hfm
      simp only [ModeRel] at hfm
      subst hfm
      dsimp only at e
      split at e
      · cases e
      · rename_i fn0 hfn
        split at e
        · rename_i v hres
          have hfn' : P.funcs[ffn]? = some fn0 := by rw [← hfn, hf.fn]
          obtain ⟨v', hrun, hv⟩ := sim_results hr henv hres
          have := sim_doReturn (f := { fn := ffn, tmps := ftmps, todo := ftodo, defers := [], mode := .returning, kind := fkind, roundOf := fround }) hr hlb hf.kind hc hv e
          obtain ⟨g', w', lb', f', cs', k1, k2, k3⟩ := this
          refine ⟨g', w', lb', f', cs', ?_, k2, k3⟩
          rw [← k1]
          simp only [unwind, hfn', Sem.runT_eq, hrun, GStep.bare_after]
        · cases e
end
end Go.PB
