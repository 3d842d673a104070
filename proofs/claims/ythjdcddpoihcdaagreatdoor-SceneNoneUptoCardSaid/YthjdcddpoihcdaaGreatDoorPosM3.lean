/- B's machine and the model's: behind an operation; returns; unwinding. -/
import Derived.Test.YthjdcddpoihcdaaGreatDoorPosM2
set_option linter.unusedSimpArgs false
set_option linter.unusedVariables false
namespace Go.PB
open Go

section
variable {P : Program} {g g' : Gh} {h h' : BHeap} {w w' : World} {lb ub : Nat} {base : Base} {b b' : BFrame} {f : Frame} {bs : List BFrame} {cs : List Frame}

/-- where a step of the model leads -/
def Lands (P : Program) (base : Base) (g : Gh) (h : BHeap) (w : World) (s' : BState) (r : GStep) : Prop :=
  ∃ g' w' lb' f' cs', r.bare = .go { frame := f', callers := cs', status := .running, dying := none } w' ∧ SRel P base g' w' lb' s' f' cs' ∧ Ext g h w g' s'.h w'

theorem Lands.ext {g0 : Gh} {h0 : BHeap} {w0 : World} (e : Ext g0 h0 w0 g h w) {s' : BState} {r : GStep} (h' : Lands P base g h w s' r) : Lands P base g0 h0 w0 s' r := by
  obtain ⟨g', w', lb', f', cs', h1, h2, h3⟩ := h'
  exact ⟨g', w', lb', f', cs', h1, h2, e.trans h3⟩

/-- a value comes to a frame -/
theorem lands_finish (hr : HRel P g h w) (hlb : lb ≤ h.next) (hub : ub ≤ h.next) (hf : FRel P g h w lb ub false b f) (hc : CRel P g h w base lb bs cs) {v : BV} {v' : Value} (hv : VRel P g w v v')
    {s' : BState} (e : ((finishB P b v h).map fun (fr, h) => ({ fr, cs := bs, h } : BState)) = some s') {r : GStep} (hb : r.bare = .go { frame := f.finish v', callers := cs, status := .running, dying := none } w) : Lands P base g h w s' r := by
  simp only [Option.map_eq_some_iff] at e
  obtain ⟨⟨b', h'⟩, e1, rfl⟩ := e
  obtain ⟨h1, h2, h3, h4, h5⟩ := sim_finish hr hf hlb hub hv e1
  exact ⟨g, w, lb, _, cs, hb, ⟨h1, Nat.le_trans hlb h5, h4, hc.mono h2.mono (h3.lt hlb)⟩, h2⟩

theorem sim_apply (hr : HRel P g h w) (hlb : lb ≤ h.next) (hf : FRel P g h w lb h.next false b f) (hmode : b.mode = .run) (hc : CRel P g h w base lb bs cs) {s : Sem Next} {n : BNext} {h1 : BHeap}
    (hdone : Done P g h w n h1 (s.run P w)) {s' : BState} (e : applyB P b bs .normal (n, h1) = some s') : Lands P base g h w s' (stepG.apply P true f cs none s w) := by
  obtain ⟨g1, w1, hr1, x1, p1, hn⟩ := hdone
  have hf1 := hf.mono x1.mono (p1.lt (Nat.le_refl _))
  have hc1 := hc.mono x1.mono (p1.lt hlb)
  have hlb1 : lb ≤ h1.next := Nat.le_trans hlb x1.next
  have hfm : f.mode = .run := by have := hf.mode; rw [hmode] at this; exact this
  refine Lands.ext x1 ?_
  cases n with
  | value v =>
    obtain ⟨v', hv, hvr⟩ := hn
    exact lands_finish hr1 hlb1 x1.next hf1 hc1 hvr e (a_value hv)
  | skip => exact lands_finish hr1 hlb1 x1.next hf1 hc1 VRel.undef e (a_skipNext hn)
  | enter fid args =>
    obtain ⟨args', hv, ha⟩ := hn
    simp only [applyB, Option.map_eq_some_iff] at e
    obtain ⟨c, e1, rfl⟩ := e
    refine ⟨g1, w1, h.next, _, _, a_enter hv (hf.ctodo hmode), ⟨hr1, x1.next, enterRel (.inl rfl) ha e1, ?_⟩, Ext.refl _ _ _⟩
    simp only [CRel]
    exact ⟨f, cs, lb, rfl, hlb, hf1, hc1⟩
  | round l fid tmps assign body =>
    obtain ⟨l', tmps', hv, hl, ht⟩ := hn
    simp only [applyB] at e
    cases e
    refine ⟨g1, w1, h.next, _, _, a_round hv, ⟨hr1, x1.next, ?_, ?_⟩, Ext.refl _ _ _⟩
    · refine ⟨rfl, rfl, .inl rfl, by simp [DRels, Frame.round], rfl, ⟨l', hl, rfl⟩, fun _ => ?_, fun hn => absurd rfl hn⟩
      unfold RunRel
      dsimp only
      exact ⟨ht, _, _, rfl, rfl, _, _, rfl, rfl, _, _, rfl, rfl, rfl⟩
    · simp only [CRel]
      exact ⟨f, cs, lb, rfl, hlb, hf1, hc1⟩
  | defer d =>
    obtain ⟨d', hv, hd⟩ := hn
    have hf2 : FRel P g1 h1 w1 lb h.next false { b with defers := d :: b.defers } { f with defers := d' :: f.defers } :=
      ⟨hf1.fn, hf1.kind, hf1.kinds, ⟨_, _, rfl, hd, hf1.defers⟩, hf1.mode, hf1.round, hf1.run, hf1.env⟩
    exact lands_finish hr1 hlb1 x1.next hf2 hc1 VRel.undef e (a_defer hv)
  | recover =>
    simp only [applyB] at e
    split at e
    · cases e
    · rename_i hro
      have hro' : f.roundOf = none := by
        have := hf.round
        cases hb : b.roundOf with
        | some l => rw [hb] at hro; exact absurd rfl hro
        | none => rw [hb] at this; exact this
      have hstep := a_recover (P := P) (cs := cs) (f := f) hro' hn
      obtain ⟨k1, k2⟩ := sim_recover hf1 hc1
      split at e
      · rename_i v bs' ht
        obtain ⟨v', cs', h2, h3, h4⟩ := k1 _ _ ht
        rw [h2] at hstep
        exact lands_finish hr1 hlb1 x1.next hf1 h4 h3 e hstep
      · rename_i ht
        split at e
        · rename_i hk
          have hcase : b.kind = .normal ∨ (b.kind = .deferred ∧ bs ≠ []) := by
            rw [Bool.or_eq_true, Bool.and_eq_true] at hk
            rcases hk with hk | ⟨hk, hk2⟩
            · exact .inl (by cases hbk : b.kind <;> rw [hbk] at hk <;> first | rfl | (cases hk; done))
            · refine .inr ⟨by cases hbk : b.kind <;> rw [hbk] at hk <;> first | rfl | (cases hk; done), ?_⟩
              intro hbs; rw [hbs] at hk2; cases hk2
          rw [k2 ht hcase] at hstep
          exact lands_finish hr1 hlb1 x1.next hf1 hc1 (by simp [VRel]) e hstep
        · cases e
  | panic v =>
    obtain ⟨v', hv, hvr⟩ := hn
    simp only [applyB] at e
    cases e
    have hp : PanicsRel P g1 w1 [{ v := v, recovered := false }] [{ v := v', recovered := false }] := by
      simp only [PanicsRel]; exact ⟨_, _, rfl, ⟨hvr, rfl, rfl⟩, rfl⟩
    exact ⟨g1, w1, lb, _, _, a_panic hv, ⟨hr1, hlb1, sim_raise hf1 hp _, hc1⟩, Ext.refl _ _ _⟩

theorem FRel.idle {top : Bool} (hf : FRel P g h w lb ub top b f) (hm : b.mode ≠ .run) (lb' ub' : Nat) (top' : Bool) : FRel P g h w lb' ub' top' b f :=
  ⟨hf.fn, hf.kind, hf.kinds, hf.defers, hf.mode, hf.round, fun h => absurd h hm, hf.env⟩

theorem sim_doReturn (hr : HRel P g h w) (hlb : lb ≤ h.next) (hk : b.kind = f.kind) (hc : CRel P g h w base lb bs cs) {v : BV} {v' : Value} (hv : VRel P g w v v') {s' : BState} (e : doReturnB P b bs v h = some s') :
    Lands P base g h w s' (doReturn P true f cs none v' w) := by
  unfold doReturnB at e
  split at e
  · rename_i cb rb
    simp only [CRel] at hc
    obtain ⟨c, cr, lb', rfl, h1, h2, h3⟩ := hc
    split at e
    · rename_i hkd
      refine lands_finish hr (Nat.le_trans h1 hlb) hlb h2 h3 hv e ?_
      unfold doReturn
      rw [← hk, hkd]; rfl
    · rename_i hkd
      have hmode := h2.mode
      unfold doReturn
      rw [← hk, hkd]
      dsimp only
      split at e
      · cases e
      · rename_i v0 older hcm
        cases e
        rw [hcm] at hmode
        simp only [ModeRel, PanicsRel] at hmode
        obtain ⟨c', hc', en, er, rfl, ⟨hv0, hrec, hgo⟩, herr⟩ := hmode
        obtain ⟨ev, erec, ego⟩ := en
        simp only at hrec hgo
        subst hrec hgo
        have hdrop : er.dropWhile (fun x => !x.goexit) = [] := by
          have hall : ∀ (l : List BPanic) (es : List PanicEntry), PanicsRel P g w l es → es.dropWhile (fun x => !x.goexit) = [] := by
            intro l
            induction l with
            | nil => intro es h; simp only [PanicsRel] at h; subst h; rfl
            | cons x l ih => intro es h; simp only [PanicsRel] at h; obtain ⟨y, yr, rfl, ⟨_, _, hg⟩, h5⟩ := h; simp [List.dropWhile, hg, ih _ h5]
          exact hall _ _ herr
        refine ⟨g, w, lb', _, cr, by rw [hc']; dsimp only; rw [hdrop]; rfl, ⟨hr, Nat.le_trans h1 hlb, ?_, h3⟩, Ext.refl _ _ _⟩
        exact ⟨h2.fn, h2.kind, h2.kinds, h2.defers, rfl, h2.round, (fun h => by cases h), fun _ => h2.env (by rw [hcm]; exact fun h => by cases h)⟩
      · rename_i hnr hnp
        cases e
        have hne : cb.mode ≠ .run := hnr
        refine ⟨g, w, lb', c, cr, ?_, ⟨hr, Nat.le_trans h1 hlb, h2.idle hne _ _ _, h3⟩, Ext.refl _ _ _⟩
        cases hcm : cb.mode with
        | run => exact absurd hcm hne
        | returning => rw [hcm] at hmode; simp only [ModeRel] at hmode; rw [hmode]; rfl
        | panicking chain =>
          rw [hcm] at hmode
          simp only [ModeRel] at hmode
          obtain ⟨c', hc', hpr⟩ := hmode
          rw [hc']
          cases chain with
          | nil => simp only [PanicsRel] at hpr; subst hpr; rfl
          | cons p older =>
            simp only [PanicsRel] at hpr
            obtain ⟨en, er, rfl, ⟨hv0, hrec, hgo⟩, herr⟩ := hpr
            obtain ⟨pv, prec⟩ := p
            cases prec with
            | true => exact absurd hcm (hnp _ _)
            | false =>
              obtain ⟨ev, erec, ego⟩ := en
              simp only at hrec
              subst hrec
              rfl
    · cases e
  · cases e

/-- the record of a loop -/
theorem loop_write (hr : HRel P g h w) {l blk : Nat} {r : BLoop} (hb : h.get l = some (.loop r)) (hm : g.m l = some (blk, 0)) :
    ∃ r', w.heap[blk]? = some (.loop r') ∧ LRel P g w r r' ∧ ∀ st pd, HRel P g (h.put l (some (.loop { r with state := st, pending := pd }))) (w.putObj blk (.loop { r' with state := st, pending := pd })) ∧
      Ext g h w g (h.put l (some (.loop { r with state := st, pending := pd }))) (w.putObj blk (.loop { r' with state := st, pending := pd })) := by
  obtain ⟨_, o', hw, ho⟩ := hr.obj _ _ _ _ hb hm
  simp only [ORel] at ho
  obtain ⟨_, r', rfl, hl⟩ := ho
  refine ⟨r', hw, hl, fun st pd => hr.write hb hm hw rfl ⟨rfl, rfl, rfl⟩ (fun s hs => ?_) fun hmono => ?_⟩
  · simp [World.shape?, hw] at hs
  · simp only [ORel]
    refine ⟨trivial, _, rfl, ?_⟩
    have := hl.mono hmono
    exact ⟨rfl, rfl, this.2.2⟩

theorem sim_leave (hr : HRel P g h w) (hlb : lb ≤ h.next) (hf : FRel P g h w lb h.next true b f) (hmode : b.mode = .run) (henv : VRels P g w b.env f.tmps.toList) (hc : CRel P g h w base lb bs cs) {jump : Option Code} {s' : BState}
    (e : leaveB P b bs h jump = some s') {r : GStep}
    (hret : f.roundOf = none → (jump = none ∨ jump = some .ret) → r.bare = .go { frame := { f with mode := .returning }, callers := cs, status := .running, dying := none } w)
    (hround : ∀ l v w1, f.roundOf = some l → (Instr.endRound l jump).run P w = .ok v w1 → r.bare = (doReturn P true f cs none v w1).bare) : Lands P base g h w s' r := by
  unfold leaveB at e
  have hro := hf.round
  split at e
  · rename_i hb
    rw [hb] at hro
    simp only [RoundRel] at hro
    have hfin : ∀ s', some ({ fr := { b with mode := .returning }, cs := bs, h := h } : BState) = some s' → (jump = none ∨ jump = some .ret) → Lands P base g h w s' r := by
      intro s' e hj
      cases e
      refine ⟨g, w, lb, _, cs, hret hro hj, ⟨hr, hlb, ?_, hc⟩, Ext.refl _ _ _⟩
      exact ⟨hf.fn, hf.kind, hf.kinds, hf.defers, rfl, hf.round, (fun h => by cases h), fun _ => henv⟩
    split at e
    · exact hfin _ e (.inl rfl)
    · exact hfin _ e (.inr rfl)
    · cases e
  · rename_i l hb
    rw [hb] at hro
    simp only [RoundRel] at hro
    obtain ⟨blk, hm, hfr⟩ := hro
    split at e
    · rename_i r0 hl
      obtain ⟨r', hw, hlr, hwr⟩ := loop_write hr hl hm
      obtain ⟨h1, h2⟩ := hwr (if jump.isNone then .ready else .done) jump
      have hrun := run_endRound (P := P) jump hw
      have hb := hround blk _ _ hfr hrun
      have := sim_doReturn (f := f) h1 (by simpa using hlb) hf.kind (hc.mono h2.mono ((Ph.put hm _).lt hlb)) (v := .bool jump.isNone) (v' := .bool jump.isNone) (by simp [VRel]) e
      obtain ⟨g', w', lb', f', cs', k1, k2, k3⟩ := this
      exact ⟨g', w', lb', f', cs', hb.trans k1, k2, h2.trans k3⟩
    · cases e
end
end Go.PB
