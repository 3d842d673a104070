/- B's machine and the model's: a value comes, a panic comes, an operation ends. B's machine and the model's: behind an operation; returns; unwinding. B's machine and the model's: a frame that is left: its deferred calls, its results. -/
import Derived.Test.YtabfeencbambmaaGreatDoorPosF
import Derived.RangeFuncRecord
set_option linter.unusedSimpArgs false
set_option linter.unusedVariables false
namespace Go.PB
open Go

section
variable {P : Program} {g g' : Gh} {h h' : BHeap} {w w' : World} {lb ub : Nat} {base : Base} {b b' : BFrame} {f : Frame}


/-- a frame that waits for a value -/
theorem FRel.ctodo (hf : FRel P g h w lb ub false b f) (hm : b.mode = .run) : ∀ d r sv rest x, f.todo ≠ .call d x r sv :: rest := by
  intro d r sv rest x e
  have := hf.run hm
  unfold RunRel at this
  split at this
  · obtain ⟨_, rest', k', h1, _⟩ := this; rw [h1] at e; cases e
  · obtain ⟨_, h1⟩ := this
    rw [e] at h1
    cases ht : b.todo with
    | nil => rw [ht] at h1; simp only [ItemsRel] at h1; cases h1
    | cons i k =>
      rw [ht] at h1
      simp only [ItemsRel] at h1
      obtain ⟨i', ir, h2, h3, _⟩ := h1
      cases h2
      cases i <;> simp only [ItemRel] at h3 <;> first
        | (cases h3; done)
        | (obtain ⟨_, _, h3⟩ := h3; cases h3; done)
        | exact h3

theorem sim_finish (hr : HRel P g h w) (hf : FRel P g h w lb ub false b f) (hlb : lb ≤ h.next) (hub : ub ≤ h.next) {v : BV} {v' : Value} (hv : VRel P g w v v') (e : finishB P b v h = some (b', h')) :
    HRel P g h' w ∧ Ext g h w g h' w ∧ Ph g h g h' ∧ FRel P g h' w lb h'.next true b' (f.finish v') ∧ h.next ≤ h'.next := by
  unfold finishB at e
  split at e
  case h_2 => cases e
  rename_i hmode
  have hrun := hf.run hmode
  obtain ⟨ffn, ftmps, ftodo, fdefers, fmode, fkind, fround⟩ := f
  have hfm : fmode = .run := by have := hf.mode; rw [hmode] at this; exact this
  subst hfm
  split at e
  · rename_i ops i rest k ht
    cases e
    unfold RunRel at hrun
    rw [ht] at hrun
    dsimp only at hrun
    obtain ⟨h1, h2⟩ := hrun
    simp only [ItemsRel] at h2
    obtain ⟨it, ir, hft, h3, h4⟩ := h2
    simp only [ItemRel] at h3
    subst h3 hft
    refine ⟨hr, Ext.refl _ _ _, Ph.refl _ _, ?_, Nat.le_refl _⟩
    have hfin : (Frame.finish { fn := ffn, tmps := ftmps, todo := .inRegion ops (i :: rest) :: ir, defers := fdefers, mode := .run, kind := fkind, roundOf := fround } v') =
      { fn := ffn, tmps := putV ftmps ((ops[i]?).bind (·.dst)) v', todo := .inRegion ops rest :: ir, defers := fdefers, mode := .run, kind := fkind, roundOf := fround } := by
      simp only [Frame.finish]
      cases (ops[i]?).bind (·.dst) <;> rfl
    rw [hfin]
    refine ⟨hf.fn, hf.kind, hf.kinds, hf.defers, hf.mode, hf.round, fun _ => ?_, fun hn => absurd hmode hn⟩
    unfold RunRel
    dsimp only
    exact ⟨putRel h1 hv _, _, _, rfl, rfl, h4⟩
  · rename_i d k ht
    split at e
    · rename_i x effs he
      simp only [Option.map_eq_some_iff] at e
      obtain ⟨⟨d', h1⟩, e1, e2⟩ := e
      simp only [Prod.mk.injEq] at e2
      obtain ⟨rfl, rfl⟩ := e2
      unfold RunRel at hrun
      rw [ht] at hrun
      dsimp only at hrun
      obtain ⟨h2, rest, k', hft, h3, hp, _, ⟨ph, hd⟩, h5⟩ := hrun
      subst hft
      obtain ⟨x', r, hrest, hx'⟩ := h5 rfl
      rw [he] at hx'
      simp at hx'
      subst hx' hrest
      obtain ⟨o, ho, _⟩ := ((hd.effs x).1 (by rw [he]; simp)).2
      obtain ⟨ph', k1, k2, k3, k4, k5, k6⟩ := draw_next hr hd he ho hlb hub hv e1
      refine ⟨k1, k2, k3, ?_, k2.next⟩
      have hfin : (Frame.finish { fn := ffn, tmps := ftmps, todo := .inRegion d.ops (x :: r) :: k', defers := fdefers, mode := .run, kind := fkind, roundOf := fround } v') =
        { fn := ffn, tmps := putV ftmps o.dst v', todo := .inRegion d.ops r :: k', defers := fdefers, mode := .run, kind := fkind, roundOf := fround } := by
        simp only [Frame.finish, ho, Option.bind_some]
        cases o.dst <;> rfl
      rw [hfin]
      refine ⟨hf.fn, hf.kind, hf.kinds, hf.defers, hf.mode, hf.round, fun _ => ?_, fun hn => absurd hmode hn⟩
      unfold RunRel
      dsimp only
      refine ⟨by rw [k5]; exact h2, r, k', by rw [k4], h3, h1, fun _ => rfl, ⟨ph', k6⟩, fun h => by cases h⟩
    · cases e
  · rename_i l k ht
    cases e
    unfold RunRel at hrun
    rw [ht] at hrun
    dsimp only at hrun
    obtain ⟨h1, h2⟩ := hrun
    simp only [ItemsRel] at h2
    obtain ⟨it, ir, hft, h3, h4⟩ := h2
    simp only [ItemRel] at h3
    obtain ⟨blk, hm, rfl⟩ := h3
    subst hft
    refine ⟨hr, Ext.refl _ _ _, Ph.refl _ _, ?_, Nat.le_refl _⟩
    refine ⟨hf.fn, hf.kind, hf.kinds, hf.defers, hf.mode, hf.round, fun _ => ?_, fun hn => absurd hmode hn⟩
    unfold RunRel
    dsimp only
    exact ⟨h1, _, _, rfl, ⟨blk, hm, rfl⟩, h4⟩
  · cases e

theorem settle_weak {fr : BFrame} {tmps : Array Value} (hv : VRels P g w fr.env tmps.toList) : VRels P g w (settleEnv fr) tmps.toList := by
  unfold settleEnv
  split
  · rename_i d k ht
    refine VRels.of_get (by simpa using hv.length) fun i b v hb hw => ?_
    rw [List.getElem?_map] at hb
    cases hr : (List.range fr.env.length)[i]? with
    | none => rw [hr] at hb; cases hb
    | some j =>
      rw [hr] at hb
      have hij : j = i := by
        obtain ⟨h1, h2⟩ := List.getElem?_eq_some_iff.1 hr
        rw [List.getElem_range] at h2; exact h2.symm
      rw [hij] at hb
      simp at hb
      cases hw' : writerOf d.ops i with
      | some k => rw [hw'] at hb; subst hb; simp [VRel]
      | none =>
        rw [hw'] at hb
        dsimp only at hb
        subst hb
        obtain ⟨y, hy, hyv⟩ := hv.get' hw
        rw [hy]; exact hyv
  · exact hv

theorem FRel.settle {top : Bool} (hf : FRel P g h w lb ub top b f) : VRels P g w (settleEnv b) f.tmps.toList := by
  by_cases hm : b.mode = .run
  · have hrun := hf.run hm
    unfold RunRel at hrun
    split at hrun
    · rename_i d k ht
      obtain ⟨h2, rest, k', hft, h3, hp, _, ⟨ph, hd⟩, h5⟩ := hrun
      exact draw_settle hd h2 ht
    · exact settle_weak hrun.1
  · exact settle_weak (hf.env hm)

theorem sim_raise {top : Bool} (hf : FRel P g h w lb ub top b f) {vs : List BPanic} {es : List PanicEntry} (hp : PanicsRel P g w vs es) (ub' : Nat) : FRel P g h w lb ub' true (raiseB b vs) (f.raise es) := by
  have hs := hf.settle
  unfold raiseB Frame.raise
  have hmode := hf.mode
  cases hm : b.mode with
  | panicking chain =>
    rw [hm] at hmode
    simp only [ModeRel] at hmode
    obtain ⟨c', hc, hcr⟩ := hmode
    rw [hc]
    dsimp only
    exact ⟨hf.fn, hf.kind, hf.kinds, hf.defers, ⟨_, rfl, hp.append hcr⟩, hf.round, (fun h => by cases h), fun _ => hs⟩
  | run =>
    rw [hm] at hmode
    simp only [ModeRel] at hmode
    rw [hmode]
    dsimp only
    exact ⟨hf.fn, hf.kind, hf.kinds, hf.defers, ⟨_, rfl, hp⟩, hf.round, (fun h => by cases h), fun _ => hs⟩
  | returning =>
    rw [hm] at hmode
    simp only [ModeRel] at hmode
    rw [hmode]
    dsimp only
    exact ⟨hf.fn, hf.kind, hf.kinds, hf.defers, ⟨_, rfl, hp⟩, hf.round, (fun h => by cases h), fun _ => hs⟩

theorem enterRel {fid : FuncId} {args : List BV} {args' : Array Value} {kind : CallKind} (hk : kind = .normal ∨ kind = .deferred) (ha : VRels P g w args args'.toList) (e : enterB P fid args kind = some b) :
    FRel P g h w lb ub true b (Frame.enter P fid args' kind) := by
  unfold enterB at e
  split at e
  · rename_i fn hfn
    split at e
    · rename_i c hb
      cases e
      have hlen : args'.size = args.length := by have := ha.length; simpa using this
      have henv : VRels P g w (args ++ List.replicate (fn.ntmps - args.length) BV.undef) (args' ++ Array.replicate (fn.ntmps - args'.size) undef).toList := by
        rw [Array.toList_append, Array.toList_replicate, hlen]
        refine VRels.append ha ?_
        refine VRels.of_get (by simp) fun i b v hb hv => ?_
        rw [List.getElem?_replicate] at hb hv
        split at hb
        · rename_i hc
          rw [if_pos hc] at hv
          cases hb; cases hv; exact VRel.undef
        · cases hb
      unfold Frame.enter
      simp only [hfn, Option.map_some, Option.getD_some, Option.bind_some, hb]
      refine ⟨rfl, rfl, hk, by simp [DRels], rfl, by simp [RoundRel], fun _ => ?_, fun hn => absurd rfl hn⟩
      unfold RunRel
      dsimp only
      exact ⟨henv, _, _, rfl, rfl, by simp [ItemsRel]⟩
    · cases e
  · cases e

theorem sim_recover {top : Bool} (hf : FRel P g h w lb ub top b f) {bs : List BFrame} {cs : List Frame} {lb0 : Nat} (hc : CRel P g h w base lb0 bs cs) :
    (∀ v bs', tryRecoverB b bs = some (v, bs') → ∃ v' cs', tryRecover f cs = some (v', cs') ∧ VRel P g w v v' ∧ CRel P g h w base lb0 bs' cs') ∧
    (tryRecoverB b bs = none → (b.kind = .normal ∨ (b.kind = .deferred ∧ bs ≠ [])) → tryRecover f cs = none) := by
  have hk := hf.kind
  cases bs with
  | nil =>
    refine ⟨fun v bs' e => by simp [tryRecoverB] at e, fun _ hcase => ?_⟩
    rcases hcase with hn | ⟨_, hne⟩
    · unfold tryRecover
      rw [← hk, hn]
    · exact absurd rfl hne
  | cons cb rb =>
    simp only [CRel] at hc
    obtain ⟨c, cr, lb', rfl, h1, h2, h3⟩ := hc
    have hmode := h2.mode
    constructor
    · intro v bs' e
      simp only [tryRecoverB] at e
      split at e
      · rename_i hkd
        split at e
        · rename_i v0 older hcm
          cases e
          rw [hcm] at hmode
          simp only [ModeRel, PanicsRel] at hmode
          obtain ⟨c', hc', en, er, rfl, ⟨hv, hrec, hgo⟩, herr⟩ := hmode
          obtain ⟨ev, erec, ego⟩ := en
          simp only at hv hrec hgo
          subst hrec hgo
          unfold tryRecover
          rw [← hk, hkd]
          dsimp only
          rw [hc']
          refine ⟨ev, _, rfl, hv, ?_⟩
          simp only [CRel]
          refine ⟨_, _, lb', rfl, h1, ?_, h3⟩
          exact ⟨h2.fn, h2.kind, h2.kinds, h2.defers, ⟨_, rfl, _, _, rfl, ⟨hv, rfl, rfl⟩, herr⟩, h2.round, (fun h => by cases h), fun _ => h2.env (by rw [hcm]; exact fun h => by cases h)⟩
        · cases e
      · cases e
    · intro e hcase
      simp only [tryRecoverB] at e
      unfold tryRecover
      rw [← hk]
      rcases hcase with hn | ⟨hn, _⟩
      · rw [hn]
      · rw [hn] at e ⊢
        dsimp only at e ⊢
        cases hcm : cb.mode with
        | run => rw [hcm] at hmode; simp only [ModeRel] at hmode; rw [hmode]
        | returning => rw [hcm] at hmode; simp only [ModeRel] at hmode; rw [hmode]
        | panicking chain =>
          rw [hcm] at hmode e
          simp only [ModeRel] at hmode
          obtain ⟨c', hc', hpr⟩ := hmode
          rw [hc']
          cases chain with
          | nil => simp only [PanicsRel] at hpr; subst hpr; rfl
          | cons p older =>
            simp only [PanicsRel] at hpr
            obtain ⟨en, er, rfl, ⟨hv, hrec, hgo⟩, herr⟩ := hpr
            obtain ⟨pv, prec⟩ := p
            cases prec with
            | false => cases e
            | true =>
              obtain ⟨ev, erec, ego⟩ := en
              simp only at hrec
              subst hrec
              rfl
end
end Go.PB

set_option linter.unusedSimpArgs false
set_option linter.unusedVariables false
namespace Go.PB
open Go

section
variable {P : Program} {g g' : Gh} {h h' : BHeap} {w w' : World} {lb ub : Nat} {base : Base} {b b' : BFrame} {f : Frame} {bs : List BFrame} {cs : List Frame}

/-- where a step of the model leads -/
def Lands (P : Program) (base : Base) (g : Gh) (h : BHeap) (w : World) (s' : BState) (r : GStep) : Prop :=
  ∃ g' w' lb' f' cs', r.bare = .go { frame := f', callers := cs', status := .running, dying := none } w' ∧ SRel P base g' w' lb' s' f' cs' ∧ Ext g h w g' s'.h w'

theorem Lands.ext {g0 : Gh} {h0 : BHeap} {w0 : World} (e : Ext g0 h0 w0 g h w) {s' : BState} {r : GStep} (h' : Lands P base g h w s' r) : Lands P base g0 h0 w0 s' r := by
  obtain ⟨g', w', lb', f', cs', h1, h2, h3⟩ := h'
  exact ⟨g', w', lb', f', cs', h1, h2, e.trans h3⟩

/-- a value comes to a frame -/
theorem lands_finish (hr : HRel P g h w) (hlb : lb ≤ h.next) (hub : ub ≤ h.next) (hf : FRel P g h w lb ub false b f) (hc : CRel P g h w base lb bs cs) {v : BV} {v' : Value} (hv : VRel P g w v v')
    {s' : BState} (e : ((finishB P b v h).map fun (fr, h) => ({ fr, cs := bs, h } : BState)) = some s') {r : GStep} (hb : r.bare = .go { frame := f.finish v', callers := cs, status := .running, dying := none } w) : Lands P base g h w s' r := by
  simp only [Option.map_eq_some_iff] at e
  obtain ⟨⟨b', h'⟩, e1, rfl⟩ := e
  obtain ⟨h1, h2, h3, h4, h5⟩ := sim_finish hr hf hlb hub hv e1
  exact ⟨g, w, lb, _, cs, hb, ⟨h1, Nat.le_trans hlb h5, h4, hc.mono h2.mono (h3.lt hlb)⟩, h2⟩

theorem sim_apply (hr : HRel P g h w) (hlb : lb ≤ h.next) (hf : FRel P g h w lb h.next false b f) (hmode : b.mode = .run) (hc : CRel P g h w base lb bs cs) {s : Sem Next} {n : BNext} {h1 : BHeap}
    (hdone : Done P g h w n h1 (s.run P w)) {s' : BState} (e : applyB P b bs .normal (n, h1) = some s') : Lands P base g h w s' (stepG.apply P true f cs none s w) := by
  obtain ⟨g1, w1, hr1, x1, p1, hn⟩ := hdone
  have hf1 := hf.mono x1.mono (p1.lt (Nat.le_refl _))
  have hc1 := hc.mono x1.mono (p1.lt hlb)
  have hlb1 : lb ≤ h1.next := Nat.le_trans hlb x1.next
  have hfm : f.mode = .run := by have := hf.mode; rw [hmode] at this; exact this
  refine Lands.ext x1 ?_
  cases n with
  | value v =>
    obtain ⟨v', hv, hvr⟩ := hn
    exact lands_finish hr1 hlb1 x1.next hf1 hc1 hvr e (a_value hv)
  | skip => exact lands_finish hr1 hlb1 x1.next hf1 hc1 VRel.undef e (a_skipNext hn)
  | enter fid args =>
    obtain ⟨args', hv, ha⟩ := hn
    simp only [applyB, Option.map_eq_some_iff] at e
    obtain ⟨c, e1, rfl⟩ := e
    refine ⟨g1, w1, h.next, _, _, a_enter hv (hf.ctodo hmode), ⟨hr1, x1.next, enterRel (.inl rfl) ha e1, ?_⟩, Ext.refl _ _ _⟩
    simp only [CRel]
    exact ⟨f, cs, lb, rfl, hlb, hf1, hc1⟩
  | round l fid tmps assign body =>
    obtain ⟨l', tmps', hv, hl, ht⟩ := hn
    simp only [applyB] at e
    cases e
    refine ⟨g1, w1, h.next, _, _, a_round hv, ⟨hr1, x1.next, ?_, ?_⟩, Ext.refl _ _ _⟩
    · refine ⟨rfl, rfl, .inl rfl, by simp [DRels, Frame.round], rfl, ⟨l', hl, rfl⟩, fun _ => ?_, fun hn => absurd rfl hn⟩
      unfold RunRel
      dsimp only
      exact ⟨ht, _, _, rfl, rfl, _, _, rfl, rfl, _, _, rfl, rfl, rfl⟩
    · simp only [CRel]
      exact ⟨f, cs, lb, rfl, hlb, hf1, hc1⟩
  | defer d =>
    obtain ⟨d', hv, hd⟩ := hn
    have hf2 : FRel P g1 h1 w1 lb h.next false { b with defers := d :: b.defers } { f with defers := d' :: f.defers } :=
      ⟨hf1.fn, hf1.kind, hf1.kinds, ⟨_, _, rfl, hd, hf1.defers⟩, hf1.mode, hf1.round, hf1.run, hf1.env⟩
    exact lands_finish hr1 hlb1 x1.next hf2 hc1 VRel.undef e (a_defer hv)
  | recover =>
    simp only [applyB] at e
    split at e
    · cases e
    · rename_i hro
      have hro' : f.roundOf = none := by
        have := hf.round
        cases hb : b.roundOf with
        | some l => rw [hb] at hro; exact absurd rfl hro
        | none => rw [hb] at this; exact this
      have hstep := a_recover (P := P) (cs := cs) (f := f) hro' hn
      obtain ⟨k1, k2⟩ := sim_recover hf1 hc1
      split at e
      · rename_i v bs' ht
        obtain ⟨v', cs', h2, h3, h4⟩ := k1 _ _ ht
        rw [h2] at hstep
        exact lands_finish hr1 hlb1 x1.next hf1 h4 h3 e hstep
      · rename_i ht
        split at e
        · rename_i hk
          have hcase : b.kind = .normal ∨ (b.kind = .deferred ∧ bs ≠ []) := by
            rw [Bool.or_eq_true, Bool.and_eq_true] at hk
            rcases hk with hk | ⟨hk, hk2⟩
            · exact .inl (by cases hbk : b.kind <;> rw [hbk] at hk <;> first | rfl | (cases hk; done))
            · refine .inr ⟨by cases hbk : b.kind <;> rw [hbk] at hk <;> first | rfl | (cases hk; done), ?_⟩
              intro hbs; rw [hbs] at hk2; cases hk2
          rw [k2 ht hcase] at hstep
          exact lands_finish hr1 hlb1 x1.next hf1 hc1 (by simp [VRel]) e hstep
        · cases e
  | panic v =>
    obtain ⟨v', hv, hvr⟩ := hn
    simp only [applyB] at e
    cases e
    have hp : PanicsRel P g1 w1 [{ v := v, recovered := false }] [{ v := v', recovered := false }] := by
      simp only [PanicsRel]; exact ⟨_, _, rfl, ⟨hvr, rfl, rfl⟩, rfl⟩
    exact ⟨g1, w1, lb, _, _, a_panic hv, ⟨hr1, hlb1, sim_raise hf1 hp _, hc1⟩, Ext.refl _ _ _⟩

theorem FRel.idle {top : Bool} (hf : FRel P g h w lb ub top b f) (hm : b.mode ≠ .run) (lb' ub' : Nat) (top' : Bool) : FRel P g h w lb' ub' top' b f :=
  ⟨hf.fn, hf.kind, hf.kinds, hf.defers, hf.mode, hf.round, fun h => absurd h hm, hf.env⟩

theorem sim_doReturn (hr : HRel P g h w) (hlb : lb ≤ h.next) (hk : b.kind = f.kind) (hc : CRel P g h w base lb bs cs) {v : BV} {v' : Value} (hv : VRel P g w v v') {s' : BState} (e : doReturnB P b bs v h = some s') :
    Lands P base g h w s' (doReturn P true f cs none v' w) := by
  unfold doReturnB at e
  split at e
  · rename_i cb rb
    simp only [CRel] at hc
    obtain ⟨c, cr, lb', rfl, h1, h2, h3⟩ := hc
    split at e
    · rename_i hkd
      refine lands_finish hr (Nat.le_trans h1 hlb) hlb h2 h3 hv e ?_
      unfold doReturn
      rw [← hk, hkd]; rfl
    · rename_i hkd
      have hmode := h2.mode
      unfold doReturn
      rw [← hk, hkd]
      dsimp only
      split at e
      · cases e
      · rename_i v0 older hcm
        cases e
        rw [hcm] at hmode
        simp only [ModeRel, PanicsRel] at hmode
        obtain ⟨c', hc', en, er, rfl, ⟨hv0, hrec, hgo⟩, herr⟩ := hmode
        obtain ⟨ev, erec, ego⟩ := en
        simp only at hrec hgo
        subst hrec hgo
        have hdrop : er.dropWhile (fun x => !x.goexit) = [] := by
          have hall : ∀ (l : List BPanic) (es : List PanicEntry), PanicsRel P g w l es → es.dropWhile (fun x => !x.goexit) = [] := by
            intro l
            induction l with
            | nil => intro es h; simp only [PanicsRel] at h; subst h; rfl
            | cons x l ih => intro es h; simp only [PanicsRel] at h; obtain ⟨y, yr, rfl, ⟨_, _, hg⟩, h5⟩ := h; simp [List.dropWhile, hg, ih _ h5]
          exact hall _ _ herr
        refine ⟨g, w, lb', _, cr, by rw [hc']; dsimp only; rw [hdrop]; rfl, ⟨hr, Nat.le_trans h1 hlb, ?_, h3⟩, Ext.refl _ _ _⟩
        exact ⟨h2.fn, h2.kind, h2.kinds, h2.defers, rfl, h2.round, (fun h => by cases h), fun _ => h2.env (by rw [hcm]; exact fun h => by cases h)⟩
      · rename_i hnr hnp
        cases e
        have hne : cb.mode ≠ .run := hnr
        refine ⟨g, w, lb', c, cr, ?_, ⟨hr, Nat.le_trans h1 hlb, h2.idle hne _ _ _, h3⟩, Ext.refl _ _ _⟩
        cases hcm : cb.mode with
        | run => exact absurd hcm hne
        | returning => rw [hcm] at hmode; simp only [ModeRel] at hmode; rw [hmode]; rfl
        | panicking chain =>
          rw [hcm] at hmode
          simp only [ModeRel] at hmode
          obtain ⟨c', hc', hpr⟩ := hmode
          rw [hc']
          cases chain with
          | nil => simp only [PanicsRel] at hpr; subst hpr; rfl
          | cons p older =>
            simp only [PanicsRel] at hpr
            obtain ⟨en, er, rfl, ⟨hv0, hrec, hgo⟩, herr⟩ := hpr
            obtain ⟨pv, prec⟩ := p
            cases prec with
            | true => exact absurd hcm (hnp _ _)
            | false =>
              obtain ⟨ev, erec, ego⟩ := en
              simp only at hrec
              subst hrec
              rfl
    · cases e
  · cases e

/-- the record of a loop -/
theorem loop_write (hr : HRel P g h w) {l blk : Nat} {r : BLoop} (hb : h.get l = some (.loop r)) (hm : g.m l = some (blk, 0)) :
    ∃ r', w.heap[blk]? = some (.loop r') ∧ LRel P g w r r' ∧ ∀ st pd, HRel P g (h.put l (some (.loop { r with state := st, pending := pd }))) (w.putObj blk (.loop { r' with state := st, pending := pd })) ∧
      Ext g h w g (h.put l (some (.loop { r with state := st, pending := pd }))) (w.putObj blk (.loop { r' with state := st, pending := pd })) := by
  obtain ⟨_, o', hw, ho⟩ := hr.obj _ _ _ _ hb hm
  simp only [ORel] at ho
  obtain ⟨_, r', rfl, hl⟩ := ho
  refine ⟨r', hw, hl, fun st pd => hr.write hb hm hw rfl ⟨rfl, rfl, rfl⟩ (fun s hs => ?_) fun hmono => ?_⟩
  · simp [World.shape?, hw] at hs
  · simp only [ORel]
    refine ⟨trivial, _, rfl, ?_⟩
    have := hl.mono hmono
    exact ⟨rfl, rfl, this.2.2⟩

theorem sim_leave (hr : HRel P g h w) (hlb : lb ≤ h.next) (hf : FRel P g h w lb h.next true b f) (hmode : b.mode = .run) (henv : VRels P g w b.env f.tmps.toList) (hc : CRel P g h w base lb bs cs) {jump : Option Code} {s' : BState}
    (e : leaveB P b bs h jump = some s') {r : GStep}
    (hret : f.roundOf = none → (jump = none ∨ jump = some .ret) → r.bare = .go { frame := { f with mode := .returning }, callers := cs, status := .running, dying := none } w)
    (hround : ∀ l v w1, f.roundOf = some l → (Instr.endRound l jump).run P w = .ok v w1 → r.bare = (doReturn P true f cs none v w1).bare) : Lands P base g h w s' r := by
  unfold leaveB at e
  have hro := hf.round
  split at e
  · rename_i hb
    rw [hb] at hro
    simp only [RoundRel] at hro
    have hfin : ∀ s', some ({ fr := { b with mode := .returning }, cs := bs, h := h } : BState) = some s' → (jump = none ∨ jump = some .ret) → Lands P base g h w s' r := by
      intro s' e hj
      cases e
      refine ⟨g, w, lb, _, cs, hret hro hj, ⟨hr, hlb, ?_, hc⟩, Ext.refl _ _ _⟩
      exact ⟨hf.fn, hf.kind, hf.kinds, hf.defers, rfl, hf.round, (fun h => by cases h), fun _ => henv⟩
    split at e
    · exact hfin _ e (.inl rfl)
    · exact hfin _ e (.inr rfl)
    · cases e
  · rename_i l hb
    rw [hb] at hro
    simp only [RoundRel] at hro
    obtain ⟨blk, hm, hfr⟩ := hro
    split at e
    · rename_i r0 hl
      obtain ⟨r', hw, hlr, hwr⟩ := loop_write hr hl hm
      obtain ⟨h1, h2⟩ := hwr (if jump.isNone then .ready else .done) jump
      have hrun := run_endRound (P := P) jump hw
      have hb := hround blk _ _ hfr hrun
      have := sim_doReturn (f := f) h1 (by simpa using hlb) hf.kind (hc.mono h2.mono ((Ph.put hm _).lt hlb)) (v := .bool jump.isNone) (v' := .bool jump.isNone) (by simp [VRel]) e
      obtain ⟨g', w', lb', f', cs', k1, k2, k3⟩ := this
      exact ⟨g', w', lb', f', cs', hb.trans k1, k2, h2.trans k3⟩
    · cases e
end
end Go.PB

set_option linter.unusedSimpArgs false
set_option linter.unusedVariables false
namespace Go.PB
open Go

section
variable {P : Program} {g g' : Gh} {h h' : BHeap} {w w' : World} {lb ub : Nat} {base : Base} {b b' : BFrame} {f : Frame} {bs : List BFrame} {cs : List Frame}

theorem getRel {env : List BV} {tmps : Array Value} (hv : VRels P g w env tmps.toList) (t : Nat) : VRel P g w (env.getD t BV.undef) (tmps.getD t undef) := by
  have := evalRel hv { (default : Frame) with tmps := tmps } rfl (.tmp t)
  simpa only [evalB, Frame.eval] using this

theorem sim_results (hr : HRel P g h w) {fn : Func} {env : List BV} {tmps : Array Value} (hv : VRels P g w env tmps.toList) {v : BV} (e : resultsB P h fn env = some v) :
    ∃ v', (results fn tmps).run P w = .ok v' w ∧ VRel P g w v v' := by
  have key : ∀ (l : List ResultVar) (vs : List BV), (l.mapM fun | .tmp t => some (env.getD t BV.undef) | .cell a t => loadB P h t (env.getD a BV.undef)) = some vs →
      ∃ us, (l.mapM (fun | .tmp t => pure (tmps.getD t undef) | .cell a t => do loadVar t (← asAddr (tmps.getD a undef)) : ResultVar → Sem Value)).run P w = .ok us w ∧ VRels P g w vs us := by
    intro l
    induction l with
    | nil => intro vs e; simp at e; subst e; exact ⟨[], by simp, by simp [VRels]⟩
    | cons x l ih =>
      intro vs e
      simp only [List.mapM_cons, Option.bind_eq_bind, Option.bind_eq_some_iff, Option.pure_def, Option.some.injEq] at e
      obtain ⟨y, h1, ys, h2, rfl⟩ := e
      obtain ⟨us, h3, h4⟩ := ih ys h2
      have hx : ∃ u, ((fun | .tmp t => pure (tmps.getD t undef) | .cell a t => do loadVar t (← asAddr (tmps.getD a undef)) : ResultVar → Sem Value) x).run P w = .ok u w ∧ VRel P g w y u := by
        cases x with
        | tmp t =>
          simp only [Option.some.injEq] at h1
          subst h1
          exact ⟨_, by simp, getRel hv t⟩
        | cell a t =>
          obtain ⟨ad, v', ha, hl, hvr⟩ := sim_loadVar hr (getRel hv a) h1
          refine ⟨v', ?_, hvr⟩
          dsimp only
          rw [ha]
          simp [asAddr, hl]
      obtain ⟨u, k1, k2⟩ := hx
      refine ⟨u :: us, ?_, by simp only [VRels]; exact ⟨u, us, rfl, k2, h4⟩⟩
      rw [List.mapM_cons]
      refine (Sem.run_bind P w _ _).trans ?_
      rw [k1, Result.andThen_ok]
      refine (Sem.run_bind P w _ _).trans ?_
      rw [h3, Result.andThen_ok]
      simp
  unfold resultsB at e
  have hres : ∀ us, ((fn.results.toList).mapM (fun | .tmp t => pure (tmps.getD t undef) | .cell a t => do loadVar t (← asAddr (tmps.getD a undef)) : ResultVar → Sem Value)).run P w = .ok us w →
      (results fn tmps).run P w = .ok (if h : us.toArray.size = 1 then us.toArray[0] else .tuple us.toArray) w := by
    intro us hus
    unfold results
    refine (Sem.run_bind P w _ _).trans ?_
    rw [Array.mapM_eq_mapM_toList]
    have : ((Functor.map List.toArray ((fn.results.toList).mapM (fun | .tmp t => pure (tmps.getD t undef) | .cell a t => do loadVar t (← asAddr (tmps.getD a undef)) : ResultVar → Sem Value))) : Sem (Array Value)).run P w = .ok us.toArray w := by
      rw [map_eq_pure_bind]
      refine (Sem.run_bind P w _ _).trans ?_
      rw [hus, Result.andThen_ok]; simp
    exact (congrArg (fun r => Result.andThen r (fun a w' => Sem.run P (pure (if h : a.size = 1 then a[0] else Value.tuple a)) w')) this).trans rfl
  split at e
  · rename_i x hm
    cases e
    obtain ⟨us, h1, h2⟩ := key _ _ hm
    obtain ⟨u, rfl, hu⟩ := VRels.one (by simpa using h2)
    exact ⟨u, by rw [hres _ h1]; simp, hu⟩
  · rename_i vs hne hm
    cases e
    obtain ⟨us, h1, h2⟩ := key _ _ hm
    refine ⟨.tuple us.toArray, ?_, by simp only [VRel]; exact ⟨_, rfl, by simpa using h2⟩⟩
    rw [hres _ h1, dif_neg]
    intro hs
    have hl := h2.length
    simp only [List.size_toArray] at hs
    cases vs with
    | nil => simp at hl; simp [hl] at hs
    | cons a r =>
      cases r with
      | nil => exact hne a rfl
      | cons b r => simp at hl; omega
  · cases e

theorem sim_unwind (hr : HRel P g h w) (hlb : lb ≤ h.next) (hf : FRel P g h w lb h.next true b f) (hmode : b.mode ≠ .run) (hc : CRel P g h w base lb bs cs) {s' : BState} (e : unwindB P b bs h = some s') :
    Lands P base g h w s' (unwind P true f cs none w) := by
  have henv := hf.env hmode
  obtain ⟨ffn, ftmps, ftodo, fdefers, fmode, fkind, fround⟩ := f
  have hds := hf.defers
  have hfm := hf.mode
  unfold unwindB at e
  split at e
  · rename_i d ds hbd
    rw [hbd] at hds
    simp only [DRels] at hds
    obtain ⟨d', dr, hfd, ⟨ht, ha⟩, hdr⟩ := hds
    subst hfd
    obtain ⟨tgt, args⟩ := d'
    dsimp only at ht ha
    split at e
    · rename_i block hbt
      rw [hbt] at ht
      simp only [TgRel] at ht
      obtain ⟨blk, hm, rfl⟩ := ht
      split at e
      · rename_i calls hb
        cases e
        obtain ⟨_, o', hw, ho⟩ := hr.obj _ _ _ _ hb hm
        simp only [ORel] at ho
        obtain ⟨_, ds', rfl, hdd⟩ := ho
        obtain ⟨h1, h2⟩ := hr.write (w' := w.putObj blk (.deferred none)) (o' := .deferred none) (co' := .deferred none) hb hm hw rfl ⟨rfl, rfl, rfl⟩ (fun s hs => by simp [World.shape?, hw] at hs) (fun _ => by simp [ORel])
        have hrun := run_takeDeferred (P := P) hw
        refine ⟨g, _, lb, { fn := ffn, tmps := ftmps, todo := ftodo, defers := ds' ++ dr, mode := fmode, kind := fkind, roundOf := fround }, cs, ?_, ⟨h1, by simpa using hlb, ?_, hc.mono h2.mono ((Ph.put hm _).lt hlb)⟩, h2⟩
        · simp only [unwind, Sem.runT_eq, hrun, GStep.bare_after, GStep.bare_go]
        · exact ⟨hf.fn, hf.kind, hf.kinds, (hdd.mono h2.mono).append (hdr.mono h2.mono), hf.mode.mono h2.mono, hf.round.mono h2.mono, fun h => absurd h hmode, fun _ => VRels.mono h2.mono _ _ henv⟩
      · cases e
    · rename_i hnc
      -- a deferred call
      unfold callDeferredB at e
      split at e
      · cases e
      · rename_i hnn
        have hntc : ∀ r, tgt ≠ .collected r := fun r hr' => by
          subst hr'
          cases hbt : d.target <;> rw [hbt] at ht <;> simp only [TgRel] at ht <;> first
            | (cases ht; done)
            | (obtain ⟨_, ht, _⟩ := ht; cases ht; done)
            | (obtain ⟨_, _, ht⟩ := ht; cases ht; done)
            | (exact absurd hbt (hnc _))
        have hntn : tgt ≠ .nil := fun hr' => by
          subst hr'
          cases hbt : d.target <;> rw [hbt] at ht <;> simp only [TgRel] at ht <;> first
            | (cases ht; done)
            | (obtain ⟨_, ht, _⟩ := ht; cases ht; done)
            | (obtain ⟨_, _, ht⟩ := ht; cases ht; done)
            | (exact absurd hbt hnn)
        have hun : unwind P true { fn := ffn, tmps := ftmps, todo := ftodo, defers := ⟨tgt, args⟩ :: dr, mode := fmode, kind := fkind, roundOf := fround } cs none w =
            callDeferred P { fn := ffn, tmps := ftmps, todo := ftodo, defers := dr, mode := fmode, kind := fkind, roundOf := fround } cs none ⟨tgt, args⟩ w := by
          cases tgt <;> first
            | rfl
            | exact absurd rfl (hntc _)
        rw [hun]
        have hf' : FRel P g h w lb h.next true { b with defers := ds } { fn := ffn, tmps := ftmps, todo := ftodo, defers := dr, mode := fmode, kind := fkind, roundOf := fround } :=
          ⟨hf.fn, hf.kind, hf.kinds, hdr, hf.mode, hf.round, fun h => absurd h hmode, fun _ => henv⟩
        cases hi : invokeB P h d.target d.args with
        | none => rw [hi] at e; cases e
        | some q =>
          obtain ⟨n, h1⟩ := q
          rw [hi] at e
          obtain ⟨g1, w1, hr1, x1, p1, hn⟩ := sim_invoke hr ht ha hi
          have hf1 : FRel P g1 h1 w1 lb h.next false { b with defers := ds } _ := (hf'.idle hmode lb h.next false).mono x1.mono (p1.lt (Nat.le_refl _))
          have hc1 := hc.mono x1.mono (p1.lt hlb)
          have hcd : ∀ (r : Result Next), (invoke tgt args).run P w = r → (∀ a w1, r = .ok a w1 → True) → True := fun _ _ _ => trivial
          cases n <;> try (cases e; done)
          case enter fid eargs =>
            obtain ⟨args', hv, hva⟩ := hn
            simp only [Option.map_eq_some_iff] at e
            obtain ⟨c, e1, rfl⟩ := e
            refine ⟨g1, w1, h.next, _, { fn := ffn, tmps := ftmps, todo := ftodo, defers := dr, mode := fmode, kind := fkind, roundOf := fround } :: cs, ?_, ⟨hr1, x1.next, enterRel (.inr rfl) hva e1, ?_⟩, x1⟩
            · unfold callDeferred
              dsimp only
              rw [if_neg (by clear hun hf hfm henv ht hcd hf' hf1; cases tgt <;> first | (exact Bool.false_ne_true) | exact absurd rfl hntn)]
              simp only [Sem.runT_eq, hv, GStep.bare_after, GStep.bare_go]
            · simp only [CRel]
              exact ⟨_, cs, lb, rfl, hlb, hf1, hc1⟩
          case value v =>
            obtain ⟨v', hv, hva⟩ := hn
            cases e
            refine ⟨g1, w1, lb, { fn := ffn, tmps := ftmps, todo := ftodo, defers := dr, mode := fmode, kind := fkind, roundOf := fround }, cs, ?_, ⟨hr1, Nat.le_trans hlb x1.next, hf1.idle hmode _ _ _, hc1⟩, x1⟩
            unfold callDeferred
            dsimp only
            rw [if_neg (by clear hun hf hfm henv ht hcd hf' hf1; cases tgt <;> first | (exact Bool.false_ne_true) | exact absurd rfl hntn)]
            simp only [Sem.runT_eq, hv, GStep.bare_after, GStep.bare_go]
  · rename_i hbd
    rw [hbd] at hds
    simp only [DRels] at hds
    subst hds
    cases hbm : b.mode with
    | run => exact absurd hbm hmode
    | panicking chain =>
      rw [hbm] at e hfm
      simp only [ModeRel] at hfm
      obtain ⟨c', rfl, hpr⟩ := hfm
      dsimp only at e
      split at e
      · rename_i fn0 cb rb hfn
        cases e
        simp only [CRel] at hc
        obtain ⟨c, cr, lb', rfl, h1, h2, h3⟩ := hc
        refine ⟨g, w, lb', _, cr, ?_, ⟨hr, Nat.le_trans h1 hlb, sim_raise h2 hpr _, h3⟩, Ext.refl _ _ _⟩
        have hfn' : P.funcs[ffn]? = some fn0 := by rw [← hfn, hf.fn]
        simp only [unwind, Frame.catches, hfn', Bool.false_eq_true, if_false, GStep.bare_go]
      · cases e
    | returning =>
      rw [hbm] at e hfm
      simp only [ModeRel] at hfm
      subst hfm
      dsimp only at e
      split at e
      · cases e
      · rename_i fn0 hfn
        split at e
        · rename_i v hres
          have hfn' : P.funcs[ffn]? = some fn0 := by rw [← hfn, hf.fn]
          obtain ⟨v', hrun, hv⟩ := sim_results hr henv hres
          have := sim_doReturn (f := { fn := ffn, tmps := ftmps, todo := ftodo, defers := [], mode := .returning, kind := fkind, roundOf := fround }) hr hlb hf.kind hc hv e
          obtain ⟨g', w', lb', f', cs', k1, k2, k3⟩ := this
          refine ⟨g', w', lb', f', cs', ?_, k2, k3⟩
          rw [← k1]
          simp only [unwind, hfn', Sem.runT_eq, hrun, GStep.bare_after]
        · cases e
end
end Go.PB

