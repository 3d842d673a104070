/- B's machine and the model's: a value comes, a panic comes, an operation ends. -/
import Derived.Test.YthjdcddpoihcdaaGreatDoorPosD7
import Derived.RangeFuncRecord
set_option linter.unusedSimpArgs false
set_option linter.unusedVariables false
namespace Go.PB
open Go

section
variable {P : Program} {g g' : Gh} {h h' : BHeap} {w w' : World} {lb ub : Nat} {base : Base} {b b' : BFrame} {f : Frame}


/-- a frame that waits for a value -/
theorem FRel.ctodo (hf : FRel P g h w lb ub false b f) (hm : b.mode = .run) : ∀ d r sv rest x, f.todo ≠ .call d x r sv :: rest := by
  intro d r sv rest x e
  have := hf.run hm
  unfold RunRel at this
  split at this
  · obtain ⟨_, rest', k', h1, _⟩ := this; rw [h1] at e; cases e
  · obtain ⟨_, h1⟩ := this
    rw [e] at h1
    cases ht : b.todo with
    | nil => rw [ht] at h1; simp only [ItemsRel] at h1; cases h1
    | cons i k =>
      rw [ht] at h1
      simp only [ItemsRel] at h1
      obtain ⟨i', ir, h2, h3, _⟩ := h1
      cases h2
      cases i <;> simp only [ItemRel] at h3 <;> first
        | (cases h3; done)
        | (obtain ⟨_, _, h3⟩ := h3; cases h3; done)
        | exact h3

theorem sim_finish (hr : HRel P g h w) (hf : FRel P g h w lb ub false b f) (hlb : lb ≤ h.next) (hub : ub ≤ h.next) {v : BV} {v' : Value} (hv : VRel P g w v v') (e : finishB P b v h = some (b', h')) :
    HRel P g h' w ∧ Ext g h w g h' w ∧ Ph g h g h' ∧ FRel P g h' w lb h'.next true b' (f.finish v') ∧ h.next ≤ h'.next := by
  unfold finishB at e
  split at e
  case h_2 => cases e
  rename_i hmode
  have hrun := hf.run hmode
  obtain ⟨ffn, ftmps, ftodo, fdefers, fmode, fkind, fround⟩ := f
  have hfm : fmode = .run := by have := hf.mode; rw [hmode] at this; exact this
  subst hfm
  split at e
  · rename_i ops i rest k ht
    cases e
    unfold RunRel at hrun
    rw [ht] at hrun
    dsimp only at hrun
    obtain ⟨h1, h2⟩ := hrun
    simp only [ItemsRel] at h2
    obtain ⟨it, ir, hft, h3, h4⟩ := h2
    simp only [ItemRel] at h3
    subst h3 hft
    refine ⟨hr, Ext.refl _ _ _, Ph.refl _ _, ?_, Nat.le_refl _⟩
    have hfin : (Frame.finish { fn := ffn, tmps := ftmps, todo := .inRegion ops (i :: rest) :: ir, defers := fdefers, mode := .run, kind := fkind, roundOf := fround } v') =
      { fn := ffn, tmps := putV ftmps ((ops[i]?).bind (·.dst)) v', todo := .inRegion ops rest :: ir, defers := fdefers, mode := .run, kind := fkind, roundOf := fround } := by
      simp only [Frame.finish]
      cases (ops[i]?).bind (·.dst) <;> rfl
    rw [hfin]
    refine ⟨hf.fn, hf.kind, hf.kinds, hf.defers, hf.mode, hf.round, fun _ => ?_, fun hn => absurd hmode hn⟩
    unfold RunRel
    dsimp only
    exact ⟨putRel h1 hv _, _, _, rfl, rfl, h4⟩
  · rename_i d k ht
    split at e
    · rename_i x effs he
      simp only [Option.map_eq_some_iff] at e
      obtain ⟨⟨d', h1⟩, e1, e2⟩ := e
      simp only [Prod.mk.injEq] at e2
      obtain ⟨rfl, rfl⟩ := e2
      unfold RunRel at hrun
      rw [ht] at hrun
      dsimp only at hrun
      obtain ⟨h2, rest, k', hft, h3, hp, _, ⟨ph, hd⟩, h5⟩ := hrun
      subst hft
      obtain ⟨x', r, hrest, hx'⟩ := h5 rfl
      rw [he] at hx'
      simp at hx'
      subst hx' hrest
      obtain ⟨o, ho, _⟩ := ((hd.effs x).1 (by rw [he]; simp)).2
      obtain ⟨ph', k1, k2, k3, k4, k5, k6⟩ := draw_next hr hd he ho hlb hub hv e1
      refine ⟨k1, k2, k3, ?_, k2.next⟩
      have hfin : (Frame.finish { fn := ffn, tmps := ftmps, todo := .inRegion d.ops (x :: r) :: k', defers := fdefers, mode := .run, kind := fkind, roundOf := fround } v') =
        { fn := ffn, tmps := putV ftmps o.dst v', todo := .inRegion d.ops r :: k', defers := fdefers, mode := .run, kind := fkind, roundOf := fround } := by
        simp only [Frame.finish, ho, Option.bind_some]
        cases o.dst <;> rfl
      rw [hfin]
      refine ⟨hf.fn, hf.kind, hf.kinds, hf.defers, hf.mode, hf.round, fun _ => ?_, fun hn => absurd hmode hn⟩
      unfold RunRel
      dsimp only
      refine ⟨by rw [k5]; exact h2, r, k', by rw [k4], h3, h1, fun _ => rfl, ⟨ph', k6⟩, fun h => by cases h⟩
    · cases e
  · rename_i l k ht
    cases e
    unfold RunRel at hrun
    rw [ht] at hrun
    dsimp only at hrun
    obtain ⟨h1, h2⟩ := hrun
    simp only [ItemsRel] at h2
    obtain ⟨it, ir, hft, h3, h4⟩ := h2
    simp only [ItemRel] at h3
    obtain ⟨blk, hm, rfl⟩ := h3
    subst hft
    refine ⟨hr, Ext.refl _ _ _, Ph.refl _ _, ?_, Nat.le_refl _⟩
    refine ⟨hf.fn, hf.kind, hf.kinds, hf.defers, hf.mode, hf.round, fun _ => ?_, fun hn => absurd hmode hn⟩
    unfold RunRel
    dsimp only
    exact ⟨h1, _, _, rfl, ⟨blk, hm, rfl⟩, h4⟩
  · cases e

theorem settle_weak {fr : BFrame} {tmps : Array Value} (hv : VRels P g w fr.env tmps.toList) : VRels P g w (settleEnv fr) tmps.toList := by
  unfold settleEnv
  split
  · rename_i d k ht
    refine VRels.of_get (by simpa using hv.length) fun i b v hb hw => ?_
    rw [List.getElem?_map] at hb
    cases hr : (List.range fr.env.length)[i]? with
    | none => rw [hr] at hb; cases hb
    | some j =>
      rw [hr] at hb
      have hij : j = i := by
        obtain ⟨h1, h2⟩ := List.getElem?_eq_some_iff.1 hr
        rw [List.getElem_range] at h2; exact h2.symm
      rw [hij] at hb
      simp at hb
      cases hw' : writerOf d.ops i with
      | some k => rw [hw'] at hb; subst hb; simp [VRel]
      | none =>
        rw [hw'] at hb
        dsimp only at hb
        subst hb
        obtain ⟨y, hy, hyv⟩ := hv.get' hw
        rw [hy]; exact hyv
  · exact hv

theorem FRel.settle {top : Bool} (hf : FRel P g h w lb ub top b f) : VRels P g w (settleEnv b) f.tmps.toList := by
  by_cases hm : b.mode = .run
  · have hrun := hf.run hm
    unfold RunRel at hrun
    split at hrun
    · rename_i d k ht
      obtain ⟨h2, rest, k', hft, h3, hp, _, ⟨ph, hd⟩, h5⟩ := hrun
      exact draw_settle hd h2 ht
    · exact settle_weak hrun.1
  · exact settle_weak (hf.env hm)

theorem sim_raise {top : Bool} (hf : FRel P g h w lb ub top b f) {vs : List BPanic} {es : List PanicEntry} (hp : PanicsRel P g w vs es) (ub' : Nat) : FRel P g h w lb ub' true (raiseB b vs) (f.raise es) := by
  have hs := hf.settle
  unfold raiseB Frame.raise
  have hmode := hf.mode
  cases hm : b.mode with
  | panicking chain =>
    rw [hm] at hmode
    simp only [ModeRel] at hmode
    obtain ⟨c', hc, hcr⟩ := hmode
    rw [hc]
    dsimp only
    exact ⟨hf.fn, hf.kind, hf.kinds, hf.defers, ⟨_, rfl, hp.append hcr⟩, hf.round, (fun h => by cases h), fun _ => hs⟩
  | run =>
    rw [hm] at hmode
    simp only [ModeRel] at hmode
    rw [hmode]
    dsimp only
    exact ⟨hf.fn, hf.kind, hf.kinds, hf.defers, ⟨_, rfl, hp⟩, hf.round, (fun h => by cases h), fun _ => hs⟩
  | returning =>
    rw [hm] at hmode
    simp only [ModeRel] at hmode
    rw [hmode]
    dsimp only
    exact ⟨hf.fn, hf.kind, hf.kinds, hf.defers, ⟨_, rfl, hp⟩, hf.round, (fun h => by cases h), fun _ => hs⟩

theorem enterRel {fid : FuncId} {args : List BV} {args' : Array Value} {kind : CallKind} (hk : kind = .normal ∨ kind = .deferred) (ha : VRels P g w args args'.toList) (e : enterB P fid args kind = some b) :
    FRel P g h w lb ub true b (Frame.enter P fid args' kind) := by
  unfold enterB at e
  split at e
  · rename_i fn hfn
    split at e
    · rename_i c hb
      cases e
      have hlen : args'.size = args.length := by have := ha.length; simpa using this
      have henv : VRels P g w (args ++ List.replicate (fn.ntmps - args.length) BV.undef) (args' ++ Array.replicate (fn.ntmps - args'.size) undef).toList := by
        rw [Array.toList_append, Array.toList_replicate, hlen]
        refine VRels.append ha ?_
        refine VRels.of_get (by simp) fun i b v hb hv => ?_
        rw [List.getElem?_replicate] at hb hv
        split at hb
        · rename_i hc
          rw [if_pos hc] at hv
          cases hb; cases hv; exact VRel.undef
        · cases hb
      unfold Frame.enter
      simp only [hfn, Option.map_some, Option.getD_some, Option.bind_some, hb]
      refine ⟨rfl, rfl, hk, by simp [DRels], rfl, by simp [RoundRel], fun _ => ?_, fun hn => absurd rfl hn⟩
      unfold RunRel
      dsimp only
      exact ⟨henv, _, _, rfl, rfl, by simp [ItemsRel]⟩
    · cases e
  · cases e

theorem sim_recover {top : Bool} (hf : FRel P g h w lb ub top b f) {bs : List BFrame} {cs : List Frame} {lb0 : Nat} (hc : CRel P g h w base lb0 bs cs) :
    (∀ v bs', tryRecoverB b bs = some (v, bs') → ∃ v' cs', tryRecover f cs = some (v', cs') ∧ VRel P g w v v' ∧ CRel P g h w base lb0 bs' cs') ∧
    (tryRecoverB b bs = none → (b.kind = .normal ∨ (b.kind = .deferred ∧ bs ≠ [])) → tryRecover f cs = none) := by
  have hk := hf.kind
  cases bs with
  | nil =>
    refine ⟨fun v bs' e => by simp [tryRecoverB] at e, fun _ hcase => ?_⟩
    rcases hcase with hn | ⟨_, hne⟩
    · unfold tryRecover
      rw [← hk, hn]
    · exact absurd rfl hne
  | cons cb rb =>
    simp only [CRel] at hc
    obtain ⟨c, cr, lb', rfl, h1, h2, h3⟩ := hc
    have hmode := h2.mode
    constructor
    · intro v bs' e
      simp only [tryRecoverB] at e
      split at e
      · rename_i hkd
        split at e
        · rename_i v0 older hcm
          cases e
          rw [hcm] at hmode
          simp only [ModeRel, PanicsRel] at hmode
          obtain ⟨c', hc', en, er, rfl, ⟨hv, hrec, hgo⟩, herr⟩ := hmode
          obtain ⟨ev, erec, ego⟩ := en
          simp only at hv hrec hgo
          subst hrec hgo
          unfold tryRecover
          rw [← hk, hkd]
          dsimp only
          rw [hc']
          refine ⟨ev, _, rfl, hv, ?_⟩
          simp only [CRel]
          refine ⟨_, _, lb', rfl, h1, ?_, h3⟩
          exact ⟨h2.fn, h2.kind, h2.kinds, h2.defers, ⟨_, rfl, _, _, rfl, ⟨hv, rfl, rfl⟩, herr⟩, h2.round, (fun h => by cases h), fun _ => h2.env (by rw [hcm]; exact fun h => by cases h)⟩
        · cases e
      · cases e
    · intro e hcase
      simp only [tryRecoverB] at e
      unfold tryRecover
      rw [← hk]
      rcases hcase with hn | ⟨hn, _⟩
      · rw [hn]
      · rw [hn] at e ⊢
        dsimp only at e ⊢
        cases hcm : cb.mode with
        | run => rw [hcm] at hmode; simp only [ModeRel] at hmode; rw [hmode]
        | returning => rw [hcm] at hmode; simp only [ModeRel] at hmode; rw [hmode]
        | panicking chain =>
          rw [hcm] at hmode e
          simp only [ModeRel] at hmode
          obtain ⟨c', hc', hpr⟩ := hmode
          rw [hc']
          cases chain with
          | nil => simp only [PanicsRel] at hpr; subst hpr; rfl
          | cons p older =>
            simp only [PanicsRel] at hpr
            obtain ⟨en, er, rfl, ⟨hv, hrec, hgo⟩, herr⟩ := hpr
            obtain ⟨pv, prec⟩ := p
            cases prec with
            | false => cases e
            | true =>
              obtain ⟨ev, erec, ego⟩ := en
              simp only at hrec
              subst hrec
              rfl
end
end Go.PB
