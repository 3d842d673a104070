/- What B's operations do is what the model's do: assertions, len, maps. -/
import Derived.Test.YthjdcddpoihcdaaGreatDoorPosO7
set_option linter.unusedSimpArgs false
set_option linter.unusedVariables false
namespace Go.PB
open Go

section
variable {P : Program} {g : Gh} {h : BHeap} {w : World}

theorem sim_assert {x v : BV} {x' : Value} {xt a : TypeId} {ok : Bool} (hx : VRel P g w x x') (e : assertB P x a ok = some v) : ∃ v', (Instr.typeAssert x' xt a ok).run P w = .ok v' w ∧ VRel P g w v v' := by
  have hf : ∀ (s d : Option TypeId) (m : String), (if ok then (zeroB P a).map fun z => BV.tuple [z, .bool false] else none) = some v →
      ∃ v', ((if ok = true then do pure (.tuple #[← zeroValue a, .bool false]) else runtimePanic (.typeAssertion s d a m)) : Sem Value).run P w = .ok v' w ∧ VRel P g w v v' := by
    intro s d m e
    cases ok with
    | false => simp at e
    | true =>
      simp only [if_true] at e
      cases hz : zeroB P a with
      | none => simp [hz] at e
      | some z =>
        simp [hz] at e; subst e
        obtain ⟨z', hz', hzr⟩ := r_zero hz w
        refine ⟨.tuple #[z', .bool false], by simp [hz'], ?_⟩
        simp only [VRel]
        exact ⟨_, rfl, VRels.cons (hzr g) (VRels.cons (by simp [VRel]) VRels.nil)⟩
  have hh : ∀ (u : BV) (u' : Value), VRel P g w u u' → VRel P g w (if ok then .tuple [u, .bool true] else u) (if ok = true then .tuple #[u', .bool true] else u') := by
    intro u u' hu
    cases ok with
    | false => exact hu
    | true => simp only [if_true, VRel]; exact ⟨_, rfl, VRels.cons hu (VRels.cons (by simp [VRel]) VRels.nil)⟩
  unfold assertB at e
  dsimp only at e
  split at e
  · rename_i ms hu
    simp only [VRel] at hx; subst hx
    obtain ⟨v', h1, h2⟩ := hf none none "" e
    exact ⟨v', by
      refine (Sem.run_bind P w _ _).trans ?_
      rw [r_underlying hu, Result.andThen_ok]; exact h1, h2⟩
  · rename_i want t u hu
    have hx0 := hx
    simp only [VRel] at hx
    obtain ⟨u', rfl, hu'⟩ := hx
    cases hi : P.info? t with
    | none => simp [hi] at e
    | some i =>
      simp only [hi] at e
      cases hm : Instr.missingMethod want i.methods with
      | none =>
        simp [hm] at e; subst e
        refine ⟨_, ?_, hh _ _ hx0⟩
        refine (Sem.run_bind P w _ _).trans ?_
        rw [r_underlying hu, Result.andThen_ok]
        refine (Sem.run_bind P w (typeInfo t) _).trans ?_
        rw [r_info hi, Result.andThen_ok, hm]
        rfl
      | some m =>
        simp [hm] at e
        obtain ⟨v', h1, h2⟩ := hf none (some t) m (by simpa using e)
        refine ⟨v', ?_, h2⟩
        refine (Sem.run_bind P w _ _).trans ?_
        rw [r_underlying hu, Result.andThen_ok]
        refine (Sem.run_bind P w (typeInfo t) _).trans ?_
        rw [r_info hi, Result.andThen_ok, hm]
        exact h1
  · rename_i d hni hu
    simp only [VRel] at hx; subst hx
    obtain ⟨v', h1, h2⟩ := hf (some xt) none "" e
    refine ⟨v', ?_, h2⟩
    refine (Sem.run_bind P w _ _).trans ?_
    rw [r_underlying hu, Result.andThen_ok]
    cases d <;> first
      | exact h1
      | exact absurd rfl (hni _)
  · rename_i d t u hni hu
    simp only [VRel] at hx
    obtain ⟨u', rfl, hu'⟩ := hx
    split at e
    · rename_i ht
      subst ht
      cases e
      refine ⟨_, ?_, hh _ _ hu'⟩
      refine (Sem.run_bind P w _ _).trans ?_
      rw [r_underlying hu, Result.andThen_ok]
      cases d <;> first
        | (show Sem.run P (if t = t then _ else _) w = _
           rw [if_pos rfl]; rfl)
        | exact absurd rfl (hni _)
    · rename_i ht
      obtain ⟨v', h1, h2⟩ := hf (some xt) (some t) "" e
      refine ⟨v', ?_, h2⟩
      refine (Sem.run_bind P w _ _).trans ?_
      rw [r_underlying hu, Result.andThen_ok]
      cases d <;> first
        | (show Sem.run P (if t = a then _ else _) w = _
           rw [if_neg ht]; exact h1)
        | exact absurd rfl (hni _)
  · cases e

theorem ERels.length {bs : List BEntry} : ∀ {es : List MapEntry}, ERels P g w bs es → es.length = bs.length := by
  induction bs with
  | nil => intro es h; simp [ERels] at h; simp [h]
  | cons b bs ih => intro es h; simp only [ERels] at h; obtain ⟨e, er, rfl, _, h⟩ := h; simp [ih h]

theorem ERels.get {bs : List BEntry} : ∀ {es : List MapEntry}, ERels P g w bs es → ∀ {i : Nat} {b : BEntry}, bs[i]? = some b → ∃ e, es[i]? = some e ∧ ERel P g w b e := by
  induction bs with
  | nil => intro es _ i b h; simp at h
  | cons x bs ih =>
    intro es h i b hb
    simp only [ERels] at h
    obtain ⟨e, er, rfl, hv, hr⟩ := h
    cases i with
    | zero => simp at hb; subst hb; exact ⟨e, by simp, hv⟩
    | succ i => simp at hb; obtain ⟨u, hu, hr'⟩ := ih hr hb; exact ⟨u, by simpa using hu, hr'⟩

theorem ERels.of_get {bs : List BEntry} : ∀ {es : List MapEntry}, es.length = bs.length → (∀ (i : Nat) b e, bs[i]? = some b → es[i]? = some e → ERel P g w b e) → ERels P g w bs es := by
  induction bs with
  | nil => intro es hl _; simp at hl; simp [ERels, hl]
  | cons b bs ih =>
    intro es hl h
    cases es with
    | nil => simp at hl
    | cons v vr =>
      simp only [ERels]
      exact ⟨v, vr, rfl, h 0 b v (by simp) (by simp), ih (by simpa using hl) fun i b' v' hb hv => h (i + 1) b' v' (by simpa using hb) (by simpa using hv)⟩

theorem ERels.append {as bs : List BEntry} {us vs : List MapEntry} (h : ERels P g w as us) (k : ERels P g w bs vs) : ERels P g w (as ++ bs) (us ++ vs) := by
  induction as generalizing us with
  | nil => simp only [ERels] at h; subst h; simpa using k
  | cons b bs ih => simp only [ERels] at h; obtain ⟨d, dr, rfl, hd, hr⟩ := h; exact ⟨d, dr ++ vs, rfl, hd, ih hr⟩

theorem ERels.filter {bs : List BEntry} {p : BEntry → Bool} {q : MapEntry → Bool} (hpq : ∀ b e, ERel P g w b e → p b = q e) : ∀ {es : List MapEntry}, ERels P g w bs es → ERels P g w (bs.filter p) (es.filter q) := by
  induction bs with
  | nil => intro es h; simp only [ERels] at h; subst h; simp [ERels]
  | cons b bs ih =>
    intro es h
    simp only [ERels] at h; obtain ⟨d, dr, rfl, hd, hr⟩ := h
    simp only [List.filter_cons, hpq b d hd]
    split
    · exact ⟨d, _, rfl, hd, ih hr⟩
    · exact ih hr

theorem ERels.modify {bs : List BEntry} {es : List MapEntry} {f : BEntry → BEntry} {f' : MapEntry → MapEntry} (hf : ∀ b e, ERel P g w b e → ERel P g w (f b) (f' e)) (i : Nat) (h : ERels P g w bs es) :
    ERels P g w (bs.modify i f) (es.modify i f') := by
  refine ERels.of_get (by simp [h.length]) fun j b e hb he => ?_
  rw [List.getElem?_modify] at hb he
  by_cases hj : i = j
  · simp only [if_pos hj] at hb he
    cases hbj : bs[j]? with
    | none => simp [hbj] at hb
    | some b0 =>
      obtain ⟨e0, he0, hr0⟩ := h.get hbj
      simp [hbj] at hb; simp [he0] at he
      subst hb he; exact hf _ _ hr0
  · simp only [if_neg hj] at hb he
    simp at hb he
    obtain ⟨e0, he0, hr0⟩ := h.get hb
    rw [he0] at he; cases he; exact hr0

theorem ERels.eraseIdx {bs : List BEntry} {es : List MapEntry} (i : Nat) (h : ERels P g w bs es) : ERels P g w (bs.eraseIdx i) (es.eraseIdx i) := by
  induction bs generalizing es i with
  | nil => simp only [ERels] at h; subst h; simp [ERels]
  | cons b bs ih =>
    simp only [ERels] at h; obtain ⟨d, dr, rfl, hd, hr⟩ := h
    cases i with
    | zero => simpa using hr
    | succ i => simp only [List.eraseIdx_cons_succ]; exact ⟨d, _, rfl, hd, ih i hr⟩

/-- what B knows of a map -/
theorem HRel.map (hr : HRel P g h w) {r blk : Nat} {es : List BEntry} {clock : Nat} (hb : h.get r = some (.map es clock)) (hm : g.m r = some (blk, 0)) :
    ∃ es', w.heap[blk]? = some (.map es' clock) ∧ ERels P g w es es'.toList := by
  obtain ⟨_, o, ho, hr'⟩ := hr.obj _ _ _ _ hb hm
  simp only [ORel] at hr'
  obtain ⟨_, es', rfl, he⟩ := hr'
  exact ⟨es', ho, he⟩

theorem r_getMap {blk : Nat} {es : Array MapEntry} {clock : Nat} (hw : w.heap[blk]? = some (.map es clock)) : (getObj blk).run P w = .ok (.map es clock) w := by
  simp [getObj, Sem.run, hw]
theorem r_setMap {blk : Nat} {es : Array MapEntry} {clock : Nat} (hw : w.heap[blk]? = some (.map es clock)) (o : Obj) : (setObj blk o).run P w = .ok () (w.putBlk blk o) := by
  simp [setObj, Sem.run, hw, World.putBlk]

theorem sim_keyFields {K : TypeId → BV → Bool} {K' : TypeId → Value → Sem Unit} (hK : ∀ t x x', VRel P g w x x' → K t x = true → (K' t x').run P w = .ok () w) :
    ∀ (fs : List Field) (cs : List BV) (vs : Array Value), VRels P g w cs vs.toList → keyFields P K fs cs = true →
    (forIn fs PUnit.unit (fun f __s =>
            if f.name ≠ "_" then do
              let __do_lift ← part f.type vs f.offset
              K' f.type __do_lift
              pure (ForInStep.yield PUnit.unit)
            else pure (ForInStep.yield PUnit.unit)) : Sem PUnit).run P w = .ok PUnit.unit w := by
  intro fs
  induction fs with
  | nil => intro cs vs _ _; simp
  | cons f fs ih =>
    intro cs vs hv e
    simp only [keyFields, Bool.and_eq_true] at e
    obtain ⟨e1, e2⟩ := e
    simp only [List.forIn_cons, Sem.run_bind]
    by_cases hn : f.name ≠ "_"
    · rw [if_pos hn] at e1 ⊢
      split at e1
      · rename_i x hx
        obtain ⟨x', hx1, hx2⟩ := sim_part hv hx
        simp only [Sem.run_bind, hx1, Result.andThen_ok, hK _ _ _ hx2 e1, Sem.run_pure]
        exact ih cs vs hv e2
      · cases e1
    · rw [if_neg hn]
      simp only [Sem.run_pure, Result.andThen_ok]
      exact ih cs vs hv e2

theorem sim_key : ∀ (n : Nat) (t : TypeId) (k : BV) (k' : Value) (empty : Bool), VRel P g w k k' → keyOk P n t k = true → ∀ N, n ≤ N → (Instr.checkKey empty N t k').run P w = .ok () w := by
  intro n
  induction n with
  | zero => intro t k k' empty _ e; simp [keyOk] at e
  | succ n ih =>
    intro t k k' empty hk e N hN
    obtain ⟨N, rfl⟩ : ∃ N', N = N' + 1 := ⟨N - 1, by omega⟩
    unfold keyOk at e
    split at e
    · rename_i fs cs hu
      simp only [VRel] at hk; obtain ⟨vs, rfl, hv⟩ := hk
      have := sim_keyFields (P := P) (g := g) (w := w) (K := keyOk P n) (K' := Instr.checkKey empty N) (fun t x x' hx hx2 => ih t x x' empty hx hx2 N (by omega)) fs.toList cs vs hv e
      refine (Sem.run_bind P w _ _).trans ?_
      rw [r_underlying hu, Result.andThen_ok]
      refine (Sem.run_bind P w _ _).trans ?_
      rw [← Array.forIn_toList]
      rw [this]
      rfl
    · rename_i q q' i hu
      simp only [VRel] at hk; subst hk
      refine (Sem.run_bind P w _ _).trans ?_
      rw [r_underlying hu, Result.andThen_ok]; rfl
    · rename_i s hu
      simp only [VRel] at hk; subst hk
      refine (Sem.run_bind P w _ _).trans ?_
      rw [r_underlying hu, Result.andThen_ok]; rfl
    · rename_i b hu
      simp only [VRel] at hk; subst hk
      refine (Sem.run_bind P w _ _).trans ?_
      rw [r_underlying hu, Result.andThen_ok]; rfl
    · cases e

def FRelM (P : Program) (g : Gh) (w : World) : Option (Nat × BV) → Option (Nat × Value) → Prop
  | none, none => True
  | some (i, v), some (j, v') => i = j ∧ VRel P g w v v'
  | _, _ => False

theorem sim_findAsking (hr : HRel P g h w) {kt : TypeId} {k : BV} {k' : Value} (hk : VRel P g w k k') : ∀ (es : List BEntry) (es' : List MapEntry) (i : Nat) (r : Option (Nat × BV)), ERels P g w es es' →
    findB P h kt k es i = some r → ∃ r', (Instr.findAsking kt k' es' i).run P w = .ok r' w ∧ FRelM P g w r r' := by
  intro es
  induction es with
  | nil => intro es' i r he e; simp only [ERels] at he; subst he; simp [findB] at e; subst e; exact ⟨none, rfl, trivial⟩
  | cons b es ih =>
    intro es' i r he e
    simp only [ERels] at he; obtain ⟨d, dr, rfl, hd, hr'⟩ := he
    simp only [findB] at e
    have hq : ∀ x, keyEq P h kt k b.key = some x → (Op.equal kt k' d.key).run P w = .ok x w := fun x hx => sim_eq hr 12 kt k b.key k' d.key x hk hd.1 hx Op.maxDepth (by unfold Op.maxDepth; omega)
    split at e
    · rename_i hx
      cases e
      exact ⟨some (i, d.val), by simp [Instr.findAsking, hq _ hx], rfl, hd.2.1⟩
    · rename_i hx
      obtain ⟨r', h1, h2⟩ := ih dr (i + 1) r hr' e
      exact ⟨r', by simp [Instr.findAsking, hq _ hx, h1], h2⟩
    · cases e

theorem sameNow_run {kt : TypeId} {kind : TypeDesc} (hu : P.underlying kt = some kind) {a b : Value} {y : Bool} (e : Instr.sameNow kind a b = some y) : (Op.equal kt a b).run P w = .ok y w := by
  unfold Instr.sameNow at e
  unfold Op.equal
  rw [show Op.maxDepth = 9999 + 1 from rfl]
  refine (Sem.run_bind P w (underlying kt) _).trans ?_
  rw [r_underlying hu, Result.andThen_ok]
  split at e
  · rename_i q k1 a k2 b
    split at e
    · rename_i hk
      subst hk
      cases e
      show Sem.run P (if k1 = k1 then pure (a == b) else _) w = _
      rw [if_pos rfl]; rfl
    · cases e
  · cases e; rfl
  · cases e; rfl
  · cases e

theorem sim_findNow (hr : HRel P g h w) {kt : TypeId} {kind : TypeDesc} (hu : P.underlying kt = some kind) {k : BV} {k' : Value} (hk : VRel P g w k k') : ∀ (es : List BEntry) (es' : List MapEntry) (i : Nat) (r : Option (Nat × BV)) (r' : Option (Nat × Value)), ERels P g w es es' →
    findB P h kt k es i = some r → Instr.findNow kind k' es' i = some r' → FRelM P g w r r' := by
  intro es
  induction es with
  | nil => intro es' i r r' he e e'; simp only [ERels] at he; subst he; simp [findB] at e; subst e; simp [Instr.findNow] at e'; subst e'; trivial
  | cons b es ih =>
    intro es' i r r' he e e'
    simp only [ERels] at he; obtain ⟨d, dr, rfl, hd, hr'⟩ := he
    simp only [findB] at e
    simp only [Instr.findNow] at e'
    have hq : ∀ x y, keyEq P h kt k b.key = some x → Instr.sameNow kind k' d.key = some y → x = y := by
      intro x y hx hy
      have h1 := sim_eq hr 12 kt k b.key k' d.key x hk hd.1 hx Op.maxDepth (by unfold Op.maxDepth; omega)
      have h2 := sameNow_run (w := w) hu hy
      unfold Op.equal at h2
      rw [h1] at h2; injection h2
    cases hx : keyEq P h kt k b.key with
    | none => simp [hx] at e
    | some x =>
      cases hy : Instr.sameNow kind k' d.key with
      | none => simp [hy] at e'
      | some y =>
        have hxy := hq x y hx hy
        subst hxy
        cases x with
        | true => simp [hx] at e; simp [hy] at e'; subst e e'; exact ⟨rfl, hd.2.1⟩
        | false => simp [hx] at e; simp [hy] at e'; exact ih dr (i + 1) r r' hr' e e'

theorem sim_find (hr : HRel P g h w) {kt : TypeId} {k : BV} {k' : Value} (hk : VRel P g w k k') {es : List BEntry} {es' : List MapEntry} {r : Option (Nat × BV)} (hu : ∃ d, P.underlying kt = some d) (he : ERels P g w es es')
    (e : findB P h kt k es 0 = some r) : ∃ r', (Instr.findKey kt k' es').run P w = .ok r' w ∧ FRelM P g w r r' := by
  obtain ⟨d, hu⟩ := hu
  have hrun : (Instr.findKey kt k' es').run P w = ((match Instr.findNow d k' es' 0 with | some r => pure r | none => Instr.findAsking kt k' es') : Sem (Option (Nat × Value))).run P w := by
    refine (Sem.run_bind P w (underlying kt) _).trans ?_
    rw [r_underlying hu, Result.andThen_ok]
    cases Instr.findNow d k' es' 0 <;> rfl
  rw [hrun]
  cases hn : Instr.findNow d k' es' 0 with
  | some r' => exact ⟨r', rfl, sim_findNow hr hu hk es es' 0 r r' he e hn⟩
  | none => exact sim_findAsking hr hk es es' 0 r he e

theorem keyOk_under {n : Nat} {t : TypeId} {k : BV} (e : keyOk P n t k = true) : ∃ d, P.underlying t = some d := by
  cases n with
  | zero => simp [keyOk] at e
  | succ n =>
    unfold keyOk at e
    split at e <;> first
      | (exact ⟨_, by assumption⟩)
      | (cases e; done)

theorem sim_lookup (hr : HRel P g h w) {t : TypeId} {x k v : BV} {x' k' : Value} {ok : Bool} (hx : VRel P g w x x') (hk : VRel P g w k k') (e : lookupB P h t x k ok = some v) :
    ∃ v', (Instr.lookup t x' k' ok).run P w = .ok v' w ∧ VRel P g w v v' := by
  unfold lookupB at e
  split at e
  · rename_i kt et hu
    split at e
    · cases e
    · rename_i hko
      have hko : keyOk P 4 kt k = true := by simpa using hko
      dsimp only at e
      -- the entries
      have hes : ∀ es, (match x with
          | .nilm => some []
          | .map r => (match h.get r with | some (.map es _) => some es | _ => none)
          | _ => none : Option (List BEntry)) = some es →
          ∃ es' : Array MapEntry, ERels P g w es es'.toList ∧ ((x' = .map none ∧ es' = #[]) ∨ ∃ blk clock, x' = .map (some blk) ∧ w.heap[blk]? = some (.map es' clock)) := by
        intro es he
        cases x with
        | nilm => simp only [VRel] at hx; subst hx; cases he; exact ⟨#[], by simp [ERels], .inl ⟨rfl, rfl⟩⟩
        | map r =>
          simp only [VRel] at hx; obtain ⟨blk, hm, rfl⟩ := hx
          cases hb : h.get r with
          | none => simp [hb] at he
          | some o =>
            cases o with
            | map es1 clock =>
              simp [hb] at he; subst he
              obtain ⟨es', hw, hr'⟩ := hr.map hb hm
              exact ⟨es', hr', .inr ⟨blk, clock, rfl, hw⟩⟩
            | _ => simp [hb] at he
        | _ => simp at he
      split at e
      · cases e
      · rename_i es he
        obtain ⟨es', hr', hK⟩ := hes es he
        have hck := fun em => sim_key (P := P) (g := g) (w := w) 4 kt k k' em hk hko 10000 (by omega)
        have hrun : ∀ r', (Instr.findKey kt k' es'.toList).run P w = .ok r' w → (Instr.lookup t x' k' ok).run P w =
            ((do let (v, ok') ← (match r' with | some (_, v) => pure (v, true) | none => do pure (← zeroValue et, false)); pure (if ok then .tuple #[v, .bool ok'] else v)) : Sem Value).run P w := by
          intro r' hf
          refine (Sem.run_bind P w (underlying t) _).trans ?_
          rw [r_underlying hu, Result.andThen_ok]
          dsimp only
          rcases hK with ⟨rfl, rfl⟩ | ⟨blk, clock, rfl, hw⟩
          · simp only [Sem.run_bind, Sem.run_pure, Result.andThen_ok, hck, hf]
            cases r' with
            | none => cases hz : (zeroValue et).run P w <;> simp [hz]
            | some q => rfl
          · simp only [Sem.run_bind, Sem.run_pure, Result.andThen_ok, r_getMap hw, hck, hf]
            cases r' with
            | none => cases hz : (zeroValue et).run P w <;> simp [hz]
            | some q => rfl
        split at e
        · rename_i i u hf
          obtain ⟨r', h1, h2⟩ := sim_find hr hk (keyOk_under hko) hr' hf
          cases r' with
          | none => simp [FRelM] at h2
          | some q =>
            obtain ⟨j, u'⟩ := q
            obtain ⟨_, hu'⟩ := h2
            cases e
            refine ⟨if ok then .tuple #[u', .bool true] else u', by rw [hrun _ h1]; cases ok <;> rfl, ?_⟩
            cases ok with
            | false => exact hu'
            | true => simp only [if_true, VRel]; exact ⟨_, rfl, VRels.cons hu' (VRels.cons (by simp [VRel]) VRels.nil)⟩
        · rename_i hf
          obtain ⟨r', h1, h2⟩ := sim_find hr hk (keyOk_under hko) hr' hf
          cases r' with
          | some q => simp [FRelM] at h2
          | none =>
            cases hz : zeroB P et with
            | none => simp [hz] at e
            | some z =>
              simp [hz] at e; subst e
              obtain ⟨z', hz', hzr⟩ := r_zero hz w
              refine ⟨if ok then .tuple #[z', .bool false] else z', by rw [hrun _ h1]; simp [hz'], ?_⟩
              cases ok with
              | false => exact hzr g
              | true => simp only [if_true, VRel]; exact ⟨_, rfl, VRels.cons (hzr g) (VRels.cons (by simp [VRel]) VRels.nil)⟩
        · cases e
  · cases e
end
end Go.PB
