/- What B's operations do is what the model's do: equality, arithmetic, conversions, assertions, len, min, max. -/
import Derived.Test.YthjdcddpoihcdaaGreatDoorPosO4
set_option linter.unusedSimpArgs false
set_option linter.unusedVariables false
namespace Go.PB
open Go

section
variable {P : Program} {g : Gh} {h : BHeap} {w : World}

theorem beq_bytes (a b : List UInt8) : (ByteArray.mk a.toArray == ByteArray.mk b.toArray) = (a == b) := by
  rw [Bool.eq_iff_iff]
  constructor
  · intro h
    have : (a.toArray == b.toArray) = true := h
    simpa using this
  · intro h
    have : a = b := by simpa using h
    subst this
    show (a.toArray == a.toArray) = true
    simp

theorem frozen_cells {w : World} {blk : Nat} {c : Array Value} {e : TypeId} (hw : w.heap[blk]? = some (.cells c e (0, 0))) (off : Nat) (sp : Option Nat) : w.frozen? ⟨blk, off, sp⟩ = false := by
  simp [World.frozen?, hw]

theorem run_sameAddr {a b : Addr} {c d : Array Value} {e f : TypeId} (hne : a.block ≠ b.block) (ha : w.heap[a.block]? = some (.cells c e (0, 0))) (hb : w.heap[b.block]? = some (.cells d f (0, 0))) :
    (sameAddr a b).run P w = .ok false w := by
  have sa : w.shape? a.block = some (e, c.size) := by simp [World.shape?, ha]
  have sb : w.shape? b.block = some (f, d.size) := by simp [World.shape?, hb]
  have fa : ∀ x y, w.frozen? ⟨a.block, x, y⟩ = false := fun x y => frozen_cells ha x y
  have fb : ∀ x y, w.frozen? ⟨b.block, x, y⟩ = false := fun x y => frozen_cells hb x y
  have fa' : w.frozen? a = false := fa a.off a.spot
  have fb' : w.frozen? b = false := fb b.off b.spot
  simp [sameAddr, hne, fa', fb', noView, viewAt, sa, sb, mayBeOne, stringish, fa, fb]

theorem sim_fields {E : TypeId → BV → BV → Option Bool} {E' : TypeId → Value → Value → Sem Bool}
    (hE : ∀ t x y x' y' r, VRel P g w x x' → VRel P g w y y' → E t x y = some r → (E' t x' y').run P w = .ok r w) :
    ∀ (fs : List Field) (xs ys : List BV) (xs' ys' : Array Value) (r : Bool), VRels P g w xs xs'.toList → VRels P g w ys ys'.toList → eqFields P E fs xs ys = some r →
    (forIn fs ((none, ()) : Option Bool × Unit) (fun f __s =>
            if f.name ≠ "_" then do
              let __do_lift ← part f.type xs' f.offset
              let __do_lift_1 ← part f.type ys' f.offset
              let __do_lift ← E' f.type __do_lift __do_lift_1
              if (!__do_lift) = true then pure (ForInStep.done (some false, ())) else pure (ForInStep.yield (none, ()))
            else pure (ForInStep.yield (none, ()))) : Sem (Option Bool × Unit)).run P w = .ok ((if r then none else some false), ()) w := by
  intro fs
  induction fs with
  | nil => intro xs ys xs' ys' r _ _ e; simp [eqFields] at e; subst e; simp
  | cons f fs ih =>
    intro xs ys xs' ys' r hx hy e
    simp only [eqFields] at e
    simp only [List.forIn_cons, Sem.run_bind]
    by_cases hn : f.name ≠ "_"
    · rw [if_pos hn] at e
      rw [if_pos hn]
      split at e
      · rename_i a b ha hb
        obtain ⟨a', ha1, ha2⟩ := sim_part hx ha
        obtain ⟨b', hb1, hb2⟩ := sim_part hy hb
        simp only [Sem.run_bind, ha1, hb1, Result.andThen_ok]
        split at e
        · rename_i he
          rw [hE _ _ _ _ _ _ ha2 hb2 he]
          simp only [Result.andThen_ok, Bool.not_true, Bool.false_eq_true, if_false, Sem.run_pure]
          exact ih xs ys xs' ys' r hx hy e
        · rename_i he
          rw [hE _ _ _ _ _ _ ha2 hb2 he]
          cases e
          simp
        · cases e
      · cases e
    · rw [if_neg hn] at e
      rw [if_neg hn]
      simp only [Sem.run_pure, Result.andThen_ok]
      exact ih xs ys xs' ys' r hx hy e

theorem sim_aelems {E : TypeId → BV → BV → Option Bool} {E' : TypeId → Value → Value → Sem Bool} {el : TypeId} {n : Nat}
    (hE : ∀ t x y x' y' r, VRel P g w x x' → VRel P g w y y' → E t x y = some r → (E' t x' y').run P w = .ok r w) :
    ∀ (is : List Nat) (xs ys : List BV) (xs' ys' : Array Value) (r : Bool), VRels P g w xs xs'.toList → VRels P g w ys ys'.toList → eqElems P E el n is xs ys = some r →
    (forIn is ((none, ()) : Option Bool × Unit) (fun i __s => do
              let __do_lift ← part el xs' (i * n)
              let __do_lift_1 ← part el ys' (i * n)
              let __do_lift ← E' el __do_lift __do_lift_1
              if (!__do_lift) = true then pure (ForInStep.done (some false, ())) else pure (ForInStep.yield (none, ()))) : Sem (Option Bool × Unit)).run P w = .ok ((if r then none else some false), ()) w := by
  intro is
  induction is with
  | nil => intro xs ys xs' ys' r _ _ e; simp [eqElems] at e; subst e; simp
  | cons f fs ih =>
    intro xs ys xs' ys' r hx hy e
    simp only [eqElems] at e
    simp only [List.forIn_cons, Sem.run_bind]
    split at e
    · rename_i a b ha hb
      obtain ⟨a', ha1, ha2⟩ := sim_part hx ha
      obtain ⟨b', hb1, hb2⟩ := sim_part hy hb
      simp only [Sem.run_bind, ha1, hb1, Result.andThen_ok]
      split at e
      · rename_i he
        rw [hE _ _ _ _ _ _ ha2 hb2 he]
        simp only [Result.andThen_ok, Bool.not_true, Bool.false_eq_true, if_false, Sem.run_pure]
        exact ih xs ys xs' ys' r hx hy e
      · rename_i he
        rw [hE _ _ _ _ _ _ ha2 hb2 he]
        cases e
        simp
      · cases e
    · cases e

theorem sim_eq (hr : HRel P g h w) : ∀ (d : Nat) (t : TypeId) (x y : BV) (x' y' : Value) (r : Bool), VRel P g w x x' → VRel P g w y y' → eqB P h d t x y = some r →
    ∀ D, d ≤ D → (Op.equalIn D t x' y').run P w = .ok r w := by
  intro d
  induction d with
  | zero => intro t x y x' y' r _ _ e; simp [eqB] at e
  | succ d ih =>
    intro t x y x' y' r hx hy e D hD
    obtain ⟨D, rfl⟩ : ∃ D', D = D' + 1 := ⟨D - 1, by omega⟩
    have hD' : d ≤ D := by omega
    unfold eqB at e
    split at e
    · rename_i a b hu
      simp only [VRel] at hx hy; subst hx hy
      cases e
      refine (Sem.run_bind P w (underlying t) _).trans ?_
      rw [r_underlying hu, Result.andThen_ok]; rfl
    · rename_i k a k' b hu
      simp only [VRel] at hx hy; subst hx hy
      split at e
      · rename_i hk; subst hk
        cases e
        refine (Sem.run_bind P w (underlying t) _).trans ?_
        rw [r_underlying hu, Result.andThen_ok]
        show Sem.run P (if k = k then pure (a == b) else _) w = _
        rw [if_pos rfl]; rfl
      · cases e
    · rename_i a b hu
      simp only [VRel] at hx hy; subst hx hy
      cases e
      refine (Sem.run_bind P w (underlying t) _).trans ?_
      rw [r_underlying hu, Result.andThen_ok, ← beq_bytes]; rfl
    · rename_i el hu
      simp only [VRel] at hx hy; subst hx hy
      cases e
      refine (Sem.run_bind P w (underlying t) _).trans ?_
      rw [r_underlying hu, Result.andThen_ok]; rfl
    · rename_i el b o hu
      simp only [VRel] at hx hy; subst hx; obtain ⟨_, _, _, rfl⟩ := hy
      cases e
      refine (Sem.run_bind P w (underlying t) _).trans ?_
      rw [r_underlying hu, Result.andThen_ok]; rfl
    · rename_i el cs hu
      simp only [VRel] at hx hy; subst hx; obtain ⟨_, _, rfl, _⟩ := hy
      cases e
      refine (Sem.run_bind P w (underlying t) _).trans ?_
      rw [r_underlying hu, Result.andThen_ok]; rfl
    · rename_i el b o hu
      simp only [VRel] at hx hy; subst hy; obtain ⟨_, _, _, rfl⟩ := hx
      cases e
      refine (Sem.run_bind P w (underlying t) _).trans ?_
      rw [r_underlying hu, Result.andThen_ok]; rfl
    · rename_i el cs hu
      simp only [VRel] at hx hy; subst hy; obtain ⟨_, _, rfl, _⟩ := hx
      cases e
      refine (Sem.run_bind P w (underlying t) _).trans ?_
      rw [r_underlying hu, Result.andThen_ok]; rfl
    · rename_i el a i b j hu
      simp only [VRel] at hx hy
      obtain ⟨ba, oa, hma, rfl⟩ := hx
      obtain ⟨bb, ob, hmb, rfl⟩ := hy
      split at e
      · rename_i ha hb hs
        obtain ⟨ca, la, ha', _, hwa, _, _, _, _, hfa⟩ := hr.cells ha hma
        obtain ⟨cb, lb, hb', _, hwb, _, _, _, _, hfb⟩ := hr.cells hb hmb
        obtain ⟨rfl, rfl⟩ := hfa rfl
        obtain ⟨rfl, rfl⟩ := hfb rfl
        cases e
        refine (Sem.run_bind P w (underlying t) _).trans ?_
        rw [r_underlying hu, Result.andThen_ok]
        refine (Sem.run_bind P w (sizeOf el) _).trans ?_
        rw [r_sizeOf hs, Result.andThen_ok]
        rw [if_pos (by omega)]
        by_cases hab : a = b
        · subst hab
          rw [hma] at hmb; cases hmb
          rw [if_pos rfl]
          simp only [sameAddr, beq_self_eq_true, if_true, Sem.run_pure]
          congr 1
          rw [Bool.eq_iff_iff]
          simp only [beq_iff_eq]
          constructor
          · intro he; injection he with h1 h2; omega
          · rintro rfl; rfl
        · rw [if_neg hab]
          exact run_sameAddr (fun he => hab (hr.inj _ _ _ _ _ _ _ ha hb hma (by simp at he; rw [he]; exact hmb))) hwa hwb
      · cases e
    · rename_i ms hu
      simp only [VRel] at hx hy; subst hx hy
      cases e
      refine (Sem.run_bind P w (underlying t) _).trans ?_
      rw [r_underlying hu, Result.andThen_ok]; rfl
    · rename_i ms t' v hu
      simp only [VRel] at hx hy; subst hx; obtain ⟨_, rfl, _⟩ := hy
      cases e
      refine (Sem.run_bind P w (underlying t) _).trans ?_
      rw [r_underlying hu, Result.andThen_ok]; rfl
    · rename_i ms t' v hu
      simp only [VRel] at hx hy; subst hy; obtain ⟨_, rfl, _⟩ := hx
      cases e
      refine (Sem.run_bind P w (underlying t) _).trans ?_
      rw [r_underlying hu, Result.andThen_ok]; rfl
    · rename_i ms tx vx ty vy hu
      simp only [VRel] at hx hy
      obtain ⟨x', rfl, hx⟩ := hx
      obtain ⟨y', rfl, hy⟩ := hy
      split at e
      · rename_i hne
        cases e
        refine (Sem.run_bind P w (underlying t) _).trans ?_
        rw [r_underlying hu, Result.andThen_ok]
        show Sem.run P (if tx ≠ ty then pure false else _) w = _
        rw [if_pos hne]; rfl
      · rename_i heq
        have heq : tx = ty := by simpa using heq
        subst heq
        split at e
        · rename_i i hi
          split at e
          · rename_i hc
            refine (Sem.run_bind P w (underlying t) _).trans ?_
            rw [r_underlying hu, Result.andThen_ok]
            dsimp only
            rw [if_neg (by simp)]
            simp only [Sem.run_bind, r_info hi, Result.andThen_ok, hc, Bool.not_true, Bool.false_eq_true, if_false]
            exact ih tx vx vy x' y' r hx hy e D hD'
          · cases e
        · cases e
    · rename_i fields xs ys hu
      simp only [VRel] at hx hy
      obtain ⟨xs', rfl, hx⟩ := hx
      obtain ⟨ys', rfl, hy⟩ := hy
      split at e
      · cases e
      · rename_i hst
        have hst : P.stoodInHeld t = false := by simpa using hst
        have := sim_fields (P := P) (g := g) (w := w) (E := eqB P h d) (E' := Op.equalIn D) (fun t x y x' y' r hx hy e => ih t x y x' y' r hx hy e D hD') fields.toList xs ys xs' ys' r hx hy e
        refine (Sem.run_bind P w (underlying t) _).trans ?_
        rw [r_underlying hu, Result.andThen_ok]
        refine (Sem.run_bind P w program _).trans ?_
        rw [run_program, Result.andThen_ok, hst]
        rw [← Array.forIn_toList]
        refine (Sem.run_bind P w _ _).trans ?_
        rw [this]
        cases r <;> rfl
    · rename_i len el xs ys hu
      simp only [VRel] at hx hy
      obtain ⟨xs', rfl, hx⟩ := hx
      obtain ⟨ys', rfl, hy⟩ := hy
      split at e
      · rename_i n hs
        have := sim_aelems (P := P) (g := g) (w := w) (E := eqB P h d) (E' := Op.equalIn D) (fun t x y x' y' r hx hy e => ih t x y x' y' r hx hy e D hD') (List.range' 0 len 1) xs ys xs' ys' r hx hy e
        refine (Sem.run_bind P w (underlying t) _).trans ?_
        rw [r_underlying hu, Result.andThen_ok]
        refine (Sem.run_bind P w (sizeOf el) _).trans ?_
        rw [r_sizeOf hs, Result.andThen_ok]
        refine (Sem.run_bind P w _ _).trans ?_
        rw [Std.Legacy.Range.forIn_eq_forIn_range']
        simp only [Std.Legacy.Range.size, Nat.sub_zero, Nat.add_sub_cancel, Nat.div_one]
        rw [this]
        cases r <;> rfl
      · cases e
    all_goals first
      | (cases e; done)
      | (rename_i hu; simp only [VRel] at hx hy; first
          | (subst hx hy)
          | (subst hx; obtain ⟨_, _, _, _, rfl, _⟩ := hy)
          | (subst hy; obtain ⟨_, _, _, _, rfl, _⟩ := hx)
          | (subst hx; obtain ⟨_, _, _, rfl, _⟩ := hy)
          | (subst hy; obtain ⟨_, _, _, rfl, _⟩ := hx)
          | (subst hx; obtain ⟨_, _, rfl, _⟩ := hy)
          | (subst hy; obtain ⟨_, _, rfl, _⟩ := hx)
          | (subst hx; obtain ⟨_, _, rfl⟩ := hy)
          | (subst hy; obtain ⟨_, _, rfl⟩ := hx)
         cases e
         refine (Sem.run_bind P w (underlying t) _).trans ?_
         rw [r_underlying hu, Result.andThen_ok]; rfl)
end
end Go.PB
