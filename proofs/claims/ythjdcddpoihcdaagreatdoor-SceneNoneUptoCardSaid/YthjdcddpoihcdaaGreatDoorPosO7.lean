/- What B's operations do is what the model's do: one operand, conversions, assertions, len; maps. -/
import Derived.Test.YthjdcddpoihcdaaGreatDoorPosO6
set_option linter.unusedSimpArgs false
set_option linter.unusedVariables false
namespace Go.PB
open Go

section
variable {P : Program} {g : Gh} {h : BHeap} {w : World}

theorem sim_un {op : UnOp} {x v : BV} {x' : Value} (hx : VRel P g w x x') (e : unB op x = some v) : ∃ v', (Op.unary op x').run P w = .ok v' w ∧ VRel P g w v v' := by
  unfold unB at e
  split at e
  · simp only [VRel] at hx; subst hx; cases e; exact ⟨_, rfl, by simp [VRel]⟩
  · simp only [VRel] at hx; subst hx; cases e; exact ⟨_, rfl, by simp [VRel]⟩
  · simp only [VRel] at hx; subst hx; cases e; exact ⟨_, rfl, by simp [VRel]⟩
  · cases e

theorem CellsAt.of_heap {w' : World} {blk off : Nat} {vs : List Value} (hc : CellsAt w blk off vs) (hw : w'.heap = w.heap) : CellsAt w' blk off vs := fun i x hi => by
  rw [cell?_of_heap (w := w) (by rw [hw])]; exact hc i x hi

/-- a slice's elements as cells, and their number -/
theorem sim_elems (hr : HRel P g h w) {size : Nat} {x : BV} {x' : Value} {xs : List BV} {n : Nat} (hx : VRel P g w x x') (e : elemsB P h size x = some (xs, n)) :
    (∀ w', (Builtin.lenOf x').run P w' = .ok n w') ∧ xs.length = n * size ∧ ∀ k, k ≤ n → ∃ ys, (∀ w' : World, w'.heap = w.heap → (Builtin.firstCells size k x').run P w' = .ok ys w') ∧ VRels P g w (xs.take (k * size)) ys.toList := by
  unfold elemsB at e
  split at e
  · simp only [VRel] at hx; subst hx; cases e
    exact ⟨fun _ => rfl, by simp, fun k hk => ⟨#[], fun _ _ => rfl, by simp [VRels]⟩⟩
  · simp only [VRel] at hx; obtain ⟨a, c, rfl⟩ := hx; cases e
    refine ⟨fun _ => rfl, by simp, fun k hk => ⟨#[], fun w' _ => ?_, by simp [VRels]⟩⟩
    have : k = 0 := by omega
    subst this
    simp only [Builtin.firstCells, Nat.zero_mul]; rfl
  · rename_i b off len cap
    split at e
    · rename_i cs et s hb
      simp only [VRel] at hx
      obtain ⟨blk, base, c, hm, rfl, _⟩ := hx
      cases ht : takeCells cs off (len * size) with
      | none => simp [ht] at e
      | some l =>
        simp [ht] at e
        obtain ⟨rfl, rfl⟩ := e
        obtain ⟨cc, lo, hi, vs, hw, hv, _, hc, _⟩ := hr.cells hb hm
        obtain ⟨h1, h2⟩ := hv.takeCells ht
        refine ⟨fun _ => rfl, (takeCells_some ht).2, fun k hk => ⟨(((vs.drop off).take (len * size)).take (k * size)).toArray, fun w' hw' => ?_, by simpa using h1.take (k * size)⟩⟩
        have hle : k * size ≤ len * size := Nat.mul_le_mul_right _ hk
        simp only [Builtin.firstCells]
        exact run_loadCells_at _ (by rw [List.length_take, h2]; omega) (hc.drop.take.take.of_heap hw')
    · cases e
  · rename_i cs len cap
    simp only [VRel] at hx
    obtain ⟨blk, off, c, rfl, _, _, vs, hv, hc⟩ := hx
    cases ht : takeCells cs 0 (len * size) with
    | none => simp [ht] at e
    | some l =>
      simp [ht] at e
      obtain ⟨rfl, rfl⟩ := e
      obtain ⟨h1, h2⟩ := hv.takeCells ht
      refine ⟨fun _ => rfl, (takeCells_some ht).2, fun k hk => ⟨(((vs.drop 0).take (len * size)).take (k * size)).toArray, fun w' hw' => ?_, by simpa using h1.take (k * size)⟩⟩
      have hle : k * size ≤ len * size := Nat.mul_le_mul_right _ hk
      simp only [Builtin.firstCells]
      have hc' : CellsAt w blk off (vs.drop 0) := by simpa using hc
      exact run_loadCells_at _ (by rw [List.length_take, h2]; omega) (hc'.take.take.of_heap hw')
  · rename_i s
    simp only [VRel] at hx; subst hx
    split at e
    · rename_i hs
      subst hs
      cases e
      refine ⟨fun _ => by simp [Builtin.lenOf, ByteArray.size], by simp, fun k hk => ⟨_, fun _ _ => rfl, ?_⟩⟩
      rw [Nat.mul_one]
      have : ((ByteArray.extract ⟨s.toArray⟩ 0 k).data.map fun (b : UInt8) => Value.int IntKind.u8 b.toNat).toList = (s.take k).map fun (b : UInt8) => Value.int IntKind.u8 b.toNat := by
        simp [ByteArray.data_extract, List.extract_eq_take_drop]
      rw [this, ← List.map_take]
      exact VRels.map fun a _ => by simp [VRel]
    · cases e
  · cases e

theorem bytes_loop (w : World) {F : Value → ByteArray → Sem (ForInStep ByteArray)} (hF : ∀ n s, F (.int .u8 n) s = pure (ForInStep.yield (ByteArray.push s (UInt8.ofNat n.toNat)))) :
    ∀ (vs : List Value) (xs : List BV) (l : List UInt8) (acc : ByteArray), VRels P g w xs vs → xs.mapM byteB = some l →
    (forIn vs acc F).run P w = .ok (acc ++ ⟨l.toArray⟩) w := by
  intro vs
  induction vs with
  | nil =>
    intro xs l acc hv e
    have : xs = [] := by have := hv.length; cases xs <;> simp_all
    subst this
    simp at e; subst e
    simp
    apply ByteArray.ext; simp
  | cons v vs ih =>
    intro xs l acc hv e
    cases xs with
    | nil => simp [VRels] at hv
    | cons x xs =>
      simp only [VRels] at hv
      obtain ⟨v', vr, hc, hx, hr⟩ := hv
      cases hc
      simp only [List.mapM_cons] at e
      cases hb : byteB x with
      | none => simp [hb] at e
      | some c =>
        cases hm : xs.mapM byteB with
        | none => simp [hb, hm] at e
        | some l' =>
          simp [hb, hm] at e; subst e
          unfold byteB at hb
          split at hb
          · simp only [VRel] at hx; subst hx; cases hb
            simp only [List.forIn_cons, Sem.run_bind, hF, Sem.run_pure, Result.andThen_ok]
            rw [ih xs l' _ hr hm]
            congr 1
            apply ByteArray.ext
            simp
          · cases hb

theorem sim_convert (hr : HRel P g h w) {src dst : TypeId} {x v : BV} {x' : Value} {h' : BHeap} (hx : VRel P g w x x') (e : convertB P h src dst x = some (v, h'))
    (hna : ∀ el, P.underlying dst ≠ some (.slice el)) : h' = h ∧ ∃ v', (convert src dst x').run P w = .ok v' w ∧ VRel P g w v v' := by
  unfold convertB at e
  split at e
  · rename_i d k k' n hs hd
    simp only [VRel] at hx; subst hx; cases e
    refine ⟨rfl, .int k (k.wrap n), ?_, by simp [VRel]⟩
    refine (Sem.run_bind P w _ _).trans ?_
    rw [r_underlying hs, Result.andThen_ok]
    refine (Sem.run_bind P w _ _).trans ?_
    rw [r_underlying hd, Result.andThen_ok]
    cases d <;> rfl
  · rename_i d k' n hs hd
    simp only [VRel] at hx; subst hx; cases e
    refine ⟨rfl, .string (Utf8.encode n), ?_, by simp [VRel]⟩
    refine (Sem.run_bind P w _ _).trans ?_
    rw [r_underlying hs, Result.andThen_ok]
    refine (Sem.run_bind P w _ _).trans ?_
    rw [r_underlying hd, Result.andThen_ok]
    cases d <;> rfl
  · rename_i d s hs hd
    simp only [VRel] at hx; subst hx; cases e
    refine ⟨rfl, .string ⟨s.toArray⟩, ?_, by simp [VRel]⟩
    refine (Sem.run_bind P w _ _).trans ?_
    rw [r_underlying hs, Result.andThen_ok]
    refine (Sem.run_bind P w _ _).trans ?_
    rw [r_underlying hd, Result.andThen_ok]
    cases d <;> rfl
  · rename_i d el s hs hd
    exact absurd hd (hna el)
  · rename_i el hs hd hnx hns
    split at e
    · rename_i hel
      split at e
      · rename_i xs n hel2
        cases hm : xs.mapM byteB with
        | none => simp [hm] at e
        | some l =>
          simp [hm] at e
          obtain ⟨rfl, rfl⟩ := e
          refine ⟨rfl, .string ⟨l.toArray⟩, ?_, by simp [VRel]⟩
          have hstep : (convert src dst x').run P w = (Conv.bytesToString x').run P w := by
            refine (Sem.run_bind P w _ _).trans ?_
            rw [r_underlying hs, Result.andThen_ok]
            refine (Sem.run_bind P w _ _).trans ?_
            rw [r_underlying hd, Result.andThen_ok]
            have hk : ∀ k n, x' ≠ .int k n := by
              rintro k n rfl
              unfold elemsB at hel2
              split at hel2 <;> first
                | (simp only [VRel] at hx; cases hx; done)
                | (simp only [VRel] at hx; obtain ⟨_, _, h1⟩ := hx; cases h1; done)
                | (simp only [VRel] at hx; obtain ⟨_, _, _, _, h1, _⟩ := hx; cases h1; done)
                | (simp only [VRel] at hx; obtain ⟨_, _, _, h1, _⟩ := hx; cases h1; done)
                | (cases hel2; done)
            have hk2 : ∀ s, x' ≠ .string s := by
              rintro s rfl
              unfold elemsB at hel2
              split at hel2 <;> first
                | (exact absurd rfl (hns _))
                | (simp only [VRel] at hx; cases hx; done)
                | (simp only [VRel] at hx; obtain ⟨_, _, h1⟩ := hx; cases h1; done)
                | (simp only [VRel] at hx; obtain ⟨_, _, _, _, h1, _⟩ := hx; cases h1; done)
                | (simp only [VRel] at hx; obtain ⟨_, _, _, h1, _⟩ := hx; cases h1; done)
                | (cases hel2; done)
            cases x' <;> first
              | (exact absurd rfl (hk _ _))
              | (exact absurd rfl (hk2 _))
              | (refine (Sem.run_bind P w (underlying el) _).trans ?_
                 rw [r_underlying hel, Result.andThen_ok])
          rw [hstep]
          -- the loop
          unfold elemsB at hel2
          split at hel2
          · simp only [VRel] at hx; subst hx; cases hel2
            simp at hm; subst hm
            rfl
          · simp only [VRel] at hx; obtain ⟨a, c, rfl⟩ := hx; cases hel2
            simp at hm; subst hm
            simp [Conv.bytesToString, loadCells, loadCellsFrom]
            rfl
          · rename_i b off len cap
            split at hel2
            · rename_i cs et s hb
              simp only [VRel] at hx
              obtain ⟨blk, base, c, hmm, rfl, _⟩ := hx
              rw [Nat.mul_one] at hel2
              cases ht : takeCells cs off len with
              | none => simp [ht] at hel2
              | some l1 =>
                simp [ht] at hel2
                obtain ⟨rfl, rfl⟩ := hel2
                obtain ⟨cc, lo, hi, vs, hw, hv, _, hc, _⟩ := hr.cells hb hmm
                obtain ⟨h1, h2⟩ := hv.takeCells ht
                simp only [Conv.bytesToString, Sem.run_bind]
                rw [run_loadCells_at _ h2 (hc.drop.take)]
                simp only [Result.andThen_ok, List.forIn_toArray]
                rw [bytes_loop (P := P) w (fun _ _ => rfl) _ _ _ ByteArray.empty h1 hm]
                simp
            · cases hel2
          · rename_i cs len cap
            simp only [VRel] at hx
            obtain ⟨blk, off, c, rfl, _, _, vs, hv, hc⟩ := hx
            rw [Nat.mul_one] at hel2
            cases ht : takeCells cs 0 len with
            | none => simp [ht] at hel2
            | some l1 =>
              simp [ht] at hel2
              obtain ⟨rfl, rfl⟩ := hel2
              obtain ⟨h1, h2⟩ := hv.takeCells ht
              have hc' : CellsAt w blk off (vs.drop 0) := by simpa using hc
              simp only [Conv.bytesToString, Sem.run_bind]
              rw [run_loadCells_at _ h2 hc'.take]
              simp only [Result.andThen_ok, List.forIn_toArray]
              rw [bytes_loop (P := P) w (fun _ _ => rfl) _ _ _ ByteArray.empty h1 hm]
              simp
          · exact absurd rfl (hns _)
          · cases hel2
      · cases e
    · cases e
  · cases e
end
end Go.PB
