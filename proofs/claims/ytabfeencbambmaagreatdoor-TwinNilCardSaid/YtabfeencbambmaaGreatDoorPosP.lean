/- What B's operations do is what the model's do: one operand, conversions, assertions, len; maps. What B's operations do is what the model's do: assertions, len, maps. What B's operations do is what the model's do: maps written, ranges, len, min, max. What B's operations do is what the model's do: clear, range, next, len, min, max, copy, append. -/
import Derived.Test.YtabfeencbambmaaGreatDoorPosO
set_option linter.unusedSimpArgs false
set_option linter.unusedVariables false
namespace Go.PB
open Go

section
variable {P : Program} {g : Gh} {h : BHeap} {w : World}

theorem sim_un {op : UnOp} {x v : BV} {x' : Value} (hx : VRel P g w x x') (e : unB op x = some v) : ∃ v', (Op.unary op x').run P w = .ok v' w ∧ VRel P g w v v' := by
  unfold unB at e
  split at e
  · simp only [VRel] at hx; subst hx; cases e; exact ⟨_, rfl, by simp [VRel]⟩
  · simp only [VRel] at hx; subst hx; cases e; exact ⟨_, rfl, by simp [VRel]⟩
  · simp only [VRel] at hx; subst hx; cases e; exact ⟨_, rfl, by simp [VRel]⟩
  · cases e

theorem CellsAt.of_heap {w' : World} {blk off : Nat} {vs : List Value} (hc : CellsAt w blk off vs) (hw : w'.heap = w.heap) : CellsAt w' blk off vs := fun i x hi => by
  rw [cell?_of_heap (w := w) (by rw [hw])]; exact hc i x hi

/-- a slice's elements as cells, and their number -/
theorem sim_elems (hr : HRel P g h w) {size : Nat} {x : BV} {x' : Value} {xs : List BV} {n : Nat} (hx : VRel P g w x x') (e : elemsB P h size x = some (xs, n)) :
    (∀ w', (Builtin.lenOf x').run P w' = .ok n w') ∧ xs.length = n * size ∧ ∀ k, k ≤ n → ∃ ys, (∀ w' : World, w'.heap = w.heap → (Builtin.firstCells size k x').run P w' = .ok ys w') ∧ VRels P g w (xs.take (k * size)) ys.toList := by
  unfold elemsB at e
  split at e
  · simp only [VRel] at hx; subst hx; cases e
    exact ⟨fun _ => rfl, by simp, fun k hk => ⟨#[], fun _ _ => rfl, by simp [VRels]⟩⟩
  · simp only [VRel] at hx; obtain ⟨a, c, rfl⟩ := hx; cases e
    refine ⟨fun _ => rfl, by simp, fun k hk => ⟨#[], fun w' _ => ?_, by simp [VRels]⟩⟩
    have : k = 0 := by omega
    subst this
    simp only [Builtin.firstCells, Nat.zero_mul]; rfl
  · rename_i b off len cap
    split at e
    · rename_i cs et s hb
      simp only [VRel] at hx
      obtain ⟨blk, base, c, hm, rfl, _⟩ := hx
      cases ht : takeCells cs off (len * size) with
      | none => simp [ht] at e
      | some l =>
        simp [ht] at e
        obtain ⟨rfl, rfl⟩ := e
        obtain ⟨cc, lo, hi, vs, hw, hv, _, hc, _⟩ := hr.cells hb hm
        obtain ⟨h1, h2⟩ := hv.takeCells ht
        refine ⟨fun _ => rfl, (takeCells_some ht).2, fun k hk => ⟨(((vs.drop off).take (len * size)).take (k * size)).toArray, fun w' hw' => ?_, by simpa using h1.take (k * size)⟩⟩
        have hle : k * size ≤ len * size := Nat.mul_le_mul_right _ hk
        simp only [Builtin.firstCells]
        exact run_loadCells_at _ (by rw [List.length_take, h2]; omega) (hc.drop.take.take.of_heap hw')
    · cases e
  · rename_i cs len cap
    simp only [VRel] at hx
    obtain ⟨blk, off, c, rfl, _, _, vs, hv, hc⟩ := hx
    cases ht : takeCells cs 0 (len * size) with
    | none => simp [ht] at e
    | some l =>
      simp [ht] at e
      obtain ⟨rfl, rfl⟩ := e
      obtain ⟨h1, h2⟩ := hv.takeCells ht
      refine ⟨fun _ => rfl, (takeCells_some ht).2, fun k hk => ⟨(((vs.drop 0).take (len * size)).take (k * size)).toArray, fun w' hw' => ?_, by simpa using h1.take (k * size)⟩⟩
      have hle : k * size ≤ len * size := Nat.mul_le_mul_right _ hk
      simp only [Builtin.firstCells]
      have hc' : CellsAt w blk off (vs.drop 0) := by simpa using hc
      exact run_loadCells_at _ (by rw [List.length_take, h2]; omega) (hc'.take.take.of_heap hw')
  · rename_i s
    simp only [VRel] at hx; subst hx
    split at e
    · rename_i hs
      subst hs
      cases e
      refine ⟨fun _ => by simp [Builtin.lenOf, ByteArray.size], by simp, fun k hk => ⟨_, fun _ _ => rfl, ?_⟩⟩
      rw [Nat.mul_one]
      have : ((ByteArray.extract ⟨s.toArray⟩ 0 k).data.map fun (b : UInt8) => Value.int IntKind.u8 b.toNat).toList = (s.take k).map fun (b : UInt8) => Value.int IntKind.u8 b.toNat := by
        simp [ByteArray.data_extract, List.extract_eq_take_drop]
      rw [this, ← List.map_take]
      exact VRels.map fun a _ => by simp [VRel]
    · cases e
  · cases e

theorem bytes_loop (w : World) {F : Value → ByteArray → Sem (ForInStep ByteArray)} (hF : ∀ n s, F (.int .u8 n) s = pure (ForInStep.yield (ByteArray.push s (UInt8.ofNat n.toNat)))) :
    ∀ (vs : List Value) (xs : List BV) (l : List UInt8) (acc : ByteArray), VRels P g w xs vs → xs.mapM byteB = some l →
    (forIn vs acc F).run P w = .ok (acc ++ ⟨l.toArray⟩) w := by
  intro vs
  induction vs with
  | nil =>
    intro xs l acc hv e
    have : xs = [] := by have := hv.length; cases xs <;> simp_all
    subst this
    simp at e; subst e
    simp
    apply ByteArray.ext; simp
  | cons v vs ih =>
    intro xs l acc hv e
    cases xs with
    | nil => simp [VRels] at hv
    | cons x xs =>
      simp only [VRels] at hv
      obtain ⟨v', vr, hc, hx, hr⟩ := hv
      cases hc
      simp only [List.mapM_cons] at e
      cases hb : byteB x with
      | none => simp [hb] at e
      | some c =>
        cases hm : xs.mapM byteB with
        | none => simp [hb, hm] at e
        | some l' =>
          simp [hb, hm] at e; subst e
          unfold byteB at hb
          split at hb
          · simp only [VRel] at hx; subst hx; cases hb
            simp only [List.forIn_cons, Sem.run_bind, hF, Sem.run_pure, Result.andThen_ok]
            rw [ih xs l' _ hr hm]
            congr 1
            apply ByteArray.ext
            simp
          · cases hb

theorem sim_convert (hr : HRel P g h w) {src dst : TypeId} {x v : BV} {x' : Value} {h' : BHeap} (hx : VRel P g w x x') (e : convertB P h src dst x = some (v, h'))
    (hna : ∀ el, P.underlying dst ≠ some (.slice el)) : h' = h ∧ ∃ v', (convert src dst x').run P w = .ok v' w ∧ VRel P g w v v' := by
  unfold convertB at e
  split at e
  · rename_i d k k' n hs hd
    simp only [VRel] at hx; subst hx; cases e
    refine ⟨rfl, .int k (k.wrap n), ?_, by simp [VRel]⟩
    refine (Sem.run_bind P w _ _).trans ?_
    rw [r_underlying hs, Result.andThen_ok]
    refine (Sem.run_bind P w _ _).trans ?_
    rw [r_underlying hd, Result.andThen_ok]
    cases d <;> rfl
  · rename_i d k' n hs hd
    simp only [VRel] at hx; subst hx; cases e
    refine ⟨rfl, .string (Utf8.encode n), ?_, by simp [VRel]⟩
    refine (Sem.run_bind P w _ _).trans ?_
    rw [r_underlying hs, Result.andThen_ok]
    refine (Sem.run_bind P w _ _).trans ?_
    rw [r_underlying hd, Result.andThen_ok]
    cases d <;> rfl
  · rename_i d s hs hd
    simp only [VRel] at hx; subst hx; cases e
    refine ⟨rfl, .string ⟨s.toArray⟩, ?_, by simp [VRel]⟩
    refine (Sem.run_bind P w _ _).trans ?_
    rw [r_underlying hs, Result.andThen_ok]
    refine (Sem.run_bind P w _ _).trans ?_
    rw [r_underlying hd, Result.andThen_ok]
    cases d <;> rfl
  · rename_i d el s hs hd
    exact absurd hd (hna el)
  · rename_i el hs hd hnx hns
    split at e
    · rename_i hel
      split at e
      · rename_i xs n hel2
        cases hm : xs.mapM byteB with
        | none => simp [hm] at e
        | some l =>
          simp [hm] at e
          obtain ⟨rfl, rfl⟩ := e
          refine ⟨rfl, .string ⟨l.toArray⟩, ?_, by simp [VRel]⟩
          have hstep : (convert src dst x').run P w = (Conv.bytesToString x').run P w := by
            refine (Sem.run_bind P w _ _).trans ?_
            rw [r_underlying hs, Result.andThen_ok]
            refine (Sem.run_bind P w _ _).trans ?_
            rw [r_underlying hd, Result.andThen_ok]
            have hk : ∀ k n, x' ≠ .int k n := by
              rintro k n rfl
              unfold elemsB at hel2
              split at hel2 <;> first
                | (simp only [VRel] at hx; cases hx; done)
                | (simp only [VRel] at hx; obtain ⟨_, _, h1⟩ := hx; cases h1; done)
                | (simp only [VRel] at hx; obtain ⟨_, _, _, _, h1, _⟩ := hx; cases h1; done)
                | (simp only [VRel] at hx; obtain ⟨_, _, _, h1, _⟩ := hx; cases h1; done)
                | (cases hel2; done)
            have hk2 : ∀ s, x' ≠ .string s := by
              rintro s rfl
              unfold elemsB at hel2
              split at hel2 <;> first
                | (exact absurd rfl (hns _))
                | (simp only [VRel] at hx; cases hx; done)
                | (simp only [VRel] at hx; obtain ⟨_, _, h1⟩ := hx; cases h1; done)
                | (simp only [VRel] at hx; obtain ⟨_, _, _, _, h1, _⟩ := hx; cases h1; done)
                | (simp only [VRel] at hx; obtain ⟨_, _, _, h1, _⟩ := hx; cases h1; done)
                | (cases hel2; done)
            cases x' <;> first
              | (exact absurd rfl (hk _ _))
              | (exact absurd rfl (hk2 _))
              | (refine (Sem.run_bind P w (underlying el) _).trans ?_
                 rw [r_underlying hel, Result.andThen_ok])
          rw [hstep]
          -- the loop
          unfold elemsB at hel2
          split at hel2
          · simp only [VRel] at hx; subst hx; cases hel2
            simp at hm; subst hm
            rfl
          · simp only [VRel] at hx; obtain ⟨a, c, rfl⟩ := hx; cases hel2
            simp at hm; subst hm
            simp [Conv.bytesToString, loadCells, loadCellsFrom]
            rfl
          · rename_i b off len cap
            split at hel2
            · rename_i cs et s hb
              simp only [VRel] at hx
              obtain ⟨blk, base, c, hmm, rfl, _⟩ := hx
              rw [Nat.mul_one] at hel2
              cases ht : takeCells cs off len with
              | none => simp [ht] at hel2
              | some l1 =>
                simp [ht] at hel2
                obtain ⟨rfl, rfl⟩ := hel2
                obtain ⟨cc, lo, hi, vs, hw, hv, _, hc, _⟩ := hr.cells hb hmm
                obtain ⟨h1, h2⟩ := hv.takeCells ht
                simp only [Conv.bytesToString, Sem.run_bind]
                rw [run_loadCells_at _ h2 (hc.drop.take)]
                simp only [Result.andThen_ok, List.forIn_toArray]
                rw [bytes_loop (P := P) w (fun _ _ => rfl) _ _ _ ByteArray.empty h1 hm]
                simp
            · cases hel2
          · rename_i cs len cap
            simp only [VRel] at hx
            obtain ⟨blk, off, c, rfl, _, _, vs, hv, hc⟩ := hx
            rw [Nat.mul_one] at hel2
            cases ht : takeCells cs 0 len with
            | none => simp [ht] at hel2
            | some l1 =>
              simp [ht] at hel2
              obtain ⟨rfl, rfl⟩ := hel2
              obtain ⟨h1, h2⟩ := hv.takeCells ht
              have hc' : CellsAt w blk off (vs.drop 0) := by simpa using hc
              simp only [Conv.bytesToString, Sem.run_bind]
              rw [run_loadCells_at _ h2 hc'.take]
              simp only [Result.andThen_ok, List.forIn_toArray]
              rw [bytes_loop (P := P) w (fun _ _ => rfl) _ _ _ ByteArray.empty h1 hm]
              simp
          · exact absurd rfl (hns _)
          · cases hel2
      · cases e
    · cases e
  · cases e
end
end Go.PB

set_option linter.unusedSimpArgs false
set_option linter.unusedVariables false
namespace Go.PB
open Go

section
variable {P : Program} {g : Gh} {h : BHeap} {w : World}

theorem sim_assert {x v : BV} {x' : Value} {xt a : TypeId} {ok : Bool} (hx : VRel P g w x x') (e : assertB P x a ok = some v) : ∃ v', (Instr.typeAssert x' xt a ok).run P w = .ok v' w ∧ VRel P g w v v' := by
  have hf : ∀ (s d : Option TypeId) (m : String), (if ok then (zeroB P a).map fun z => BV.tuple [z, .bool false] else none) = some v →
      ∃ v', ((if ok = true then do pure (.tuple #[← zeroValue a, .bool false]) else runtimePanic (.typeAssertion s d a m)) : Sem Value).run P w = .ok v' w ∧ VRel P g w v v' := by
    intro s d m e
    cases ok with
    | false => simp at e
    | true =>
      simp only [if_true] at e
      cases hz : zeroB P a with
      | none => simp [hz] at e
      | some z =>
        simp [hz] at e; subst e
        obtain ⟨z', hz', hzr⟩ := r_zero hz w
        refine ⟨.tuple #[z', .bool false], by simp [hz'], ?_⟩
        simp only [VRel]
        exact ⟨_, rfl, VRels.cons (hzr g) (VRels.cons (by simp [VRel]) VRels.nil)⟩
  have hh : ∀ (u : BV) (u' : Value), VRel P g w u u' → VRel P g w (if ok then .tuple [u, .bool true] else u) (if ok = true then .tuple #[u', .bool true] else u') := by
    intro u u' hu
    cases ok with
    | false => exact hu
    | true => simp only [if_true, VRel]; exact ⟨_, rfl, VRels.cons hu (VRels.cons (by simp [VRel]) VRels.nil)⟩
  unfold assertB at e
  dsimp only at e
  split at e
  · rename_i ms hu
    simp only [VRel] at hx; subst hx
    obtain ⟨v', h1, h2⟩ := hf none none "" e
    exact ⟨v', by
      refine (Sem.run_bind P w _ _).trans ?_
      rw [r_underlying hu, Result.andThen_ok]; exact h1, h2⟩
  · rename_i want t u hu
    have hx0 := hx
    simp only [VRel] at hx
    obtain ⟨u', rfl, hu'⟩ := hx
    cases hi : P.info? t with
    | none => simp [hi] at e
    | some i =>
      simp only [hi] at e
      cases hm : Instr.missingMethod want i.methods with
      | none =>
        simp [hm] at e; subst e
        refine ⟨_, ?_, hh _ _ hx0⟩
        refine (Sem.run_bind P w _ _).trans ?_
        rw [r_underlying hu, Result.andThen_ok]
        refine (Sem.run_bind P w (typeInfo t) _).trans ?_
        rw [r_info hi, Result.andThen_ok, hm]
        rfl
      | some m =>
        simp [hm] at e
        obtain ⟨v', h1, h2⟩ := hf none (some t) m (by simpa using e)
        refine ⟨v', ?_, h2⟩
        refine (Sem.run_bind P w _ _).trans ?_
        rw [r_underlying hu, Result.andThen_ok]
        refine (Sem.run_bind P w (typeInfo t) _).trans ?_
        rw [r_info hi, Result.andThen_ok, hm]
        exact h1
  · rename_i d hni hu
    simp only [VRel] at hx; subst hx
    obtain ⟨v', h1, h2⟩ := hf (some xt) none "" e
    refine ⟨v', ?_, h2⟩
    refine (Sem.run_bind P w _ _).trans ?_
    rw [r_underlying hu, Result.andThen_ok]
    cases d <;> first
      | exact h1
      | exact absurd rfl (hni _)
  · rename_i d t u hni hu
    simp only [VRel] at hx
    obtain ⟨u', rfl, hu'⟩ := hx
    split at e
    · rename_i ht
      subst ht
      cases e
      refine ⟨_, ?_, hh _ _ hu'⟩
      refine (Sem.run_bind P w _ _).trans ?_
      rw [r_underlying hu, Result.andThen_ok]
      cases d <;> first
        | (show Sem.run P (if t = t then _ else _) w = _
           rw [if_pos rfl]; rfl)
        | exact absurd rfl (hni _)
    · rename_i ht
      obtain ⟨v', h1, h2⟩ := hf (some xt) (some t) "" e
      refine ⟨v', ?_, h2⟩
      refine (Sem.run_bind P w _ _).trans ?_
      rw [r_underlying hu, Result.andThen_ok]
      cases d <;> first
        | (show Sem.run P (if t = a then _ else _) w = _
           rw [if_neg ht]; exact h1)
        | exact absurd rfl (hni _)
  · cases e

theorem ERels.length {bs : List BEntry} : ∀ {es : List MapEntry}, ERels P g w bs es → es.length = bs.length := by
  induction bs with
  | nil => intro es h; simp [ERels] at h; simp [h]
  | cons b bs ih => intro es h; simp only [ERels] at h; obtain ⟨e, er, rfl, _, h⟩ := h; simp [ih h]

theorem ERels.get {bs : List BEntry} : ∀ {es : List MapEntry}, ERels P g w bs es → ∀ {i : Nat} {b : BEntry}, bs[i]? = some b → ∃ e, es[i]? = some e ∧ ERel P g w b e := by
  induction bs with
  | nil => intro es _ i b h; simp at h
  | cons x bs ih =>
    intro es h i b hb
    simp only [ERels] at h
    obtain ⟨e, er, rfl, hv, hr⟩ := h
    cases i with
    | zero => simp at hb; subst hb; exact ⟨e, by simp, hv⟩
    | succ i => simp at hb; obtain ⟨u, hu, hr'⟩ := ih hr hb; exact ⟨u, by simpa using hu, hr'⟩

theorem ERels.of_get {bs : List BEntry} : ∀ {es : List MapEntry}, es.length = bs.length → (∀ (i : Nat) b e, bs[i]? = some b → es[i]? = some e → ERel P g w b e) → ERels P g w bs es := by
  induction bs with
  | nil => intro es hl _; simp at hl; simp [ERels, hl]
  | cons b bs ih =>
    intro es hl h
    cases es with
    | nil => simp at hl
    | cons v vr =>
      simp only [ERels]
      exact ⟨v, vr, rfl, h 0 b v (by simp) (by simp), ih (by simpa using hl) fun i b' v' hb hv => h (i + 1) b' v' (by simpa using hb) (by simpa using hv)⟩

theorem ERels.append {as bs : List BEntry} {us vs : List MapEntry} (h : ERels P g w as us) (k : ERels P g w bs vs) : ERels P g w (as ++ bs) (us ++ vs) := by
  induction as generalizing us with
  | nil => simp only [ERels] at h; subst h; simpa using k
  | cons b bs ih => simp only [ERels] at h; obtain ⟨d, dr, rfl, hd, hr⟩ := h; exact ⟨d, dr ++ vs, rfl, hd, ih hr⟩

theorem ERels.filter {bs : List BEntry} {p : BEntry → Bool} {q : MapEntry → Bool} (hpq : ∀ b e, ERel P g w b e → p b = q e) : ∀ {es : List MapEntry}, ERels P g w bs es → ERels P g w (bs.filter p) (es.filter q) := by
  induction bs with
  | nil => intro es h; simp only [ERels] at h; subst h; simp [ERels]
  | cons b bs ih =>
    intro es h
    simp only [ERels] at h; obtain ⟨d, dr, rfl, hd, hr⟩ := h
    simp only [List.filter_cons, hpq b d hd]
    split
    · exact ⟨d, _, rfl, hd, ih hr⟩
    · exact ih hr

theorem ERels.modify {bs : List BEntry} {es : List MapEntry} {f : BEntry → BEntry} {f' : MapEntry → MapEntry} (hf : ∀ b e, ERel P g w b e → ERel P g w (f b) (f' e)) (i : Nat) (h : ERels P g w bs es) :
    ERels P g w (bs.modify i f) (es.modify i f') := by
  refine ERels.of_get (by simp [h.length]) fun j b e hb he => ?_
  rw [List.getElem?_modify] at hb he
  by_cases hj : i = j
  · simp only [if_pos hj] at hb he
    cases hbj : bs[j]? with
    | none => simp [hbj] at hb
    | some b0 =>
      obtain ⟨e0, he0, hr0⟩ := h.get hbj
      simp [hbj] at hb; simp [he0] at he
      subst hb he; exact hf _ _ hr0
  · simp only [if_neg hj] at hb he
    simp at hb he
    obtain ⟨e0, he0, hr0⟩ := h.get hb
    rw [he0] at he; cases he; exact hr0

theorem ERels.eraseIdx {bs : List BEntry} {es : List MapEntry} (i : Nat) (h : ERels P g w bs es) : ERels P g w (bs.eraseIdx i) (es.eraseIdx i) := by
  induction bs generalizing es i with
  | nil => simp only [ERels] at h; subst h; simp [ERels]
  | cons b bs ih =>
    simp only [ERels] at h; obtain ⟨d, dr, rfl, hd, hr⟩ := h
    cases i with
    | zero => simpa using hr
    | succ i => simp only [List.eraseIdx_cons_succ]; exact ⟨d, _, rfl, hd, ih i hr⟩

/-- what B knows of a map -/
theorem HRel.map (hr : HRel P g h w) {r blk : Nat} {es : List BEntry} {clock : Nat} (hb : h.get r = some (.map es clock)) (hm : g.m r = some (blk, 0)) :
    ∃ es', w.heap[blk]? = some (.map es' clock) ∧ ERels P g w es es'.toList := by
  obtain ⟨_, o, ho, hr'⟩ := hr.obj _ _ _ _ hb hm
  simp only [ORel] at hr'
  obtain ⟨_, es', rfl, he⟩ := hr'
  exact ⟨es', ho, he⟩

theorem r_getMap {blk : Nat} {es : Array MapEntry} {clock : Nat} (hw : w.heap[blk]? = some (.map es clock)) : (getObj blk).run P w = .ok (.map es clock) w := by
  simp [getObj, Sem.run, hw]
theorem r_setMap {blk : Nat} {es : Array MapEntry} {clock : Nat} (hw : w.heap[blk]? = some (.map es clock)) (o : Obj) : (setObj blk o).run P w = .ok () (w.putBlk blk o) := by
  simp [setObj, Sem.run, hw, World.putBlk]

theorem sim_keyFields {K : TypeId → BV → Bool} {K' : TypeId → Value → Sem Unit} (hK : ∀ t x x', VRel P g w x x' → K t x = true → (K' t x').run P w = .ok () w) :
    ∀ (fs : List Field) (cs : List BV) (vs : Array Value), VRels P g w cs vs.toList → keyFields P K fs cs = true →
    (forIn fs PUnit.unit (fun f __s =>
            if f.name ≠ "_" then do
              let __do_lift ← part f.type vs f.offset
              K' f.type __do_lift
              pure (ForInStep.yield PUnit.unit)
            else pure (ForInStep.yield PUnit.unit)) : Sem PUnit).run P w = .ok PUnit.unit w := by
  intro fs
  induction fs with
  | nil => intro cs vs _ _; simp
  | cons f fs ih =>
    intro cs vs hv e
    simp only [keyFields, Bool.and_eq_true] at e
    obtain ⟨e1, e2⟩ := e
    simp only [List.forIn_cons, Sem.run_bind]
    by_cases hn : f.name ≠ "_"
    · rw [if_pos hn] at e1 ⊢
      split at e1
      · rename_i x hx
        obtain ⟨x', hx1, hx2⟩ := sim_part hv hx
        simp only [Sem.run_bind, hx1, Result.andThen_ok, hK _ _ _ hx2 e1, Sem.run_pure]
        exact ih cs vs hv e2
      · cases e1
    · rw [if_neg hn]
      simp only [Sem.run_pure, Result.andThen_ok]
      exact ih cs vs hv e2

theorem sim_key : ∀ (n : Nat) (t : TypeId) (k : BV) (k' : Value) (empty : Bool), VRel P g w k k' → keyOk P n t k = true → ∀ N, n ≤ N → (Instr.checkKey empty N t k').run P w = .ok () w := by
  intro n
  induction n with
  | zero => intro t k k' empty _ e; simp [keyOk] at e
  | succ n ih =>
    intro t k k' empty hk e N hN
    obtain ⟨N, rfl⟩ : ∃ N', N = N' + 1 := ⟨N - 1, by omega⟩
    unfold keyOk at e
    split at e
    · rename_i fs cs hu
      simp only [VRel] at hk; obtain ⟨vs, rfl, hv⟩ := hk
      have := sim_keyFields (P := P) (g := g) (w := w) (K := keyOk P n) (K' := Instr.checkKey empty N) (fun t x x' hx hx2 => ih t x x' empty hx hx2 N (by omega)) fs.toList cs vs hv e
      refine (Sem.run_bind P w _ _).trans ?_
      rw [r_underlying hu, Result.andThen_ok]
      refine (Sem.run_bind P w _ _).trans ?_
      rw [← Array.forIn_toList]
      rw [this]
      rfl
    · rename_i q q' i hu
      simp only [VRel] at hk; subst hk
      refine (Sem.run_bind P w _ _).trans ?_
      rw [r_underlying hu, Result.andThen_ok]; rfl
    · rename_i s hu
      simp only [VRel] at hk; subst hk
      refine (Sem.run_bind P w _ _).trans ?_
      rw [r_underlying hu, Result.andThen_ok]; rfl
    · rename_i b hu
      simp only [VRel] at hk; subst hk
      refine (Sem.run_bind P w _ _).trans ?_
      rw [r_underlying hu, Result.andThen_ok]; rfl
    · cases e

def FRelM (P : Program) (g : Gh) (w : World) : Option (Nat × BV) → Option (Nat × Value) → Prop
  | none, none => True
  | some (i, v), some (j, v') => i = j ∧ VRel P g w v v'
  | _, _ => False

theorem sim_findAsking (hr : HRel P g h w) {kt : TypeId} {k : BV} {k' : Value} (hk : VRel P g w k k') : ∀ (es : List BEntry) (es' : List MapEntry) (i : Nat) (r : Option (Nat × BV)), ERels P g w es es' →
    findB P h kt k es i = some r → ∃ r', (Instr.findAsking kt k' es' i).run P w = .ok r' w ∧ FRelM P g w r r' := by
  intro es
  induction es with
  | nil => intro es' i r he e; simp only [ERels] at he; subst he; simp [findB] at e; subst e; exact ⟨none, rfl, trivial⟩
  | cons b es ih =>
    intro es' i r he e
    simp only [ERels] at he; obtain ⟨d, dr, rfl, hd, hr'⟩ := he
    simp only [findB] at e
    have hq : ∀ x, keyEq P h kt k b.key = some x → (Op.equal kt k' d.key).run P w = .ok x w := fun x hx => sim_eq hr 12 kt k b.key k' d.key x hk hd.1 hx Op.maxDepth (by unfold Op.maxDepth; omega)
    split at e
    · rename_i hx
      cases e
      exact ⟨some (i, d.val), by simp [Instr.findAsking, hq _ hx], rfl, hd.2.1⟩
    · rename_i hx
      obtain ⟨r', h1, h2⟩ := ih dr (i + 1) r hr' e
      exact ⟨r', by simp [Instr.findAsking, hq _ hx, h1], h2⟩
    · cases e

theorem sameNow_run {kt : TypeId} {kind : TypeDesc} (hu : P.underlying kt = some kind) {a b : Value} {y : Bool} (e : Instr.sameNow kind a b = some y) : (Op.equal kt a b).run P w = .ok y w := by
  unfold Instr.sameNow at e
  unfold Op.equal
  rw [show Op.maxDepth = 9999 + 1 from rfl]
  refine (Sem.run_bind P w (underlying kt) _).trans ?_
  rw [r_underlying hu, Result.andThen_ok]
  split at e
  · rename_i q k1 a k2 b
    split at e
    · rename_i hk
      subst hk
      cases e
      show Sem.run P (if k1 = k1 then pure (a == b) else _) w = _
      rw [if_pos rfl]; rfl
    · cases e
  · cases e; rfl
  · cases e; rfl
  · cases e

theorem sim_findNow (hr : HRel P g h w) {kt : TypeId} {kind : TypeDesc} (hu : P.underlying kt = some kind) {k : BV} {k' : Value} (hk : VRel P g w k k') : ∀ (es : List BEntry) (es' : List MapEntry) (i : Nat) (r : Option (Nat × BV)) (r' : Option (Nat × Value)), ERels P g w es es' →
    findB P h kt k es i = some r → Instr.findNow kind k' es' i = some r' → FRelM P g w r r' := by
  intro es
  induction es with
  | nil => intro es' i r r' he e e'; simp only [ERels] at he; subst he; simp [findB] at e; subst e; simp [Instr.findNow] at e'; subst e'; trivial
  | cons b es ih =>
    intro es' i r r' he e e'
    simp only [ERels] at he; obtain ⟨d, dr, rfl, hd, hr'⟩ := he
    simp only [findB] at e
    simp only [Instr.findNow] at e'
    have hq : ∀ x y, keyEq P h kt k b.key = some x → Instr.sameNow kind k' d.key = some y → x = y := by
      intro x y hx hy
      have h1 := sim_eq hr 12 kt k b.key k' d.key x hk hd.1 hx Op.maxDepth (by unfold Op.maxDepth; omega)
      have h2 := sameNow_run (w := w) hu hy
      unfold Op.equal at h2
      rw [h1] at h2; injection h2
    cases hx : keyEq P h kt k b.key with
    | none => simp [hx] at e
    | some x =>
      cases hy : Instr.sameNow kind k' d.key with
      | none => simp [hy] at e'
      | some y =>
        have hxy := hq x y hx hy
        subst hxy
        cases x with
        | true => simp [hx] at e; simp [hy] at e'; subst e e'; exact ⟨rfl, hd.2.1⟩
        | false => simp [hx] at e; simp [hy] at e'; exact ih dr (i + 1) r r' hr' e e'

theorem sim_find (hr : HRel P g h w) {kt : TypeId} {k : BV} {k' : Value} (hk : VRel P g w k k') {es : List BEntry} {es' : List MapEntry} {r : Option (Nat × BV)} (hu : ∃ d, P.underlying kt = some d) (he : ERels P g w es es')
    (e : findB P h kt k es 0 = some r) : ∃ r', (Instr.findKey kt k' es').run P w = .ok r' w ∧ FRelM P g w r r' := by
  obtain ⟨d, hu⟩ := hu
  have hrun : (Instr.findKey kt k' es').run P w = ((match Instr.findNow d k' es' 0 with | some r => pure r | none => Instr.findAsking kt k' es') : Sem (Option (Nat × Value))).run P w := by
    refine (Sem.run_bind P w (underlying kt) _).trans ?_
    rw [r_underlying hu, Result.andThen_ok]
    cases Instr.findNow d k' es' 0 <;> rfl
  rw [hrun]
  cases hn : Instr.findNow d k' es' 0 with
  | some r' => exact ⟨r', rfl, sim_findNow hr hu hk es es' 0 r r' he e hn⟩
  | none => exact sim_findAsking hr hk es es' 0 r he e

theorem keyOk_under {n : Nat} {t : TypeId} {k : BV} (e : keyOk P n t k = true) : ∃ d, P.underlying t = some d := by
  cases n with
  | zero => simp [keyOk] at e
  | succ n =>
    unfold keyOk at e
    split at e <;> first
      | (exact ⟨_, by assumption⟩)
      | (cases e; done)

theorem sim_lookup (hr : HRel P g h w) {t : TypeId} {x k v : BV} {x' k' : Value} {ok : Bool} (hx : VRel P g w x x') (hk : VRel P g w k k') (e : lookupB P h t x k ok = some v) :
    ∃ v', (Instr.lookup t x' k' ok).run P w = .ok v' w ∧ VRel P g w v v' := by
  unfold lookupB at e
  split at e
  · rename_i kt et hu
    split at e
    · cases e
    · rename_i hko
      have hko : keyOk P 4 kt k = true := by simpa using hko
      dsimp only at e
      -- the entries
      have hes : ∀ es, (match x with
          | .nilm => some []
          | .map r => (match h.get r with | some (.map es _) => some es | _ => none)
          | _ => none : Option (List BEntry)) = some es →
          ∃ es' : Array MapEntry, ERels P g w es es'.toList ∧ ((x' = .map none ∧ es' = #[]) ∨ ∃ blk clock, x' = .map (some blk) ∧ w.heap[blk]? = some (.map es' clock)) := by
        intro es he
        cases x with
        | nilm => simp only [VRel] at hx; subst hx; cases he; exact ⟨#[], by simp [ERels], .inl ⟨rfl, rfl⟩⟩
        | map r =>
          simp only [VRel] at hx; obtain ⟨blk, hm, rfl⟩ := hx
          cases hb : h.get r with
          | none => simp [hb] at he
          | some o =>
            cases o with
            | map es1 clock =>
              simp [hb] at he; subst he
              obtain ⟨es', hw, hr'⟩ := hr.map hb hm
              exact ⟨es', hr', .inr ⟨blk, clock, rfl, hw⟩⟩
            | _ => simp [hb] at he
        | _ => simp at he
      split at e
      · cases e
      · rename_i es he
        obtain ⟨es', hr', hK⟩ := hes es he
        have hck := fun em => sim_key (P := P) (g := g) (w := w) 4 kt k k' em hk hko 10000 (by omega)
        have hrun : ∀ r', (Instr.findKey kt k' es'.toList).run P w = .ok r' w → (Instr.lookup t x' k' ok).run P w =
            ((do let (v, ok') ← (match r' with | some (_, v) => pure (v, true) | none => do pure (← zeroValue et, false)); pure (if ok then .tuple #[v, .bool ok'] else v)) : Sem Value).run P w := by
          intro r' hf
          refine (Sem.run_bind P w (underlying t) _).trans ?_
          rw [r_underlying hu, Result.andThen_ok]
          dsimp only
          rcases hK with ⟨rfl, rfl⟩ | ⟨blk, clock, rfl, hw⟩
          · simp only [Sem.run_bind, Sem.run_pure, Result.andThen_ok, hck, hf]
            cases r' with
            | none => cases hz : (zeroValue et).run P w <;> simp [hz]
            | some q => rfl
          · simp only [Sem.run_bind, Sem.run_pure, Result.andThen_ok, r_getMap hw, hck, hf]
            cases r' with
            | none => cases hz : (zeroValue et).run P w <;> simp [hz]
            | some q => rfl
        split at e
        · rename_i i u hf
          obtain ⟨r', h1, h2⟩ := sim_find hr hk (keyOk_under hko) hr' hf
          cases r' with
          | none => simp [FRelM] at h2
          | some q =>
            obtain ⟨j, u'⟩ := q
            obtain ⟨_, hu'⟩ := h2
            cases e
            refine ⟨if ok then .tuple #[u', .bool true] else u', by rw [hrun _ h1]; cases ok <;> rfl, ?_⟩
            cases ok with
            | false => exact hu'
            | true => simp only [if_true, VRel]; exact ⟨_, rfl, VRels.cons hu' (VRels.cons (by simp [VRel]) VRels.nil)⟩
        · rename_i hf
          obtain ⟨r', h1, h2⟩ := sim_find hr hk (keyOk_under hko) hr' hf
          cases r' with
          | some q => simp [FRelM] at h2
          | none =>
            cases hz : zeroB P et with
            | none => simp [hz] at e
            | some z =>
              simp [hz] at e; subst e
              obtain ⟨z', hz', hzr⟩ := r_zero hz w
              refine ⟨if ok then .tuple #[z', .bool false] else z', by rw [hrun _ h1]; simp [hz'], ?_⟩
              cases ok with
              | false => exact hzr g
              | true => simp only [if_true, VRel]; exact ⟨_, rfl, VRels.cons (hzr g) (VRels.cons (by simp [VRel]) VRels.nil)⟩
        · cases e
  · cases e
end
end Go.PB

set_option linter.unusedSimpArgs false
set_option linter.unusedVariables false
namespace Go.PB
open Go

theorem beq_sound : ∀ (n : Nat), (∀ a b, BV.beq n a b = true → a = b) ∧ (∀ a b, BV.beqs n a b = true → a = b) := by
  intro n
  induction n with
  | zero => exact ⟨fun a b h => by simp [BV.beq] at h, fun a b h => by simp [BV.beqs] at h⟩
  | succ n ih =>
    obtain ⟨i1, i2⟩ := ih
    constructor
    · intro a b h
      cases a <;> cases b <;> simp only [BV.beq, Bool.and_eq_true, beq_iff_eq, Bool.false_eq_true] at h <;> first
        | rfl
        | (subst h; rfl)
        | (obtain ⟨rfl, rfl⟩ := h; rfl)
        | (obtain ⟨⟨⟨rfl, rfl⟩, rfl⟩, rfl⟩ := h; rfl)
        | (have := i2 _ _ h; subst this; rfl)
        | (obtain ⟨⟨h1, rfl⟩, rfl⟩ := h; have := i2 _ _ h1; subst this; rfl)
        | (obtain ⟨⟨rfl, h1⟩, h2⟩ := h; have := i2 _ _ h1; have := i2 _ _ h2; subst_vars; rfl)
        | (obtain ⟨rfl, h1⟩ := h; have := i1 _ _ h1; subst this; rfl)
    · intro a b h
      cases a <;> cases b <;> simp only [BV.beqs, Bool.and_eq_true, Bool.false_eq_true] at h <;> first
        | rfl
        | (obtain ⟨h1, h2⟩ := h; rw [i1 _ _ h1, i2 _ _ h2])

section
variable {P : Program} {g : Gh} {h : BHeap} {w : World}

theorem plain_bits1 {b : BV} {u v : Value} (hb : (match b with | .int .. | .str _ | .bool _ => true | _ => false) = true) (hu : VRel P g w b u) (hv : VRel P g w b v) (n : Nat) : Instr.sameBits n u v = true := by
  cases b <;> simp at hb <;> simp only [VRel] at hu hv <;> subst hu hv
  · cases n <;> simp [Instr.sameBits]
  · cases n <;> simp [Instr.sameBits]
  · cases n <;> (simp only [Instr.sameBits, beq_bytes]; simp)

theorem plain_bits {b : BV} {u v : Value} (hb : plainKeyB b = true) (hu : VRel P g w b u) (hv : VRel P g w b v) : Instr.sameBits 10000 u v = true := by
  by_cases ha : ∃ cs, b = .agg cs
  · obtain ⟨cs, rfl⟩ := ha
    simp only [plainKeyB, List.all_eq_true] at hb
    simp only [VRel] at hu hv
    obtain ⟨us, rfl, hu⟩ := hu
    obtain ⟨vs, rfl, hv⟩ := hv
    rw [show (10000 : Nat) = 9999 + 1 from rfl]
    simp only [Instr.sameBits, Bool.and_eq_true, beq_iff_eq, List.all_eq_true]
    have h1 := hu.length
    have h2 := hv.length
    refine ⟨by simp at h1 h2; omega, fun x hx => ?_⟩
    obtain ⟨i, hi⟩ := List.getElem?_of_mem hx
    rw [List.getElem?_zip_eq_some] at hi
    obtain ⟨b, hb1, hr1⟩ := hu.get' hi.1
    obtain ⟨v', hv1, hr2⟩ := hv.get hb1
    rw [hi.2] at hv1; cases hv1
    exact plain_bits1 (hb b (List.mem_of_getElem? hb1)) hr1 hr2 _
  · refine plain_bits1 ?_ hu hv _
    cases b <;> simp [plainKeyB] at hb ⊢
    exact ha ⟨_, rfl⟩

theorem run_keyStays {es : List BEntry} {es' : Array MapEntry} {i : Nat} {k : BV} {k' : Value} (he : ERels P g w es es'.toList) (hk : VRel P g w k k') (hs : sameKeyB es i k = true) :
    (Instr.keyThatStays (((es'[i]?).map (·.key)).getD k') k').run P w = .ok k' w := by
  unfold sameKeyB at hs
  cases hb : es[i]? with
  | none => simp [hb] at hs
  | some b =>
    simp only [hb, Bool.and_eq_true] at hs
    have hkey := (beq_sound 20).1 _ _ hs.2
    obtain ⟨e, he1, he2⟩ := he.get hb
    simp only [Array.getElem?_toList] at he1
    rw [he1]
    have := he2.1
    rw [hkey] at this
    simp [Instr.keyThatStays, plain_bits hs.1 this hk]

theorem ERel.setKeyVal {k v : BV} {k' v' : Value} (hk : VRel P g w k k') (hv : VRel P g w v v') (b : BEntry) (e : MapEntry) (h : ERel P g w b e) : ERel P g w { b with key := k, val := v } { e with key := k', val := v' } := ⟨hk, hv, h.2.2⟩
theorem ERel.setKey {k : BV} {k' : Value} (hk : VRel P g w k k') (b : BEntry) (e : MapEntry) (h : ERel P g w b e) : ERel P g w { b with key := k } { e with key := k' } := ⟨hk, h.2.1, h.2.2⟩
theorem ERel.setVal {v : BV} {v' : Value} (hv : VRel P g w v v') (b : BEntry) (e : MapEntry) (h : ERel P g w b e) : ERel P g w { b with val := v } { e with val := v' } := ⟨h.1, hv, h.2.2⟩

/-- a map of B's is written -/
theorem HRel.putMap (hr : HRel P g h w) {r blk : Nat} {es es1 : List BEntry} {es1' es' : Array MapEntry} {clock clock1 : Nat} (hb : h.get r = some (.map es clock)) (hm : g.m r = some (blk, 0)) (hw : w.heap[blk]? = some (.map es' clock))
    (he : ERels P g w es1 es1'.toList) :
    HRel P g (h.put r (some (.map es1 clock1))) (w.putBlk blk (.map es1' clock1)) ∧ Ext g h w g (h.put r (some (.map es1 clock1))) (w.putBlk blk (.map es1' clock1)) := by
  refine hr.write hb hm hw rfl ⟨rfl, rfl, rfl⟩ (fun s hs => ?_) (fun hmono => ?_)
  · simp [World.shape?, hw] at hs
  · simp only [ORel]; exact ⟨trivial, es1', rfl, he.mono hmono⟩

theorem sim_mapUpdate (hr : HRel P g h w) {t : TypeId} {m k v : BV} {m' k' v' : Value} {h' : BHeap} (hm : VRel P g w m m') (hk : VRel P g w k k') (hv : VRel P g w v v') (e : mapUpdateB P h t m k v = some h') :
    ∃ w', (Instr.mapUpdate t m' k' v').run P w = .ok () w' ∧ HRel P g h' w' ∧ Ext g h w g h' w' ∧ Ph g h g h' := by
  unfold mapUpdateB at e
  split at e
  · rename_i kt et r hu
    simp only [VRel] at hm; obtain ⟨blk, hmm, rfl⟩ := hm
    split at e
    · cases e
    · rename_i hko
      have hko : keyOk P 4 kt k = true := by simpa using hko
      have hck := fun em => sim_key (P := P) (g := g) (w := w) 4 kt k k' em hk hko 10000 (by omega)
      split at e
      · rename_i es clock hb
        obtain ⟨es', hw, he⟩ := hr.map hb hmm
        split at e
        · rename_i i u hf
          split at e
          · rename_i hsk
            cases e
            obtain ⟨r', h1, h2⟩ := sim_find hr hk (keyOk_under hko) he hf
            cases r' with
            | none => simp [FRelM] at h2
            | some q =>
              obtain ⟨j, u'⟩ := q
              obtain ⟨rfl, _⟩ := h2
              have hput := hr.putMap hb hmm hw (clock1 := clock) (es1 := es.modify i fun e => { e with key := k, val := v }) (es1' := es'.modify i fun e => { e with key := k', val := v' })
                (by rw [Array.toList_modify]; exact he.modify (ERel.setKeyVal hk hv) i)
              refine ⟨_, ?_, hput.1, hput.2, Ph.put hmm _⟩
              simp only [Instr.mapUpdate, Sem.run_bind, r_underlying hu, Result.andThen_ok, r_getMap hw, hck, h1, run_keyStays he hk hsk, r_setMap hw]
          · cases e
        · rename_i hf
          cases e
          obtain ⟨r', h1, h2⟩ := sim_find hr hk (keyOk_under hko) he hf
          cases r' with
          | some q => simp [FRelM] at h2
          | none =>
            have hput := hr.putMap hb hmm hw (clock1 := clock + 1) (es1 := es ++ [{ key := k, val := v, born := clock }]) (es1' := es'.push { key := k', val := v', born := clock })
              (by rw [Array.toList_push]; exact he.append ⟨_, _, rfl, ⟨hk, hv, rfl⟩, rfl⟩)
            refine ⟨_, ?_, hput.1, hput.2, Ph.put hmm _⟩
            simp only [Instr.mapUpdate, Sem.run_bind, r_underlying hu, Result.andThen_ok, r_getMap hw, hck, h1, r_setMap hw]
        · cases e
      · cases e
  · cases e

theorem sim_mapEntry (hr : HRel P g h w) {t : TypeId} {m k v : BV} {m' k' : Value} {h' : BHeap} (hm : VRel P g w m m') (hk : VRel P g w k k') (e : mapEntryB P h t m k = some (v, h')) :
    ∃ v' w', (Instr.mapEntry t m' k').run P w = .ok v' w' ∧ HRel P g h' w' ∧ Ext g h w g h' w' ∧ Ph g h g h' ∧ VRel P g w' v v' := by
  unfold mapEntryB at e
  split at e
  · rename_i kt et r hu
    simp only [VRel] at hm; obtain ⟨blk, hmm, rfl⟩ := hm
    split at e
    · cases e
    · rename_i hko
      have hko : keyOk P 4 kt k = true := by simpa using hko
      have hck := fun em => sim_key (P := P) (g := g) (w := w) 4 kt k k' em hk hko 10000 (by omega)
      split at e
      · rename_i es clock hb
        obtain ⟨es', hw, he⟩ := hr.map hb hmm
        split at e
        · rename_i i u hf
          split at e
          · rename_i hsk
            cases e
            obtain ⟨r', h1, h2⟩ := sim_find hr hk (keyOk_under hko) he hf
            cases r' with
            | none => simp [FRelM] at h2
            | some q =>
              obtain ⟨j, u'⟩ := q
              obtain ⟨rfl, hu'⟩ := h2
              have hput := hr.putMap hb hmm hw (clock1 := clock) (es1 := es.modify i fun e => { e with key := k }) (es1' := es'.modify i fun e => { e with key := k' })
                (by rw [Array.toList_modify]; exact he.modify (ERel.setKey hk) i)
              refine ⟨.tuple #[u', goInt (((es'[i]?).map (·.born)).getD 0)], _, ?_, hput.1, hput.2, Ph.put hmm _, ?_⟩
              · simp only [Instr.mapEntry, Sem.run_bind, r_underlying hu, Result.andThen_ok, r_getMap hw, hck, h1, run_keyStays he hk hsk, r_setMap hw, Sem.run_pure]
              · simp only [VRel]
                refine ⟨_, rfl, VRels.cons (VRel.mono hput.2.mono _ _ hu') (VRels.cons ?_ VRels.nil)⟩
                unfold sameKeyB at hsk
                cases hbi : es[i]? with
                | none => simp [hbi] at hsk
                | some b =>
                  obtain ⟨e0, he1, he2⟩ := he.get hbi
                  simp only [Array.getElem?_toList] at he1
                  simp [goI, goInt, VRel, he1, he2.2.2]
          · cases e
        · rename_i hf
          obtain ⟨r', h1, h2⟩ := sim_find hr hk (keyOk_under hko) he hf
          cases r' with
          | some q => simp [FRelM] at h2
          | none =>
            cases hz : zeroB P et with
            | none => simp [hz] at e
            | some z =>
              simp [hz] at e
              obtain ⟨rfl, rfl⟩ := e
              obtain ⟨z', hz', hzr⟩ := r_zero hz w
              have hput := hr.putMap hb hmm hw (clock1 := clock + 1) (es1 := es ++ [{ key := k, val := z, born := clock }]) (es1' := es'.push { key := k', val := z', born := clock })
                (by rw [Array.toList_push]; exact he.append ⟨_, _, rfl, ⟨hk, hzr g, rfl⟩, rfl⟩)
              refine ⟨.tuple #[z', goInt clock], _, ?_, hput.1, hput.2, Ph.put hmm _, ?_⟩
              · simp only [Instr.mapEntry, Sem.run_bind, r_underlying hu, Result.andThen_ok, r_getMap hw, hck, h1, hz', r_setMap hw, Sem.run_pure]
              · simp only [VRel]
                exact ⟨_, rfl, VRels.cons (VRel.mono hput.2.mono _ _ (hzr g)) (VRels.cons (by simp [goI, goInt, VRel]) VRels.nil)⟩
        · cases e
      · cases e
  · cases e

theorem findIdx_rel {born : Int} : ∀ {es : List BEntry} {es' : List MapEntry} (i : Nat), ERels P g w es es' → es.findIdx? (fun e => (e.born : Int) == born) = some i → es'.findIdx? (fun e => (e.born : Int) == born) = some i := by
  intro es
  induction es with
  | nil => intro es' i he e; simp at e
  | cons b es ih =>
    intro es' i he e
    simp only [ERels] at he; obtain ⟨d, dr, rfl, hd, hr⟩ := he
    rw [List.findIdx?_cons] at e ⊢
    rw [← hd.2.2]
    split
    · rename_i hc; rw [if_pos hc] at e; exact e
    · rename_i hc
      rw [if_neg hc] at e
      cases hf : es.findIdx? (fun e => (e.born : Int) == born) with
      | none => simp [hf] at e
      | some j => simp [hf] at e; subst e; rw [ih j hr hf]; rfl

theorem sim_entryStore (hr : HRel P g h w) {t : TypeId} {m s v : BV} {m' s' v' : Value} {h' : BHeap} (hm : VRel P g w m m') (hs : VRel P g w s s') (hv : VRel P g w v v') (e : entryStoreB h m s v = some h') :
    ∃ w', (Instr.entryStore t m' s' v').run P w = .ok () w' ∧ HRel P g h' w' ∧ Ext g h w g h' w' ∧ Ph g h g h' := by
  unfold entryStoreB at e
  split at e
  · rename_i r q born
    simp only [VRel] at hm hs; obtain ⟨blk, hmm, rfl⟩ := hm; subst hs
    split at e
    · rename_i es clock hb
      obtain ⟨es', hw, he⟩ := hr.map hb hmm
      split at e
      · rename_i i hi
        cases e
        have hi' := findIdx_rel i he hi
        have hput := hr.putMap hb hmm hw (clock1 := clock) (es1 := es.modify i fun e => { e with val := v }) (es1' := es'.modify i fun e => { e with val := v' })
          (by rw [Array.toList_modify]; exact he.modify (ERel.setVal hv) i)
        refine ⟨_, ?_, hput.1, hput.2, Ph.put hmm _⟩
        have hi2 : es'.findIdx? (fun e => (e.born : Int) == born) = some i := by rw [← List.findIdx?_toArray, Array.toArray_toList] at hi'; exact hi'
        simp only [Instr.entryStore, Sem.run_bind, r_getMap hw, Result.andThen_ok, asInt, asIntOf, Sem.run_pure, hi2, r_setMap hw]
      · cases e
    · cases e
  · cases e

theorem sim_delete (hr : HRel P g h w) {ts : Array TypeId} {t : TypeId} {args : List BV} {args' : Array Value} {v : BV} {h' : BHeap} (ha : VRels P g w args args'.toList) (e : deleteB P h ts args = some (v, h')) :
    ∃ v' w', (Builtin.delete_ ts t args').run P w = .ok v' w' ∧ HRel P g h' w' ∧ Ext g h w g h' w' ∧ Ph g h g h' ∧ VRel P g w' v v' := by
  unfold deleteB at e
  split at e
  · rename_i mt m k ht
    obtain ⟨m', k', hl, hm, hk⟩ := ha.two
    have hargs : args' = #[m', k'] := by apply Array.ext'; simpa using hl
    subst hargs
    have hundef : ∀ w', VRel P g w' (BV.tuple []) (Value.tuple #[]) := fun w' => by simp only [VRel]; exact ⟨_, rfl, VRels.nil⟩
    split at e
    · rename_i kt et hu
      split at e
      · cases e
      · rename_i hko
        have hko : keyOk P 4 kt k = true := by simpa using hko
        have hck := fun em => sim_key (P := P) (g := g) (w := w) 4 kt k k' em hk hko 10000 (by omega)
        split at e
        · simp only [VRel] at hm; subst hm
          cases e
          refine ⟨_, w, ?_, hr, Ext.refl _ _ _, Ph.refl _ _, hundef w⟩
          simp [Builtin.delete_, ht, r_underlying hu, hck]
        · rename_i r
          simp only [VRel] at hm; obtain ⟨blk, hmm, rfl⟩ := hm
          split at e
          · rename_i es clock hb
            obtain ⟨es', hw, he⟩ := hr.map hb hmm
            split at e
            · rename_i i u hf
              cases e
              obtain ⟨r', h1, h2⟩ := sim_find hr hk (keyOk_under hko) he hf
              cases r' with
              | none => simp [FRelM] at h2
              | some q =>
                obtain ⟨j, u'⟩ := q
                obtain ⟨rfl, _⟩ := h2
                have hput := hr.putMap hb hmm hw (clock1 := clock) (es1 := es.eraseIdx i) (es1' := es'.eraseIdxIfInBounds i)
                  (by rw [Array.toList_eraseIdxIfInBounds]; exact he.eraseIdx i)
                refine ⟨_, _, ?_, hput.1, hput.2, Ph.put hmm _, hundef _⟩
                simp [Builtin.delete_, ht, r_underlying hu, hck, r_getMap hw, h1, r_setMap hw]
            · rename_i hf
              cases e
              obtain ⟨r', h1, h2⟩ := sim_find hr hk (keyOk_under hko) he hf
              cases r' with
              | some q => simp [FRelM] at h2
              | none =>
                have hput := hr.putMap hb hmm hw (clock1 := clock) (es1 := es) (es1' := es') he
                refine ⟨_, _, ?_, hput.1, hput.2, Ph.put hmm _, hundef _⟩
                simp [Builtin.delete_, ht, r_underlying hu, hck, r_getMap hw, h1, r_setMap hw]
            · cases e
          · cases e
        · cases e
    · cases e
  · cases e
end
end Go.PB

set_option linter.unusedSimpArgs false
set_option linter.unusedVariables false
namespace Go.PB
open Go

section
variable {P : Program} {g : Gh} {h : BHeap} {w : World}

/-- how an operation that answers a value ends: the model's and B's -/
def Ends (P : Program) (g : Gh) (h : BHeap) (w : World) (v : BV) (h' : BHeap) (r : Result Value) : Prop :=
  ∃ v' g' w', r = .ok v' w' ∧ HRel P g' h' w' ∧ Ext g h w g' h' w' ∧ Ph g h g' h' ∧ VRel P g' w' v v'

theorem Ends.still (hr : HRel P g h w) {v : BV} {r : Result Value} (hv : ∃ v', r = .ok v' w ∧ VRel P g w v v') : Ends P g h w v h r := by
  obtain ⟨v', h1, h2⟩ := hv
  exact ⟨v', g, w, h1, hr, Ext.refl _ _ _, Ph.refl _ _, h2⟩

theorem Ends.of_w {v : BV} {h' : BHeap} {r : Result Value} (hv : ∃ v' w', r = .ok v' w' ∧ HRel P g h' w' ∧ Ext g h w g h' w' ∧ Ph g h g h' ∧ VRel P g w' v v') : Ends P g h w v h' r := by
  obtain ⟨v', w', h1, h2, h3, h4, h5⟩ := hv
  exact ⟨v', g, w', h1, h2, h3, h4, h5⟩

/-- B makes a block, and the model makes it at once -/
theorem Ends.made (hr : HRel P g h w) {o : BObj} {v : BV} {r : Result Value} (hk : HRel P g (h.new o) w → g.m h.next = none → Real P g (h.new o) w h.next v r) : Ends P g h w v (h.new o) r := by
  obtain ⟨h1, h2⟩ := hr.newB o
  obtain ⟨v', w', e, k1, k2, k3⟩ := hk h1 hr.next_none
  refine ⟨v', _, w', e, k1, h2.trans k2, ?_, k3⟩
  intro b hb hm
  refine ⟨by rw [Gh.upd_other g (by omega)]; exact hm, ?_⟩
  rw [BHeap.get_new, if_neg (by omega)]

theorem sim_clear (hr : HRel P g h w) {ts : Array TypeId} {t : TypeId} {args : List BV} {args' : Array Value} {v : BV} {h' : BHeap} (ha : VRels P g w args args'.toList) (e : clearB P h ts args = some (v, h')) :
    Ends P g h w v h' ((Builtin.clear_ ts t args').run P w) := by
  have hundef : ∀ g w', VRel P g w' (BV.tuple []) (Value.tuple #[]) := fun g w' => by simp only [VRel]; exact ⟨_, rfl, VRels.nil⟩
  unfold clearB at e
  split at e
  · rename_i t0 x ht
    obtain ⟨x', hl, hx⟩ := ha.one
    have hargs : args' = #[x'] := by apply Array.ext'; simpa using hl
    subst hargs
    split at e
    · rename_i d hu
      simp only [VRel] at hx; subst hx; cases e
      exact Ends.still hr ⟨_, by simp only [Builtin.clear_]; simp [ht, r_underlying hu], hundef g w⟩
    · rename_i d hu
      simp only [VRel] at hx; subst hx; cases e
      exact Ends.still hr ⟨_, by simp only [Builtin.clear_]; simp [ht, r_underlying hu], hundef g w⟩
    · rename_i d hu
      simp only [VRel] at hx; obtain ⟨a, c, rfl⟩ := hx; cases e
      exact Ends.still hr ⟨_, by simp only [Builtin.clear_]; simp [ht, r_underlying hu], hundef g w⟩
    · rename_i k el r hu
      simp only [VRel] at hx; obtain ⟨blk, hmm, rfl⟩ := hx
      split at e
      · rename_i es clock hb
        cases e
        obtain ⟨es', hw, he⟩ := hr.map hb hmm
        have hput := hr.putMap hb hmm hw (clock1 := clock) (es1 := []) (es1' := #[]) (by simp [ERels])
        refine Ends.of_w ⟨_, _, ?_, hput.1, hput.2, Ph.put hmm _, hundef g _⟩
        simp only [Builtin.clear_]
        simp [ht, r_underlying hu, r_getMap hw, r_setMap hw]
      · cases e
    · cases e
  · cases e

theorem sim_range (hr : HRel P g h w) {t : TypeId} {x v : BV} {x' : Value} {h' : BHeap} (hx : VRel P g w x x') (e : rangeB P h t x = some (v, h')) : Ends P g h w v h' ((Instr.range t x').run P w) := by
  have mk : ∀ (o : BObj) (co : Obj), (∀ g' w', Mono g w g' w' → ORel P g' w' o 0 co) → (Instr.range t x').run P w = .ok (.pointer (some ⟨w.heap.size, 0, none⟩)) { w with heap := w.heap.push co } → Ends P g h w (.ptr h.next 0) (h.new o) ((Instr.range t x').run P w) := by
    intro o co ho hrun
    refine Ends.made hr fun hr' hm => ?_
    refine ⟨_, _, hrun, ?_⟩
    have h1 := hr'.real (w' := { w with heap := w.heap.push co }) (by rw [BHeap.get_new, if_pos rfl]) hm rfl ⟨rfl, rfl, rfl⟩ (fun hmono => ho _ _ hmono)
    refine ⟨h1.1, h1.2, ?_⟩
    simp only [VRel]
    exact ⟨_, _, Gh.upd_same _ _ _ _, rfl⟩
  unfold rangeB at e
  split at e
  · rename_i s hu
    simp only [VRel] at hx; subst hx; cases e
    exact mk _ (.stringIter ⟨s.toArray⟩ 0) (fun g' w' _ => by simp [ORel]) (by simp [Instr.range, r_underlying hu])
  · rename_i k el hu
    simp only [VRel] at hx; subst hx; cases e
    exact mk _ (.mapIter none 0 #[] 0) (fun g' w' _ => by simp [ORel]) (by simp [Instr.range, r_underlying hu])
  · rename_i k el m hu
    simp only [VRel] at hx; obtain ⟨blk, hmm, rfl⟩ := hx
    split at e
    · rename_i es clock hb
      cases e
      obtain ⟨es', hw, he⟩ := hr.map hb hmm
      exact mk _ _ (fun g' w' hmono => by simp only [ORel]; exact ⟨trivial, blk, hmono.mm _ _ hmm, rfl⟩) (by simp [Instr.range, r_underlying hu, r_getMap hw])
    · cases e
  · cases e

theorem HRel.iter (hr : HRel P g h w) {r blk base : Nat} {o : BObj} (hb : h.get r = some o) (hm : g.m r = some (blk, base)) : ∃ o', w.heap[blk]? = some o' ∧ ORel P g w o base o' := by
  obtain ⟨_, o', ho, hr'⟩ := hr.obj _ _ _ _ hb hm
  exact ⟨o', ho, hr'⟩

theorem all_born {es : List BEntry} : ∀ {l : List MapEntry}, ERels P g w es l → ∀ st, es.all (fun e => decide (e.born ≥ st)) = l.all (fun e => decide (e.born ≥ st)) := by
  induction es with
  | nil => intro l he st; simp only [ERels] at he; subst he; rfl
  | cons b es ih =>
    intro l he st
    simp only [ERels] at he; obtain ⟨d, dr, rfl, hd, hr'⟩ := he
    simp only [List.all_cons, hd.2.2, ih hr' st]

theorem sim_next (hr : HRel P g h w) {ty : TypeId} {it v : BV} {it' : Value} {s : Bool} {h' : BHeap} (hi : VRel P g w it it') (e : nextB h it s = some (v, h')) : Ends P g h w v h' ((Instr.next it' s ty).run P w) := by
  unfold nextB at e
  split at e
  · rename_i r
    simp only [VRel] at hi; obtain ⟨blk, base, hm, rfl⟩ := hi
    split at e
    · -- a string's
      rename_i str pos hb
      obtain ⟨o', hw, ho⟩ := hr.iter hb hm
      simp only [ORel] at ho
      obtain ⟨rfl, rfl⟩ := ho
      have hget : (getObj blk).run P w = .ok (.stringIter ⟨str.toArray⟩ pos) w := by simp [getObj, Sem.run, hw]
      split at e
      · rename_i hlt
        cases hcw : Utf8.decode ⟨str.toArray⟩ pos with
        | mk c wd =>
          simp only [hcw, Option.some.injEq, Prod.mk.injEq] at e
          obtain ⟨rfl, rfl⟩ := e
          have hput := hr.write (o' := .strIter str (pos + wd)) (co' := .stringIter ⟨str.toArray⟩ (pos + wd)) hb hm hw (w' := w.putBlk blk (.stringIter ⟨str.toArray⟩ (pos + wd))) rfl ⟨rfl, rfl, rfl⟩
            (fun s hs => by simp [World.shape?, hw] at hs) (fun _ => by simp [ORel])
          refine Ends.of_w ⟨.tuple #[.bool true, goInt pos, .int .i32 c], w.putBlk blk (.stringIter ⟨str.toArray⟩ (pos + wd)), ?_, hput.1, hput.2, Ph.put hm _, ?_⟩
          · have e1 : pos < (ByteArray.mk str.toArray).size := by simpa [ByteArray.size] using hlt
            have hset : (setObj blk (.stringIter ⟨str.toArray⟩ (pos + wd))).run P w = .ok () (w.putBlk blk (.stringIter ⟨str.toArray⟩ (pos + wd))) := by simp [setObj, Sem.run, hw, World.putBlk]
            simp only [Instr.next, Nat.add_zero, Sem.run_bind, hget, Result.andThen_ok]
            rw [if_pos e1]
            simp only [hcw, Sem.run_bind, hset, Result.andThen_ok, Sem.run_pure]
          · simp only [VRel]
            exact ⟨_, rfl, VRels.cons (by simp [VRel]) (VRels.cons (by simp [VRel, goI, goInt]) (VRels.cons (by simp [VRel]) VRels.nil))⟩
      · rename_i hlt
        cases e
        refine Ends.still hr ⟨.tuple #[.bool false], ?_, by simp only [VRel]; exact ⟨_, rfl, VRels.cons (by simp [VRel]) VRels.nil⟩⟩
        have e1 : ¬ pos < (ByteArray.mk str.toArray).size := by simpa [ByteArray.size] using hlt
        simp only [Instr.next, Nat.add_zero, Sem.run_bind, hget, Result.andThen_ok]
        rw [if_neg e1]; rfl
    · rename_i since seen st hb
      obtain ⟨o', hw, ho⟩ := hr.iter hb hm
      simp only [ORel] at ho
      obtain ⟨rfl, rfl⟩ := ho
      have hget : (getObj blk).run P w = .ok (.mapIter none since seen.toArray st) w := by simp [getObj, Sem.run, hw]
      cases e
      refine Ends.still hr ⟨.tuple #[.bool false], ?_, by simp only [VRel]; exact ⟨_, rfl, VRels.cons (by simp [VRel]) VRels.nil⟩⟩
      simp only [Instr.next, Nat.add_zero, Sem.run_bind, hget, Result.andThen_ok]; rfl
    · rename_i m since seen st hb
      obtain ⟨o', hw, ho⟩ := hr.iter hb hm
      simp only [ORel] at ho
      obtain ⟨rfl, blk2, hm2, rfl⟩ := ho
      have hget : (getObj blk).run P w = .ok (.mapIter (some blk2) since seen.toArray st) w := by simp [getObj, Sem.run, hw]
      split at e
      · rename_i es clock hb2
        obtain ⟨es', hw2, he⟩ := hr.map hb2 hm2
        have hget2 := r_getMap (P := P) hw2
        have hl := he.length
        have h1 : (!seen.toArray.isEmpty && !es'.isEmpty && es'.all (fun e => decide (e.born ≥ st))) = (!seen.isEmpty && !es.isEmpty && es.all (fun e => decide (e.born ≥ st))) := by
          have a1 : seen.toArray.isEmpty = seen.isEmpty := by simp
          have a2 : es'.isEmpty = es.isEmpty := by
            rw [Bool.eq_iff_iff, Array.isEmpty_iff_size_eq_zero, List.isEmpty_iff_length_eq_zero]
            simp at hl; omega
          have a3 : es'.all (fun e => decide (e.born ≥ st)) = es.all (fun e => decide (e.born ≥ st)) := by
            rw [← Array.all_toList]
            exact (all_born he st).symm
          rw [a1, a2, a3]
        split at e
        · cases e
        · rename_i hc
          have hleft := he.filter (p := fun e => !seen.contains e.born) (q := fun e => !seen.toArray.contains e.born) (fun b e hbe => by rw [hbe.2.2]; simp)
          have hold := hleft.filter (p := fun e => decide (e.born < since)) (q := fun e => decide (e.born < since)) (fun b e hbe => by rw [hbe.2.2])
          have hnew := hleft.filter (p := fun e => decide (e.born ≥ since)) (q := fun e => decide (e.born ≥ since)) (fun b e hbe => by rw [hbe.2.2])
          have eold : ((es'.filter fun e => !seen.toArray.contains e.born).filter fun e => decide (e.born < since)).toList = ((es'.toList.filter fun e => !seen.toArray.contains e.born).filter fun e => decide (e.born < since)) := by simp
          have enew : ((es'.filter fun e => !seen.toArray.contains e.born).filter fun e => decide (e.born ≥ since)).toList = ((es'.toList.filter fun e => !seen.toArray.contains e.born).filter fun e => decide (e.born ≥ since)) := by simp
          have hcond : (!seen.toArray.isEmpty && !es'.isEmpty && es'.all (fun e => decide (e.born ≥ st))) = false := by rw [h1]; simpa using hc
          dsimp only at e
          generalize hO : (es.filter fun e => !seen.contains e.born).filter (fun e => decide (e.born < since)) = O at e hold
          generalize hN : (es.filter fun e => !seen.contains e.born).filter (fun e => decide (e.born ≥ since)) = N at e hnew
          generalize hO' : ((es'.filter fun e => !seen.toArray.contains e.born).filter fun e => decide (e.born < since)) = O' at eold
          generalize hN' : ((es'.filter fun e => !seen.toArray.contains e.born).filter fun e => decide (e.born ≥ since)) = N' at enew
          rw [← eold] at hold
          rw [← enew] at hnew
          split at e
          · -- nothing is left
            cases e
            simp only [ERels] at hold hnew
            have hO0 : O' = #[] := by apply Array.ext'; simpa using hold
            have hN0 : N' = #[] := by apply Array.ext'; simpa using hnew
            refine Ends.still hr ⟨.tuple #[.bool false], ?_, by simp only [VRel]; exact ⟨_, rfl, VRels.cons (by simp [VRel]) VRels.nil⟩⟩
            simp only [Instr.next, Nat.add_zero, Sem.run_bind, hget, hget2, Result.andThen_ok, hcond, Bool.false_eq_true, if_false, hO', hN', hO0, hN0]
            simp [Question.forced]
          · -- one
            rename_i b
            simp only [ERels] at hold hnew
            obtain ⟨d, dr, hde, hd, rfl⟩ := hold
            have hO0 : O' = #[d] := by apply Array.ext'; simpa using hde
            have hN0 : N' = #[] := by apply Array.ext'; simpa using hnew
            cases e
            have hput := hr.write (o' := .mapIter (some m) since (seen ++ [b.born]) clock) (co' := .mapIter (some blk2) since (seen.toArray.push d.born) clock) hb hm hw (w' := w.putBlk blk (.mapIter (some blk2) since (seen.toArray.push d.born) clock)) rfl ⟨rfl, rfl, rfl⟩
              (fun s hs => by simp [World.shape?, hw] at hs) (fun hmono => by simp only [ORel]; exact ⟨trivial, blk2, hmono.mm _ _ hm2, by rw [hd.2.2]; simp⟩)
            refine Ends.of_w ⟨.tuple #[.bool true, d.key, d.val], w.putBlk blk (.mapIter (some blk2) since (seen.toArray.push d.born) clock), ?_, hput.1, hput.2, Ph.put hm _, ?_⟩
            · simp only [Instr.next, Nat.add_zero, Sem.run_bind, hget, hget2, Result.andThen_ok, hcond, Bool.false_eq_true, if_false, hO', hN', hO0, hN0]
              simp [Question.forced, setObj, Sem.run, hw, World.putBlk]
            · simp only [VRel]
              exact ⟨_, rfl, VRels.cons (by simp [VRel]) (VRels.cons (VRel.mono hput.2.mono _ _ hd.1) (VRels.cons (VRel.mono hput.2.mono _ _ hd.2.1) VRels.nil))⟩
          · cases e
      · cases e
    · cases e
  · cases e

theorem find_rel {stamp : Nat} : ∀ {es : List BEntry} {es' : List MapEntry} {b : BEntry}, ERels P g w es es' → es.find? (fun e => e.born == stamp) = some b → ∃ e, es'.find? (fun e => e.born == stamp) = some e ∧ ERel P g w b e := by
  intro es
  induction es with
  | nil => intro es' b he e; simp at e
  | cons x es ih =>
    intro es' b he e
    simp only [ERels] at he; obtain ⟨d, dr, rfl, hd, hr⟩ := he
    rw [List.find?_cons] at e ⊢
    rw [← hd.2.2]
    split at e
    · rename_i hc; cases e; exact ⟨d, by simp [hc], hd⟩
    · rename_i hc
      obtain ⟨e', h1, h2⟩ := ih hr e
      exact ⟨e', by simp [hc, h1], h2⟩

theorem sim_entry (hr : HRel P g h w) {it v : BV} {it' : Value} (hi : VRel P g w it it') (e : entryB h it = some v) : ∃ v', (Instr.entry it').run P w = .ok v' w ∧ VRel P g w v v' := by
  unfold entryB at e
  split at e
  · rename_i r
    simp only [VRel] at hi; obtain ⟨blk, base, hm, rfl⟩ := hi
    split at e
    · rename_i m since seen st hb
      obtain ⟨o', hw, ho⟩ := hr.iter hb hm
      simp only [ORel] at ho
      obtain ⟨rfl, blk2, hm2, rfl⟩ := ho
      have hget : (getObj blk).run P w = .ok (.mapIter (some blk2) since seen.toArray st) w := by simp [getObj, Sem.run, hw]
      split at e
      · rename_i stamp es clock hs hb2
        obtain ⟨es', hw2, he⟩ := hr.map hb2 hm2
        split at e
        · cases e
        · rename_i hc
          have hc : clock = st := by simpa using hc
          subst hc
          split at e
          · rename_i b hf
            cases e
            obtain ⟨d, h1, h2⟩ := find_rel he hf
            refine ⟨.tuple #[d.key, d.val], ?_, by simp only [VRel]; exact ⟨_, rfl, VRels.cons h2.1 (VRels.cons h2.2.1 VRels.nil)⟩⟩
            have h1' : es'.find? (fun e => e.born == stamp) = some d := by rw [← Array.find?_toList]; exact h1
            have hback : seen.toArray.back? = some stamp := by simpa using hs
            simp only [Instr.entry, Nat.add_zero, Sem.run_bind, hget, Result.andThen_ok, hback, r_getMap hw2]
            rw [if_neg (by simp)]
            simp [h1']
          · cases e
      · cases e
    · cases e
  · cases e

theorem sim_len (hr : HRel P g h w) {ts : Array TypeId} {t : TypeId} {args : List BV} {args' : Array Value} {v : BV} (ha : VRels P g w args args'.toList) (e : lenB P h ts args = some v) :
    ∃ v', (Builtin.len_ ts t args').run P w = .ok v' w ∧ VRel P g w v v' := by
  unfold lenB at e
  split at e
  · rename_i t0 x ht
    obtain ⟨x', hl, hx⟩ := ha.one
    have hargs : args' = #[x'] := by apply Array.ext'; simpa using hl
    subst hargs
    have fin : ∀ (d : TypeDesc) (n : Nat), P.underlying t0 = some d → (∀ K, (Builtin.len_ ts t #[x']).run P w = K → K = .ok (goInt n) w) → some (goI n) = some v → ∃ v', (Builtin.len_ ts t #[x']).run P w = .ok v' w ∧ VRel P g w v v' := fun d n hu hK hv => by
      cases hv
      exact ⟨goInt n, hK _ rfl, by simp [VRel, goI, goInt]⟩
    split at e
    · rename_i s hu
      simp only [VRel] at hx; subst hx
      have e1 : (ByteArray.mk s.toArray).size = s.length := by simp [ByteArray.size]
      have e2 : (Builtin.len_ ts t #[.string ⟨s.toArray⟩]).run P w = .ok (goInt s.length) w := by
        simp only [Builtin.len_]
        simp [ht, r_underlying hu, e1]
      exact fin _ _ hu (fun K hK => by rw [← hK]; exact e2) e
    · rename_i n el hu
      refine fin _ _ hu (fun K hK => ?_) e
      rw [← hK]
      simp only [Builtin.len_]
      simp [ht, r_underlying hu]
    · rename_i el hu
      simp only [VRel] at hx; subst hx
      exact fin _ _ hu (fun K hK => by rw [← hK]; simp [Builtin.len_, ht, r_underlying hu]) e
    · rename_i el hu
      simp only [VRel] at hx; obtain ⟨a, c, rfl⟩ := hx
      exact fin _ _ hu (fun K hK => by rw [← hK]; simp [Builtin.len_, ht, r_underlying hu]) e
    · rename_i el b o n c hu
      simp only [VRel] at hx; obtain ⟨_, _, _, _, rfl, _⟩ := hx
      exact fin _ _ hu (fun K hK => by rw [← hK]; simp [Builtin.len_, ht, r_underlying hu]) e
    · rename_i el cs n c hu
      simp only [VRel] at hx; obtain ⟨_, _, _, rfl, _⟩ := hx
      exact fin _ _ hu (fun K hK => by rw [← hK]; simp [Builtin.len_, ht, r_underlying hu]) e
    · rename_i k el hu
      simp only [VRel] at hx; subst hx
      exact fin _ _ hu (fun K hK => by rw [← hK]; simp [Builtin.len_, ht, r_underlying hu]) e
    · rename_i k el r hu
      simp only [VRel] at hx; obtain ⟨blk, hm, rfl⟩ := hx
      split at e
      · rename_i es clock hb
        obtain ⟨es', hw, he⟩ := hr.map hb hm
        have hl := he.length
        refine fin _ es.length hu (fun K hK => ?_) e
        rw [← hK]
        simp at hl
        simp [Builtin.len_, ht, r_underlying hu, r_getMap hw, hl]
      · cases e
    · cases e
  · cases e

theorem sim_fold {f : BV → BV → Option BV} {f' : Value → Value → Sem Value} (hf : ∀ x y z x' y', VRel P g w x x' → VRel P g w y y' → f x y = some z → ∃ z', (f' x' y').run P w = .ok z' w ∧ VRel P g w z z') :
    ∀ (l : List BV) (l' : List Value) (x v : BV) (x' : Value), VRels P g w l l' → VRel P g w x x' → l.foldlM f x = some v → ∃ v', (l'.foldlM f' x').run P w = .ok v' w ∧ VRel P g w v v' := by
  intro l
  induction l with
  | nil => intro l' x v x' hl hx e; simp only [VRels] at hl; subst hl; simp at e; subst e; exact ⟨x', by simp, hx⟩
  | cons y l ih =>
    intro l' x v x' hl hx e
    simp only [VRels] at hl; obtain ⟨y', lr, rfl, hy, hl⟩ := hl
    simp only [List.foldlM_cons] at e ⊢
    cases hz : f x y with
    | none => simp [hz] at e
    | some z =>
      simp [hz] at e
      obtain ⟨z', h1, h2⟩ := hf _ _ _ _ _ hx hy hz
      obtain ⟨v', h3, h4⟩ := ih lr z v z' hl h2 e
      exact ⟨v', by simp [h1, h3], h4⟩

theorem sim_min2 {x y z : BV} {x' y' : Value} (hx : VRel P g w x x') (hy : VRel P g w y y') (e : minB x y = some z) : ∃ z', (Builtin.min2 x' y').run P w = .ok z' w ∧ VRel P g w z z' := by
  unfold minB at e
  split at e
  · simp only [VRel] at hx hy; subst hx hy; cases e; exact ⟨_, rfl, by simp [VRel]⟩
  · cases e
theorem sim_max2 {x y z : BV} {x' y' : Value} (hx : VRel P g w x x') (hy : VRel P g w y y') (e : maxB x y = some z) : ∃ z', (Builtin.max2 x' y').run P w = .ok z' w ∧ VRel P g w z z' := by
  unfold maxB at e
  split at e
  · simp only [VRel] at hx hy; subst hx hy; cases e; exact ⟨_, rfl, by simp [VRel]⟩
  · cases e
end
end Go.PB

