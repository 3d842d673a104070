/- Drawn regions: what 'drawOk' says; operations without an effect. -/
import Derived.Test.YthjdcddpoihcdaaGreatDoorPosD1
set_option linter.unusedSimpArgs false
set_option linter.unusedVariables false
namespace Go.PB
open Go

theorem foldBits_of (acc : List Nat) : ∀ (es : List Edge) (s k : Nat), (s.testBit k = true ∨ ∃ e ∈ es, Region.binds .any e = true ∧ (k = e.on ∨ (acc.getD e.on 0).testBit k = true)) →
    (es.foldl (fun s e => if Region.binds .any e then s ||| 2 ^ e.on ||| acc.getD e.on 0 else s) s).testBit k = true := by
  intro es
  induction es with
  | nil => intro s k h; rcases h with h | ⟨e, he, _⟩; · exact h
           · simp at he
  | cons e es ih =>
    intro s k h
    simp only [List.foldl_cons]
    apply ih
    rcases h with h | ⟨e', he, hb, hc⟩
    · left
      by_cases hb : Region.binds .any e = true
      · rw [if_pos hb, Nat.testBit_or, Nat.testBit_or, h]; rfl
      · rw [if_neg hb]; exact h
    · rcases List.mem_cons.1 he with rfl | he
      · left
        rw [if_pos hb, Nat.testBit_or, Nat.testBit_or]
        rcases hc with rfl | hc
        · rw [Nat.testBit_two_pow_self]; simp
        · rw [hc]; simp
      · exact .inr ⟨e', he, hb, hc⟩

theorem aheadGo_at : ∀ (l : List Oper) (acc : List Nat) (j : Nat) (o : Oper), l[j]? = some o →
    (aheadGo l acc).getD (acc.length + j) 0 = o.after.toList.foldl (fun s e => if Region.binds .any e then s ||| 2 ^ e.on ||| ((aheadGo l acc).take (acc.length + j)).getD e.on 0 else s) 0 := by
  intro l
  induction l with
  | nil => intro acc j o h; simp at h
  | cons x l ih =>
    intro acc j o hj
    cases j with
    | zero =>
      simp at hj; subst hj
      simp only [aheadGo, Nat.add_zero]
      generalize hx : (x.after.toList.foldl (fun s e => if Region.binds .any e then s ||| 2 ^ e.on ||| acc.getD e.on 0 else s) 0) = b
      have h1 := (aheadGo_spec l (acc ++ [b])).1
      have hacc : (aheadGo l (acc ++ [b])).take acc.length = acc := by
        have := congrArg (List.take acc.length) h1
        simpa [List.take_take] using this
      have hb : (aheadGo l (acc ++ [b])).getD acc.length 0 = b := by
        have := congrArg (fun l => l.getD acc.length 0) h1
        simp only [List.getD, List.getElem?_take, List.length_append, List.length_cons, List.length_nil] at this
        rw [if_pos (by omega)] at this
        simpa [List.getD] using this
      rw [hb, hacc, hx]
    | succ j =>
      simp at hj
      simp only [aheadGo]
      have := ih (acc ++ [(x.after.toList.foldl (fun s e => if Region.binds .any e then s ||| 2 ^ e.on ||| acc.getD e.on 0 else s) 0)]) j o hj
      simpa [Nat.add_assoc, Nat.add_comm 1 j] using this

theorem bits_of {ops : Array Oper} {i k : Nat} {o : Oper} {e : Edge} (ho : ops[i]? = some o) (he : e ∈ o.after.toList) (hb : Region.binds .any e = true)
    (hk : k = e.on ∨ (e.on < i ∧ testB (aheadBits ops) e.on k = true)) : testB (aheadBits ops) i k = true := by
  unfold testB aheadBits at *
  have := aheadGo_at ops.toList [] i o (by simpa using ho)
  simp only [List.length_nil, Nat.zero_add] at this
  rw [this]
  refine foldBits_of _ _ _ _ (.inr ⟨e, he, hb, ?_⟩)
  rcases hk with hk | ⟨h1, h2⟩
  · exact .inl hk
  · right
    simp only [List.getD, List.getElem?_take, if_pos h1]
    simpa [List.getD] using h2

theorem bits_trans {ops : Array Oper} (hlow : ∀ (i : Nat) o, ops[i]? = some o → ∀ e ∈ o.after.toList, Region.binds .any e = true → e.on < i) : ∀ (i k j : Nat), testB (aheadBits ops) i k = true → testB (aheadBits ops) k j = true → testB (aheadBits ops) i j = true := by
  intro i
  induction i using Nat.strongRecOn with
  | _ i ih =>
    intro k j h1 h2
    obtain ⟨o, ho, e, he, hb, hc⟩ := bits_spec h1
    rcases hc with rfl | ⟨hlt, hc⟩
    · exact bits_of ho he hb (.inr ⟨hlow i o ho e he hb, h2⟩)
    · exact bits_of ho he hb (.inr ⟨hlt, ih _ hlt _ _ hc h2⟩)

theorem pairsOk_spec {bits : List Nat} : ∀ {l : List Nat}, pairsOk bits l = true → l.Pairwise fun a b => testB bits b a = true := by
  intro l
  induction l with
  | nil => intro _; exact List.Pairwise.nil
  | cons a l ih =>
    intro h
    simp only [pairsOk, Bool.and_eq_true, List.all_eq_true] at h
    exact List.pairwise_cons.2 ⟨fun b hb => h.1 b hb, ih h.2⟩

structure OkAt (ops : Array Oper) (i : Nat) (o : Oper) : Prop where
  low : ∀ e ∈ o.after.toList, Region.binds .any e = true → e.on < i
  dst : ∀ t, o.dst = some t → writerOf ops t = some i
  names : ∀ t, t ∈ namesOf o → ∀ k, writerOf ops t = some k → testB (aheadBits ops) i k = true ∨ testB (aheadBits ops) k i = true ∨ k = i
  guard : ∀ j b, o.guard = some (j, b) → testB (aheadBits ops) i j = true

theorem drawOk_spec {ops : Array Oper} (h : drawOk ops = true) : (∀ (i : Nat) o, ops[i]? = some o → OkAt ops i o) ∧ (drawEffs ops).Pairwise fun a b => testB (aheadBits ops) b a = true := by
  unfold drawOk at h
  simp only [Bool.and_eq_true] at h
  obtain ⟨h1, h2⟩ := h
  constructor
  · intro i o ho
    have hlt : i < ops.toList.length := by have := (Array.getElem?_eq_some_iff.1 ho).1; simpa using this
    rw [List.all_eq_true] at h1
    have := h1 i (List.mem_range.2 hlt)
    have hol : ops.toList[i]? = some o := by simpa using ho
    rw [hol] at this
    simp only [Bool.and_eq_true, List.all_eq_true] at this
    obtain ⟨⟨⟨a, b⟩, c⟩, d⟩ := this
    refine ⟨fun e he hb => ?_, fun t ht => ?_, fun t ht k hk => ?_, fun j b' hg => ?_⟩
    · have := a e he; simpa [hb] using this
    · rw [ht] at b; simpa using b
    · have := c t ht
      rw [hk] at this
      simp only [Bool.or_eq_true, beq_iff_eq] at this
      rcases this with (h | h) | h
      · exact .inl h
      · exact .inr (.inl h)
      · exact .inr (.inr h)
    · rw [hg] at d; exact d
  · have := pairsOk_spec h2
    unfold drawEffs
    simpa using this
end Go.PB
