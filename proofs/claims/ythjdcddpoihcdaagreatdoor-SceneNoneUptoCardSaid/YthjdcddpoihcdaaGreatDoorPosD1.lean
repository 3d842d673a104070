/- The orders that a drawn region may come in. -/
import Derived.Test.YthjdcddpoihcdaaGreatDoorPosA
import Derived.Orders
set_option linter.unusedSimpArgs false
set_option linter.unusedVariables false
namespace Go.PB
open Go

theorem leastFalse {l : Array Bool} {i : Nat} (hi : l[i]? = some false) : ∃ (m : Nat), l[m]? = some false ∧ ∀ (j : Nat), j < m → l[j]? = some true := by
  induction i using Nat.strongRecOn with
  | _ i ih =>
    by_cases hall : ∀ (j : Nat), j < i → l[j]? = some true
    · exact ⟨i, hi, hall⟩
    · have : ∃ (j : Nat), j < i ∧ l[j]? ≠ some true := by
        apply Classical.byContradiction
        intro hn
        exact hall fun j hj => Classical.byContradiction fun hne => hn ⟨j, hj, hne⟩
      obtain ⟨j, hj, hne⟩ := this
      have hlt : j < l.size := by
        have := (Array.getElem?_eq_some_iff.1 hi).1; omega
      refine ih j hj ?_
      rw [Array.getElem?_eq_getElem hlt] at hne ⊢
      cases hb : l[j] with
      | true => rw [hb] at hne; exact absurd rfl hne
      | false => rfl

theorem foldBits (acc : List Nat) : ∀ (es : List Edge) (s k : Nat), (es.foldl (fun s e => if Region.binds .any e then s ||| 2 ^ e.on ||| acc.getD e.on 0 else s) s).testBit k = true →
    s.testBit k = true ∨ ∃ e ∈ es, Region.binds .any e = true ∧ (k = e.on ∨ (acc.getD e.on 0).testBit k = true) := by
  intro es
  induction es with
  | nil => intro s k h; exact .inl h
  | cons e es ih =>
    intro s k h
    simp only [List.foldl_cons] at h
    rcases ih _ k h with h1 | ⟨e', h1, h2, h3⟩
    · by_cases hb : Region.binds .any e = true
      · rw [if_pos hb] at h1
        rw [Nat.testBit_or, Nat.testBit_or, Bool.or_eq_true, Bool.or_eq_true] at h1
        rcases h1 with (h1 | h1) | h1
        · exact .inl h1
        · rw [Nat.testBit_two_pow] at h1
          have h2 : e.on = k := by simpa using h1
          exact .inr ⟨e, by simp, hb, .inl h2.symm⟩
        · exact .inr ⟨e, by simp, hb, .inr h1⟩
      · rw [if_neg hb] at h1; exact .inl h1
    · exact .inr ⟨e', by simp [h1], h2, h3⟩

theorem aheadGo_spec : ∀ (l : List Oper) (acc : List Nat), (aheadGo l acc).take acc.length = acc ∧
    ∀ (j : Nat) (o : Oper), l[j]? = some o → ∀ k, ((aheadGo l acc).getD (acc.length + j) 0).testBit k = true →
      ∃ e ∈ o.after.toList, Region.binds .any e = true ∧ (k = e.on ∨ (((aheadGo l acc).take (acc.length + j)).getD e.on 0).testBit k = true) := by
  intro l
  induction l with
  | nil => intro acc; exact ⟨by simp [aheadGo], fun j o h => by simp at h⟩
  | cons x l ih =>
    intro acc
    simp only [aheadGo]
    generalize hx : (x.after.toList.foldl (fun s e => if Region.binds .any e then s ||| 2 ^ e.on ||| acc.getD e.on 0 else s) 0) = b
    obtain ⟨h1, h2⟩ := ih (acc ++ [b])
    have hacc : (aheadGo l (acc ++ [b])).take acc.length = acc := by
      have := congrArg (List.take acc.length) h1
      simpa [List.take_take] using this
    have hb : (aheadGo l (acc ++ [b])).getD acc.length 0 = b := by
      have := congrArg (fun l => l.getD acc.length 0) h1
      simp only [List.getD, List.getElem?_take, List.length_append, List.length_cons, List.length_nil] at this
      rw [if_pos (by omega)] at this
      simpa [List.getD] using this
    refine ⟨hacc, fun j o hj k hk => ?_⟩
    cases j with
    | zero =>
      simp at hj; subst hj
      simp only [Nat.add_zero] at hk ⊢
      rw [hb, ← hx] at hk
      rw [hacc]
      rcases foldBits acc _ _ _ hk with h0 | h0
      · simp at h0
      · exact h0
    | succ j =>
      simp at hj
      have := h2 j o hj k (by simpa [Nat.add_assoc, Nat.add_comm 1 j] using hk)
      simpa [Nat.add_assoc, Nat.add_comm 1 j] using this

theorem bits_spec {ops : Array Oper} {i k : Nat} (h : testB (aheadBits ops) i k = true) : ∃ o, ops[i]? = some o ∧ ∃ e ∈ o.after.toList, Region.binds .any e = true ∧ (k = e.on ∨ (e.on < i ∧ testB (aheadBits ops) e.on k = true)) := by
  unfold testB aheadBits at *
  cases ho : ops.toList[i]? with
  | none =>
    exfalso
    have hlen : ∀ (l : List Oper) (acc : List Nat), (aheadGo l acc).length = acc.length + l.length := by
      intro l
      induction l with
      | nil => intro acc; simp [aheadGo]
      | cons x l ih => intro acc; simp only [aheadGo, ih]; simp; omega
    have : (aheadGo ops.toList []).getD i 0 = 0 := by
      rw [List.getElem?_eq_none_iff] at ho
      simp only [List.getD]
      rw [List.getElem?_eq_none (by rw [hlen]; simpa using ho)]
      rfl
    rw [this] at h; simp at h
  | some o =>
    obtain ⟨e, h1, h2, h3⟩ := (aheadGo_spec ops.toList []).2 i o ho k (by simpa using h)
    refine ⟨o, by simpa using ho, e, h1, h2, ?_⟩
    rcases h3 with h3 | h3
    · exact .inl h3
    · right
      simp only [List.length_nil, Nat.zero_add, List.getD, List.getElem?_take] at h3
      split at h3
      · rename_i hlt; exact ⟨hlt, by simpa [List.getD] using h3⟩
      · simp at h3

theorem bits_lt {ops : Array Oper} (hlow : ∀ i o, ops[i]? = some o → ∀ e ∈ o.after.toList, Region.binds .any e = true → e.on < i) : ∀ (i k : Nat), testB (aheadBits ops) i k = true → k < i := by
  intro i
  induction i using Nat.strongRecOn with
  | _ i ih =>
    intro k h
    obtain ⟨o, ho, e, he, hb, hk⟩ := bits_spec h
    have := hlow i o ho e he hb
    rcases hk with rfl | ⟨h1, h2⟩
    · exact this
    · have := ih e.on h1 k h2; omega

/-- the list that the model makes of a region's operations -/
theorem linear_spec {ops : Array Oper} (hlow : ∀ i o, ops[i]? = some o → ∀ e ∈ o.after.toList, Region.binds .any e = true → e.on < i) :
    ∀ (fuel t : Nat) (listed : Array Bool), listed.size = ops.size → (∀ i, listed[i]? = some true → ∀ k, testB (aheadBits ops) i k = true → listed[k]? = some true) →
      let S := Region.linearise.go .any ops fuel t listed []
      S.Nodup ∧ (∀ i ∈ S, listed[i]? = some false) ∧ Ordered (aheadBits ops) S ∧ ((listed.toList.filter (!·)).length ≤ fuel → ∀ i, listed[i]? = some false → i ∈ S) := by
  intro fuel
  induction fuel with
  | zero =>
    intro t listed hsz hcl
    simp only [Region.linearise.go]
    refine ⟨by simp, by simp, by simp [Ordered], fun hle i hi => ?_⟩
    exfalso
    have : false ∈ listed.toList.filter (!·) := by
      rw [List.mem_filter]; exact ⟨by rw [← Array.getElem?_toList] at hi; exact List.mem_of_getElem? hi, rfl⟩
    have := List.length_pos_of_mem this
    omega
  | succ fuel ih =>
    intro t listed hsz hcl
    simp only [Region.linearise.go]
    generalize hrs : (List.range ops.size).filter (fun i => !listed.getD i true && ((ops[i]?).map (·.after.all fun e => !Region.binds .any e || listed.getD e.on false)).getD false) = rs
    have hmem : ∀ i, i ∈ rs ↔ (i < ops.size ∧ listed[i]? = some false ∧ ∃ o, ops[i]? = some o ∧ ∀ e ∈ o.after.toList, Region.binds .any e = true → listed[e.on]? = some true) := by
      intro i
      rw [← hrs, List.mem_filter, List.mem_range, Bool.and_eq_true]
      constructor
      · rintro ⟨h1, h2, h3⟩
        refine ⟨h1, ?_, ?_⟩
        · simp only [Array.getD_eq_getD_getElem?, Bool.not_eq_true'] at h2
          cases hl : listed[i]? with
          | none => simp [hl] at h2
          | some b => simp [hl] at h2; rw [h2]
        · cases ho : ops[i]? with
          | none => simp [ho] at h3
          | some o =>
            simp only [ho, Option.map_some, Option.getD_some] at h3
            refine ⟨o, rfl, fun e he hb => ?_⟩
            have := Array.all_eq_true_iff_forall_mem.1 h3 e (by simpa using he)
            simp only [hb, Bool.not_true, Bool.false_or, Array.getD_eq_getD_getElem?] at this
            cases hl : listed[e.on]? with
            | none => simp [hl] at this
            | some b => simp [hl] at this; rw [this]
      · rintro ⟨h1, h2, o, h3, h4⟩
        refine ⟨h1, by simp [Array.getD_eq_getD_getElem?, h2], ?_⟩
        simp only [h3, Option.map_some, Option.getD_some]
        rw [Array.all_eq_true_iff_forall_mem]
        intro e he
        by_cases hb : Region.binds .any e = true
        · simp [hb, Array.getD_eq_getD_getElem?, h4 e (by simpa using he) hb]
        · simp [hb]
    cases hr : rs[t % rs.length]? with
    | none =>
      simp only [List.reverse_nil]
      refine ⟨by simp, by simp, by simp [Ordered], fun _ i hi => ?_⟩
      exfalso
      -- the least one that is not listed is ready
      have hne : rs ≠ [] := by
        obtain ⟨m, hmin, hleast⟩ := leastFalse hi
        have hlt : m < ops.size := by
          have := (Array.getElem?_eq_some_iff.1 hmin).1; omega
        have : m ∈ rs := (hmem _).2 ⟨hlt, hmin, _, Array.getElem?_eq_getElem hlt, fun e he hb => hleast _ (hlow _ _ (Array.getElem?_eq_getElem hlt) e he hb)⟩
        intro h0; rw [h0] at this; simp at this
      have : t % rs.length < rs.length := Nat.mod_lt _ (List.length_pos_iff.2 hne)
      rw [List.getElem?_eq_none_iff] at hr
      omega
    | some i =>
      dsimp only
      rw [linearise_go_acc]
      simp only [List.reverse_cons, List.reverse_nil, List.nil_append, List.singleton_append]
      have hi := (hmem i).1 (List.mem_of_getElem? hr)
      obtain ⟨hlt, hfalse, o, ho, hedges⟩ := hi
      -- all that comes ahead of i is listed
      have hahead : ∀ k, testB (aheadBits ops) i k = true → listed[k]? = some true := by
        intro k hk
        obtain ⟨o', ho', e, he, hb, hc⟩ := bits_spec hk
        rw [ho] at ho'; cases ho'
        have h1 := hedges e he hb
        rcases hc with rfl | ⟨_, h2⟩
        · exact h1
        · exact hcl _ h1 _ h2
      have hltl : i < listed.size := by omega
      have hset : ∀ k, (listed.setIfInBounds i true)[k]? = if k = i then some true else listed[k]? := fun k => by
        by_cases hk : k = i
        · subst hk; rw [if_pos rfl, Array.getElem?_setIfInBounds_self_of_lt hltl]
        · rw [if_neg hk, Array.getElem?_setIfInBounds_ne (by omega)]
      obtain ⟨n1, n2, n3, n4⟩ := ih (t / rs.length) (listed.setIfInBounds i true) (by simpa using hsz) (by
        intro j hj k hk
        rw [hset] at hj ⊢
        by_cases hki : k = i
        · rw [if_pos hki]
        · rw [if_neg hki]
          by_cases hji : j = i
          · subst hji; exact hahead k hk
          · rw [if_neg hji] at hj; exact hcl j hj k hk)
      have hnot : i ∉ Region.linearise.go .any ops fuel (t / rs.length) (listed.setIfInBounds i true) [] := fun hm => by
        have := n2 i hm; rw [hset, if_pos rfl] at this; cases this
      refine ⟨List.nodup_cons.2 ⟨hnot, n1⟩, ?_, ?_, ?_⟩
      · intro j hj
        rcases List.mem_cons.1 hj with rfl | hj
        · exact hfalse
        · have := n2 j hj
          rw [hset] at this
          by_cases hji : j = i
          · rw [if_pos hji] at this; cases this
          · rwa [if_neg hji] at this
      · refine ⟨fun k hk => ?_, n3⟩
        cases ht : testB (aheadBits ops) i k with
        | false => rfl
        | true =>
          exfalso
          have h1 := hahead k ht
          rcases List.mem_cons.1 hk with rfl | hk
          · rw [hfalse] at h1; cases h1
          · have := n2 k hk
            rw [hset] at this
            by_cases hki : k = i
            · rw [if_pos hki] at this; cases this
            · rw [if_neg hki, h1] at this; cases this
      · intro hle j hj
        by_cases hji : j = i
        · subst hji; simp
        · refine List.mem_cons_of_mem _ (n4 ?_ j (by rw [hset, if_neg hji]; exact hj))
          -- one fewer is not listed
          have hcount : ∀ (l : List Bool) (i : Nat), l[i]? = some false → ((l.set i true).filter (!·)).length + 1 = (l.filter (!·)).length := by
            intro l
            induction l with
            | nil => intro i h; simp at h
            | cons b l ihl =>
              intro i h
              cases i with
              | zero => simp at h; subst h; simp
              | succ i =>
                simp at h
                have := ihl i h
                cases b <;> simp [List.set] <;> omega
          have := hcount listed.toList i (by simpa using hfalse)
          rw [Array.toList_setIfInBounds]
          omega
end Go.PB
