/- A drawn region under way: what B carries out ahead, and asks again. -/
import Derived.Test.YthjdcddpoihcdaaGreatDoorPosD5
set_option linter.unusedSimpArgs false
set_option linter.unusedVariables false
namespace Go.PB
open Go

section
variable {P : Program} {g : Gh} {h h' hp : BHeap} {w : World} {lb ub : Nat}

def FInv (P : Program) (g : Gh) (h : BHeap) (lb : Nat) (ops : Array Oper) (env0 : List BV) (effs : List Nat) (vals : List (Option BV)) (ph : Nat → Option Nat) (rest : List Nat) : Prop :=
  (∀ i ∈ rest, ∀ o v, ops[i]? = some o → effOp o = false → vals[i]? = some (some v) → NoWait ops effs i ∧ Open P g h h ops env0 vals (ph i) i o v) ∧
  (∀ i j b, ph i = some b → ph j = some b → i = j) ∧ (∀ i b, ph i = some b → lb ≤ b ∧ b < h.next)

def Closed (ops : Array Oper) (vals : List (Option BV)) (rest : List Nat) : Prop :=
  ∀ i ∈ rest, ∀ o, ops[i]? = some o → effOp o = false → Valued vals i → ∀ k, testB (aheadBits ops) i k = true → Valued vals k

def Ready (ops : Array Oper) (effs : List Nat) (vals : List (Option BV)) (m : Nat) : Prop :=
  ∀ i, i < m → ∀ o, ops[i]? = some o → effOp o = false → NoWait ops effs i → Valued vals i

theorem getD_set_ne {vals : List (Option BV)} {m k : Nat} (h : k ≠ m) (x : Option BV) : (vals.set m x).getD k none = vals.getD k none := by
  simp only [List.getD]; rw [List.getElem?_set_ne (by omega)]

theorem valued_set {vals : List (Option BV)} {m k : Nat} {v : BV} (h : Valued vals k) : Valued (vals.set m (some v)) k := by
  obtain ⟨u, hu⟩ := h
  by_cases hk : k = m
  · subst hk; exact ⟨v, by rw [List.getElem?_set_self (List.getElem?_eq_some_iff.1 hu).1]⟩
  · exact ⟨u, by rw [List.getElem?_set_ne (by omega)]; exact hu⟩

theorem hle_new (hr : HRel P g h w) (o : BObj) : HLe h (h.new o) := fun b ob hb => by
  have := hr.dom _ _ hb
  rw [BHeap.get_new, if_neg (by omega)]; exact hb

theorem noWait_trans {ops : Array Oper} {effs : List Nat} {i k : Nat} (hlow : ∀ (i : Nat) o, ops[i]? = some o → ∀ e ∈ o.after.toList, Region.binds .any e = true → e.on < i)
    (hn : NoWait ops effs i) (hk : testB (aheadBits ops) i k = true) : NoWait ops effs k := fun e he => by
  cases hb : testB (aheadBits ops) k e with
  | false => rfl
  | true => have := bits_trans hlow _ _ _ hk hb; rw [hn e he] at this; cases this

theorem floats_sound {ops : Array Oper} {env0 : List BV} {effs rest : List Nat} (hlow : ∀ (i : Nat) o, ops[i]? = some o → ∀ e ∈ o.after.toList, Region.binds .any e = true → e.on < i)
    (heff : ∀ k ∈ rest, effB ops k → k ∈ effs) {h' : BHeap} {vals' : List (Option BV)} :
    ∀ (n m : Nat) (h : BHeap) (vals : List (Option BV)) (ph : Nat → Option Nat), floats P ops (aheadBits ops) env0 effs (List.range' m n) h vals = some (h', vals') → HRel P g h w →
      FInv P g h lb ops env0 effs vals ph rest → lb ≤ h.next → vals.length = ops.size → m + n = ops.size → Closed ops vals rest → Ready ops effs vals m → (∀ i, i < ops.size → ¬ Valued vals i → i ∈ rest) →
      ∃ ph', HRel P g h' w ∧ Ext g h w g h' w ∧ Ph g h g h' ∧ vals'.length = ops.size ∧ (∀ (i : Nat) v, vals[i]? = some (some v) → vals'[i]? = some (some v)) ∧ FInv P g h' lb ops env0 effs vals' ph' rest ∧ Ready ops effs vals' ops.size := by
  intro n
  induction n with
  | zero =>
    intro m h vals ph e hr hf hlb hlen hmn hcl hrd hpend
    simp only [List.range'_zero, floats] at e
    cases e
    exact ⟨ph, hr, Ext.refl _ _ _, Ph.refl _ _, hlen, fun _ _ h => h, hf, by rw [← hmn]; simpa using hrd⟩
  | succ n ih =>
    intro m h vals ph e hr hf hlb hlen hmn hcl hrd hpend
    have hmlt : m < ops.size := by omega
    have ho := Array.getElem?_eq_getElem hmlt
    generalize ops[m] = o at ho
    rw [List.range'_succ] at e
    simp only [floats, ho] at e
    cases hvm : vals.getD m none with
    | some u =>
      rw [hvm] at e
      have hval : Valued vals m := by
        have hml : m < vals.length := by omega
        rw [List.getD, List.getElem?_eq_getElem hml] at hvm
        exact ⟨u, by rw [List.getElem?_eq_getElem hml]; simpa using hvm⟩
      refine ih (m + 1) h vals ph e hr hf hlb hlen (by omega) hcl (fun i hi o' ho' he hn => ?_) hpend
      by_cases him : i = m
      · subst him; exact hval
      · exact hrd i (by omega) o' ho' he hn
    | none =>
      rw [hvm] at e
      dsimp only at e
      have hnone : ¬ Valued vals m := fun ⟨v, hv⟩ => by rw [List.getD, hv] at hvm; cases hvm
      split at e
      · rename_i hc
        refine ih (m + 1) h vals ph e hr hf hlb hlen (by omega) hcl (fun i hi o' ho' he hn => ?_) hpend
        by_cases him : i = m
        · subst him
          rw [ho] at ho'; cases ho'
          rw [he, Bool.false_or, List.any_eq_true] at hc
          obtain ⟨e', h1, h2⟩ := hc
          rw [hn e' h1] at h2; cases h2
        · exact hrd i (by omega) o' ho' he hn
      · rename_i hc
        rw [Bool.or_eq_true, not_or] at hc
        obtain ⟨he, hnw⟩ := hc
        have he : effOp o = false := by simpa using he
        have hnw : NoWait ops effs m := fun e' h1 => by
          cases hb : testB (aheadBits ops) m e' with
          | false => rfl
          | true => exact absurd (List.any_eq_true.2 ⟨e', h1, hb⟩) hnw
        have hmrest : m ∈ rest := hpend m hmlt hnone
        -- all that comes ahead has its value
        have hahead : ∀ k, testB (aheadBits ops) m k = true → Valued vals k := fun k hk => by
          have hkm := bits_lt hlow m k hk
          apply Classical.byContradiction
          intro hnv
          have hkr := hpend k (by omega) hnv
          have hko := Array.getElem?_eq_getElem (show k < ops.size by omega)
          cases hke : effOp ops[k] with
          | true =>
            have := heff k hkr ⟨_, hko, hke⟩
            rw [hnw k this] at hk; cases hk
          | false => exact hnv (hrd k hkm _ hko hke (noWait_trans hlow hnw hk))
        -- what holds of any value laid
        have hstep : ∀ (v : BV) (h1 : BHeap) (ph1 : Nat → Option Nat), HRel P g h1 w → Ext g h w g h1 w → Ph g h g h1 → h.next ≤ h1.next →
            floats P ops (aheadBits ops) env0 effs (List.range' (m + 1) n) h1 (vals.set m (some v)) = some (h', vals') →
            (∀ i ∈ rest, i ≠ m → ∀ o' u, ops[i]? = some o' → effOp o' = false → vals[i]? = some (some u) → Open P g h1 h1 ops env0 vals (ph1 i) i o' u) →
            Open P g h1 h1 ops env0 vals (ph1 m) m o v →
            (∀ i j b, ph1 i = some b → ph1 j = some b → i = j) → (∀ i b, ph1 i = some b → lb ≤ b ∧ b < h1.next) →
            ∃ ph', HRel P g h' w ∧ Ext g h w g h' w ∧ Ph g h g h' ∧ vals'.length = ops.size ∧ (∀ (i : Nat) v, vals[i]? = some (some v) → vals'[i]? = some (some v)) ∧ FInv P g h' lb ops env0 effs vals' ph' rest ∧ Ready ops effs vals' ops.size := by
          intro v h1 ph1 hr1 hx1 hp1 hn1 e1 hold hnew hinj hlt
          obtain ⟨ph', k1, k2, k3, k4, k5, k6, k7⟩ := ih (m + 1) h1 (vals.set m (some v)) ph1 e1 hr1 (by
              refine ⟨fun i hi o' u ho' he' hv' => ?_, hinj, hlt⟩
              by_cases him : i = m
              · subst him
                rw [List.getElem?_set_self (by omega)] at hv'
                cases hv'
                rw [ho] at ho'; cases ho'
                exact ⟨hnw, hnew.congr fun k hk => getD_set_ne (by have := bits_lt hlow _ _ hk; omega) _⟩
              · rw [List.getElem?_set_ne (by omega)] at hv'
                refine ⟨(hf.1 i hi o' u ho' he' hv').1, (hold i hi him o' u ho' he' hv').congr fun k hk => getD_set_ne (fun e => ?_) _⟩
                subst e
                exact hnone (hcl i hi o' ho' he' ⟨u, hv'⟩ _ hk)) (by omega) (by simpa using hlen) (by omega) (by
              intro i hi o' ho' he' hv' k hk
              by_cases him : i = m
              · subst him; exact valued_set (hahead k hk)
              · obtain ⟨u, hu⟩ := hv'
                rw [List.getElem?_set_ne (by omega)] at hu
                exact valued_set (hcl i hi o' ho' he' ⟨u, hu⟩ k hk)) (by
              intro i hi o' ho' he' hn'
              by_cases him : i = m
              · subst him; exact ⟨v, by rw [List.getElem?_set_self (by omega)]⟩
              · exact valued_set (hrd i (by omega) o' ho' he' hn')) (by
              intro i hi hnv
              exact hpend i hi fun hv => hnv (valued_set hv))
          refine ⟨ph', k1, hx1.trans k2, hp1.trans hn1 k3, k4, fun i u hu => ?_, k6, k7⟩
          refine k5 i u ?_
          rw [List.getElem?_set_ne (fun e => ?_)]; exact hu
          subst e; exact hnone ⟨u, hu⟩
        split at e
        · rename_i hw
          cases hop : opB P h (evalAt ops (aheadBits ops) env0 vals m) o with
          | none => rw [hop] at e; cases e
          | some q =>
            obtain ⟨nx, h1⟩ := q
            rw [hop] at e
            cases nx <;> try (cases e; done)
            rename_i v
            dsimp only at e
            cases ha : allocOp P o with
            | false =>
              obtain ⟨hh, _⟩ := opB_le (h' := h) (fun _ _ h => h) he ha hop
              subst hh
              exact hstep v h1 ph hr (Ext.refl _ _ _) (Ph.refl _ _) (Nat.le_refl _) e (fun i hi _ o' u ho' he' hv' => (hf.1 i hi o' u ho' he' hv').2)
                (.inr ⟨hw, .inl ⟨ha, hop⟩⟩) hf.2.1 hf.2.2
            | true =>
              obtain ⟨ob, rfl⟩ := opB_alloc ha hop
              obtain ⟨hr1, hx1⟩ := hr.newB ob
              refine hstep v (h.new ob) (fun j => if j = m then some h.next else ph j) hr1 hx1 (Ph.new ob) (by simp) e (fun i hi him o' u ho' he' hv' => ?_) ?_ (fun i j b hi hj => ?_) (fun i b hi => ?_)
              · obtain ⟨_, ho2⟩ := hf.1 i hi o' u ho' he' hv'
                simp only [if_neg him]
                rcases ho2 with k1 | ⟨k1, ⟨k2, k3⟩ | ⟨k2, a, b, k3, k4, k5, k6⟩⟩
                · exact .inl k1
                · exact .inr ⟨k1, .inl ⟨k2, (opB_le (hle_new hr ob) he' k2 k3).2⟩⟩
                · refine .inr ⟨k1, .inr ⟨k2, a, b, k3, k4, k5, ?_⟩⟩
                  have := (hf.2.2 i _ k3).2
                  rw [BHeap.get_new, if_neg (by omega)]; exact k6
              · simp only [if_pos]
                exact .inr ⟨hw, .inr ⟨ha, h, _, rfl, hop, hr.next_none, rfl⟩⟩
              · by_cases h1 : i = m
                · by_cases h2 : j = m
                  · rw [h1, h2]
                  · simp only [if_pos h1] at hi
                    simp only [if_neg h2] at hj
                    cases hi
                    exact absurd (hf.2.2 j _ hj).2 (Nat.lt_irrefl _)
                · by_cases h2 : j = m
                  · simp only [if_neg h1] at hi
                    simp only [if_pos h2] at hj
                    cases hj
                    exact absurd (hf.2.2 i _ hi).2 (Nat.lt_irrefl _)
                  · simp only [if_neg h1] at hi
                    simp only [if_neg h2] at hj
                    exact hf.2.1 i j b hi hj
              · by_cases h1 : i = m
                · simp only [if_pos h1] at hi; cases hi; exact ⟨hlb, by simp⟩
                · simp only [if_neg h1] at hi
                  have := hf.2.2 i b hi
                  exact ⟨this.1, by simp; omega⟩
        · rename_i hw
          exact hstep BV.undef h ph hr (Ext.refl _ _ _) (Ph.refl _ _) (Nat.le_refl _) e (fun i hi _ o' u ho' he' hv' => (hf.1 i hi o' u ho' he' hv').2) (.inl ⟨hw, rfl⟩) hf.2.1 hf.2.2
        · cases e

theorem recheck_sound {ops : Array Oper} {env0 : List BV} {vals : List (Option BV)} {x : Nat} : ∀ (is : List Nat), recheck P ops (aheadBits ops) env0 vals x h is = true →
    ∀ i ∈ is, ∀ o v, ops[i]? = some o → vals[i]? = some (some v) → effOp o = false → allocOp P o = false → loadOp o = true → testB (aheadBits ops) x i = false →
      wantedB o ops (fun t => some (slotAt ops (aheadBits ops) env0 vals i t)) = some true → opB P h (evalAt ops (aheadBits ops) env0 vals i) o = some (.value v, h) := by
  intro is
  induction is with
  | nil => intro _ i hi; cases hi
  | cons j is ih =>
    intro e i hi o v ho hv he ha hlo hb hw
    simp only [recheck, Bool.and_eq_true] at e
    obtain ⟨e1, e2⟩ := e
    rcases List.mem_cons.1 hi with rfl | hi
    · have hv' : vals.getD i none = some v := by rw [List.getD, hv]; rfl
      rw [ho, hv'] at e1
      simp only [he, ha, hlo, hb, hw, Bool.or_false, Bool.not_true, Bool.false_eq_true, if_false] at e1
      cases hop : opB P h (evalAt ops (aheadBits ops) env0 vals i) o with
      | none => rw [hop] at e1; cases e1
      | some q =>
        obtain ⟨nx, h1⟩ := q
        rw [hop] at e1
        cases nx <;> try (cases e1; done)
        have := (beq_sound 40).1 _ _ e1
        subst this
        have := (opB_le (h' := h) (fun _ _ h => h) he ha hop).1
        subst this
        rfl
    · exact ih e2 i hi o v ho hv he ha hlo hb hw
end
end Go.PB
