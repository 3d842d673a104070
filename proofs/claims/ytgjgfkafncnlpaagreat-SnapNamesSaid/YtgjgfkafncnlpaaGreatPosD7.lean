/- A drawn region: its beginning, an effect's end, its end. -/
import Derived.Test.YtgjgfkafncnlpaaGreatPosD6
set_option linter.unusedSimpArgs false
set_option linter.unusedVariables false
namespace Go.PB
open Go

section
variable {P : Program} {g : Gh} {h h' hp : BHeap} {w : World} {lb ub : Nat} {ph : Nat → Option Nat} {d d' : Draw} {tmps : Array Value} {x : Nat} {r : List Nat} {o : Oper}

theorem draw_next (hr : HRel P g h w) (hd : DrawIn P g h w lb ub hp ph d tmps (x :: r)) {effs' : List Nat} (hde : d.effs = x :: effs') (ho : d.ops[x]? = some o) (hlb : lb ≤ h.next) (hub : ub ≤ h.next)
    {v : BV} {v' : Value} (hv : VRel P g w v v') (e : drawNext P d x v h = some (d', h')) :
    ∃ ph', HRel P g h' w ∧ Ext g h w g h' w ∧ Ph g h g h' ∧ d'.ops = d.ops ∧ d'.env0 = d.env0 ∧ DrawIn P g h' w lb h'.next h' ph' d' (putV tmps o.dst v') r := by
  have hok := drawOk_spec hd.ok
  have hlow : ∀ (i : Nat) o, d.ops[i]? = some o → ∀ e ∈ o.after.toList, Region.binds .any e = true → e.on < i := fun i o ho => (hok.1 i o ho).low
  have hxm : x ∈ d.effs := by rw [hde]; simp
  obtain ⟨_, ox, hox, hxe⟩ := (hd.effs x).1 hxm
  rw [ho] at hox; cases hox
  have hxlt : x < d.ops.size := hd.lt x (by simp)
  have hxnr := (List.nodup_cons.1 hd.nodup).1
  unfold drawNext at e
  dsimp only at e
  split at e
  · rename_i hre
    simp only [Option.map_eq_some_iff] at e
    obtain ⟨⟨h1, vals'⟩, e, e2⟩ := e
    simp only [Prod.mk.injEq] at e2
    obtain ⟨rfl, rfl⟩ := e2
    rw [hde, List.tail_cons, List.range_eq_range'] at e
    rw [List.range_eq_range'] at hre
    -- what stood, at the memory of now
    have hvx : ∀ i, i ≠ x → (d.vals.set x (some v))[i]? = d.vals[i]? := fun i hi => by rw [List.getElem?_set_ne (by omega)]
    have hxl : x < d.vals.length := by rw [hd.vlen]; exact hxlt
    have hvxx : (d.vals.set x (some v))[x]? = some (some v) := by rw [List.getElem?_set_self hxl]
    have hinv : FInv P g h lb d.ops d.env0 effs' (d.vals.set x (some v)) ph r := by
      refine ⟨fun i hi o' u ho' he' hv' => ?_, hd.phinj, fun i b hb => ⟨(hd.phlt i b hb).1, Nat.lt_of_lt_of_le (hd.phlt i b hb).2 hub⟩⟩
      have hix : i ≠ x := fun e => hxnr (e ▸ hi)
      have hv0 : d.vals[i]? = some (some u) := by rw [← hvx i hix]; exact hv'
      obtain ⟨hnw, hopen⟩ := hd.opened i (by simp [hi]) o' u ho' he' hv0
      have hcong : ∀ k, testB (aheadBits d.ops) i k = true → (d.vals.set x (some v)).getD k none = d.vals.getD k none := fun k hk => getD_set_ne (fun e => by subst e; rw [hnw _ hxm] at hk; cases hk) _
      refine ⟨fun e' he' => hnw e' (by rw [hde]; simp [he']), ?_⟩
      refine Open.congr hcong ?_
      rcases hopen with k1 | ⟨k1, ⟨k2, k3⟩ | k2⟩
      · exact .inl k1
      · refine .inr ⟨k1, .inl ⟨k2, ?_⟩⟩
        cases hlo : loadOp o' with
        | false => exact opB_pure he' k2 hlo k3 h
        | true =>
          refine recheck_sound _ hre i ?_ o' u ho' hv0 he' k2 hlo (hd.ord.1 i (by simp [hi])) k1
          rw [List.mem_range'_1]
          have := hd.lt i (by simp [hi]); omega
      · exact .inr ⟨k1, .inr k2⟩
    have hval1 : ∀ i, Valued d.vals i → Valued (d.vals.set x (some v)) i := fun i h => valued_set h
    have hcl : Closed d.ops (d.vals.set x (some v)) r := by
      intro i hi o' ho' he' hv' k hk
      have hix : i ≠ x := fun e => hxnr (e ▸ hi)
      obtain ⟨u, hu⟩ := hv'
      rw [hvx i hix] at hu
      have hnw := (hd.opened i (by simp [hi]) o' u ho' he' hu).1
      have hkl : k < d.ops.size := by have := bits_lt hlow i k hk; have := hd.lt i (by simp [hi]); omega
      by_cases hkr : k ∈ x :: r
      · have hko := Array.getElem?_eq_getElem hkl
        cases hke : effOp d.ops[k] with
        | true => have := hnw k ((hd.effs k).2 ⟨hkr, _, hko, hke⟩); rw [this] at hk; cases hk
        | false => exact hval1 k (hd.ready k hkr _ hko hke (noWait_trans hlow hnw hk))
      · exact hval1 k (hd.vals k hkl hkr)
    have hpend : ∀ i, i < d.ops.size → ¬ Valued (d.vals.set x (some v)) i → i ∈ r := by
      intro i hi hn
      apply Classical.byContradiction
      intro hir
      by_cases hix : i = x
      · subst hix; exact hn ⟨v, hvxx⟩
      · exact hn (hval1 i (hd.vals i hi (by simp [hix, hir])))
    have heff : ∀ k ∈ r, effB d.ops k → k ∈ effs' := by
      intro k hk he
      have := (hd.effs k).2 ⟨by simp [hk], he⟩
      rw [hde] at this
      rcases List.mem_cons.1 this with rfl | h1
      · exact absurd hk hxnr
      · exact h1
    obtain ⟨ph', k1, k2, k3, k4, k5, k6, k7⟩ := floats_sound hlow heff d.ops.size 0 h _ ph e hr hinv hlb (by simpa using hd.vlen) (by omega) hcl (fun i hi => by omega) hpend
    refine ⟨ph', k1, k2, k3, rfl, rfl, ?_⟩
    exact {
      ok := hd.ok
      dsts := hd.dsts
      size := by unfold putV; split <;> simp [hd.size]
      vlen := k4
      nodup := (List.nodup_cons.1 hd.nodup).2
      lt := fun j hj => hd.lt j (by simp [hj])
      ord := hd.ord.2
      dc := fun j hj hn k hk => by
        by_cases hji : j = x
        · subst hji
          intro hm
          have := hd.ord.1 k (by simp [hm]); rw [this] at hk; cases hk
        · intro hm
          exact hd.dc j hj (by simp [hji, hn]) k hk (by simp [hm])
      effs := fun e' => by
        simp only [hde, List.tail_cons]
        constructor
        · intro h1
          obtain ⟨h2, h3⟩ := (hd.effs e').1 (by rw [hde]; simp [h1])
          refine ⟨?_, h3⟩
          rcases List.mem_cons.1 h2 with rfl | h2
          · exfalso
            have hp := hd.effsOrd
            rw [hde] at hp
            have := bits_lt hlow _ _ ((List.pairwise_cons.1 hp).1 _ h1)
            omega
          · exact h2
        · rintro ⟨h1, h2⟩; exact heff _ h1 h2
      effsOrd := by
        have hp := hd.effsOrd
        rw [hde] at hp
        simp only [hde, List.tail_cons]
        exact (List.pairwise_cons.1 hp).2
      vals := fun j hj hn => by
        have : Valued (d.vals.set x (some v)) j := Classical.byContradiction fun h => hn (hpend j hj h)
        obtain ⟨u, hu⟩ := this
        exact ⟨u, k5 j u hu⟩
      slots := fun t u hu => by
        by_cases hdt : o.dst = some t
        · have hw := (hok.1 x o ho).dst t hdt
          have hcs : curSlot d.ops d.env0 vals' r t = v := by
            unfold curSlot
            rw [hw]
            dsimp only
            rw [if_neg hxnr, List.getD, k5 x v hvxx]; rfl
          show VRel P g w (curSlot d.ops d.env0 vals' r t) u
          rw [hcs]
          have hlt := dstsOk_spec hd.dsts ho hdt
          have : u = v' := by
            unfold putV at hu
            rw [hdt] at hu
            dsimp only at hu
            rw [Array.getElem?_setIfInBounds_self_of_lt (by rw [hd.size]; exact hlt)] at hu
            cases hu; rfl
          rw [this]; exact hv
        · have hut : tmps[t]? = some u := by
            unfold putV at hu
            cases hdd : o.dst with
            | none => rw [hdd] at hu; exact hu
            | some t' =>
              rw [hdd] at hu hdt
              dsimp only at hu
              rwa [Array.getElem?_setIfInBounds_ne (fun e => hdt (by rw [e]))] at hu
          have hcs : curSlot d.ops d.env0 vals' r t = curSlot d.ops d.env0 d.vals (x :: r) t := by
            unfold curSlot
            cases hw : writerOf d.ops t with
            | none => rfl
            | some k =>
              dsimp only
              obtain ⟨o', ho', hd'⟩ := writerOf_spec hw
              have hki : k ≠ x := fun e => by
                subst e
                rw [ho] at ho'; cases ho'
                exact hdt hd'
              by_cases hkr : k ∈ r
              · rw [if_pos hkr, if_pos (by simp [hkr])]
              · rw [if_neg hkr, if_neg (by simp [hkr, hki])]
                obtain ⟨u', hu'⟩ := hd.vals k (Array.getElem?_eq_some_iff.1 ho').1 (by simp [hkr, hki])
                have := k5 k u' (by rw [hvx k hki]; exact hu')
                rw [List.getD, List.getD, this, hu']
          show VRel P g w (curSlot d.ops d.env0 vals' r t) u
          rw [hcs]
          exact hd.slots t u hut
      ready := fun j hj o' ho' he' hn => by
        have hn' : NoWait d.ops effs' j := by simpa only [hde, List.tail_cons] using hn
        exact k7 j (hd.lt j (by simp [hj])) o' ho' he' hn'
      opened := fun j hj o' u ho' he' hv' => by
        have := k6.1 j hj o' u ho' he' hv'
        simpa only [hde, List.tail_cons] using this
      phinj := k6.2.1
      phlt := k6.2.2 }
  · cases e

/-- a drawn region begins -/
theorem draw_init (hr : HRel P g h w) {ops : Array Oper} {env : List BV} (hv : VRels P g w env tmps.toList) (hok : drawOk ops = true) (hds : dstsOk ops env.length = true) (hlb : lb ≤ h.next) (t : Nat) {vals : List (Option BV)}
    (e : floats P ops (aheadBits ops) env (drawEffs ops) (List.range ops.size) h (List.replicate ops.size none) = some (h', vals)) :
    ∃ ph, HRel P g h' w ∧ Ext g h w g h' w ∧ Ph g h g h' ∧ DrawIn P g h' w lb h'.next h' ph { ops, env0 := env, vals, effs := drawEffs ops } tmps (Region.linearise .any ops t) := by
  have hsp := drawOk_spec hok
  have hlow : ∀ (i : Nat) o, ops[i]? = some o → ∀ e ∈ o.after.toList, Region.binds .any e = true → e.on < i := fun i o ho => (hsp.1 i o ho).low
  have hlin := linear_spec hlow ops.size t (Array.replicate ops.size false) (by simp) (fun i hi => by
    rw [Array.getElem?_replicate] at hi; split at hi <;> cases hi)
  obtain ⟨l1, l2, l3, l4⟩ := hlin
  have hall : ∀ i, i < ops.size → i ∈ Region.linearise .any ops t := fun i hi => l4 (by
    simp only [Array.toList_replicate]
    exact Nat.le_trans (List.length_filter_le _ _) (by simp)) i (by rw [Array.getElem?_replicate, if_pos hi])
  have hlt : ∀ i ∈ Region.linearise .any ops t, i < ops.size := fun i hi => by
    have := l2 i hi
    rw [Array.getElem?_replicate] at this
    split at this
    · assumption
    · cases this
  rw [List.range_eq_range'] at e
  have hnone : ∀ (i : Nat) v, (List.replicate ops.size (none : Option BV))[i]? ≠ some (some v) := fun i v h => by
    rw [List.getElem?_replicate] at h; split at h <;> cases h
  have hmem : ∀ e, e ∈ drawEffs ops ↔ effB ops e := fun e => by
    unfold drawEffs
    rw [List.mem_filter, List.mem_range]
    constructor
    · rintro ⟨h1, h2⟩
      exact ⟨_, Array.getElem?_eq_getElem h1, by simpa [Array.getElem?_eq_getElem h1] using h2⟩
    · rintro ⟨o, h1, h2⟩
      exact ⟨(Array.getElem?_eq_some_iff.1 h1).1, by simpa [h1] using h2⟩
  obtain ⟨ph', k1, k2, k3, k4, k5, k6, k7⟩ := floats_sound (P := P) (g := g) (w := w) (lb := lb) (rest := Region.linearise .any ops t) hlow (fun k _ he => (hmem k).2 he) ops.size 0 h _ (fun _ => none) e hr
    ⟨fun i _ o v _ _ h => absurd h (hnone i v), (fun i j b h => by cases h), (fun i b h => by cases h)⟩ hlb (by simp) (by omega)
    (fun i _ o _ _ ⟨v, hv⟩ => absurd hv (hnone i v)) (fun i hi => by omega) (fun i hi _ => hall i hi)
  refine ⟨ph', k1, k2, k3, ?_⟩
  exact {
    ok := hok
    dsts := hds
    size := by have := hv.length; simpa using this
    vlen := k4
    nodup := l1
    lt := hlt
    ord := l3
    dc := fun i hi hn => absurd (hall i hi) hn
    effs := fun e => by
      rw [hmem]
      constructor
      · intro h1
        obtain ⟨o, h2, h3⟩ := h1
        exact ⟨hall e (Array.getElem?_eq_some_iff.1 h2).1, o, h2, h3⟩
      · exact fun h => h.2
    effsOrd := hsp.2
    vals := fun i hi hn => absurd (hall i hi) hn
    slots := fun s u hu => by
      have hcs : curSlot ops env vals (Region.linearise .any ops t) s = env.getD s BV.undef := by
        unfold curSlot
        cases hw : writerOf ops s with
        | none => rfl
        | some k =>
          dsimp only
          obtain ⟨o', ho', _⟩ := writerOf_spec hw
          rw [if_pos (hall k (Array.getElem?_eq_some_iff.1 ho').1)]
      show VRel P g w (curSlot ops env vals (Region.linearise .any ops t) s) u
      rw [hcs]
      obtain ⟨b, hb, hbv⟩ := hv.get' (show tmps.toList[s]? = some u by simpa using hu)
      rw [List.getD, hb]; exact hbv
    ready := fun j hj o' ho' he' hn => k7 j (hlt j hj) o' ho' he' hn
    opened := fun j hj o' u ho' he' hv' => k6.1 j hj o' u ho' he' hv'
    phinj := k6.2.1
    phlt := k6.2.2 }

theorem finalEnv_get {ops : Array Oper} {vals : List (Option BV)} : ∀ (l : List BV) (t s : Nat) (y : BV), l[s]? = some y →
    (finalEnv ops vals t l)[s]? = some (match writerOf ops (t + s) with | some k => (vals.getD k none).getD .junk | none => y) := by
  intro l
  induction l with
  | nil => intro t s y h; simp at h
  | cons a l ih =>
    intro t s y h
    cases s with
    | zero => simp at h; subst h; simp only [finalEnv, List.getElem?_cons_zero, Nat.add_zero]; cases writerOf ops t <;> rfl
    | succ s =>
      simp at h
      have := ih (t + 1) s y h
      simp only [finalEnv, List.getElem?_cons_succ]
      rw [this]
      have e : t + 1 + s = t + (s + 1) := by omega
      rw [e]

theorem finalEnv_length {ops : Array Oper} {vals : List (Option BV)} : ∀ (l : List BV) (t : Nat), (finalEnv ops vals t l).length = l.length := by
  intro l
  induction l with
  | nil => intro t; rfl
  | cons a l ih => intro t; simp [finalEnv, ih]

/-- a drawn region ends -/
theorem draw_end (hd : DrawIn P g h w lb ub hp ph d tmps []) : VRels P g w (finalEnv d.ops d.vals 0 d.env0) tmps.toList := by
  refine VRels.of_get (by rw [finalEnv_length]; simpa using hd.size) fun i b v hb hv => ?_
  have hil : i < d.env0.length := by have := (List.getElem?_eq_some_iff.1 hb).1; rw [finalEnv_length] at this; exact this
  have := finalEnv_get (ops := d.ops) (vals := d.vals) d.env0 0 i _ (List.getElem?_eq_getElem hil)
  rw [hb] at this
  have hs := hd.slots i v (by simpa using hv)
  cases this
  unfold curSlot at hs
  simp only [Nat.zero_add]
  cases hw : writerOf d.ops i with
  | none => rw [hw] at hs; dsimp only at hs; rw [List.getD, List.getElem?_eq_getElem hil] at hs; exact hs
  | some k => rw [hw] at hs; dsimp only at hs; rw [if_neg (by simp)] at hs; exact hs

/-- a drawn region that is left: its slots are open -/
theorem draw_settle {rest : List Nat} (hd : DrawIn P g h w lb ub hp ph d tmps rest) {fr : BFrame} (henv : fr.env = d.env0) {k : List BItem} (ht : fr.todo = .inDraw d :: k) : VRels P g w (settleEnv fr) tmps.toList := by
  unfold settleEnv
  rw [ht]
  dsimp only
  refine VRels.of_get (by simp [henv]; exact hd.size) fun i b v hb hv => ?_
  have hs := hd.slots i v (by simpa using hv)
  rw [List.getElem?_map] at hb
  cases hr : (List.range fr.env.length)[i]? with
  | none => rw [hr] at hb; cases hb
  | some j =>
    rw [hr] at hb
    have hij : j = i := by
      obtain ⟨h1, h2⟩ := List.getElem?_eq_some_iff.1 hr
      rw [List.getElem_range] at h2; exact h2.symm
    rw [hij] at hb
    simp at hb
    cases hw : writerOf d.ops i with
    | some k => rw [hw] at hb; subst hb; simp [VRel]
    | none =>
      rw [hw] at hb
      unfold curSlot at hs
      rw [hw] at hs
      dsimp only at hs hb
      subst hb
      rw [henv]
      cases he : d.env0[i]? with
      | none => simp [VRel]
      | some y => rw [List.getD, he] at hs; exact hs
end
end Go.PB
