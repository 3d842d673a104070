/- A drawn region under way: the model carries out what B has. -/
import Derived.Test.YthjdcddpoihcdaaGreatDoorPosD4
set_option linter.unusedSimpArgs false
set_option linter.unusedVariables false
namespace Go.PB
open Go

def putV (tmps : Array Value) (dst : Option Nat) (v : Value) : Array Value :=
  match dst with | some d => tmps.setIfInBounds d v | none => tmps

theorem writerGo_spec {t : Nat} : ∀ (l : List Oper) (k j : Nat), writerGo t l k = some j → ∃ i o, j = k + i ∧ l[i]? = some o ∧ o.dst = some t := by
  intro l
  induction l with
  | nil => intro k j h; simp [writerGo] at h
  | cons x l ih =>
    intro k j h
    simp only [writerGo] at h
    split at h
    · rename_i hd; cases h; exact ⟨0, x, rfl, rfl, by simpa using hd⟩
    · obtain ⟨i, o, h1, h2, h3⟩ := ih _ _ h
      exact ⟨i + 1, o, by omega, by simpa using h2, h3⟩

theorem writerOf_spec {ops : Array Oper} {t k : Nat} (h : writerOf ops t = some k) : ∃ o, ops[k]? = some o ∧ o.dst = some t := by
  obtain ⟨i, o, h1, h2, h3⟩ := writerGo_spec _ _ _ h
  exact ⟨o, by simp at h1; subst h1; simpa using h2, h3⟩

theorem slotAt_congr {ops : Array Oper} {env0 : List BV} {vals vals' : List (Option BV)} {i : Nat} (hv : ∀ k, testB (aheadBits ops) i k = true → vals'.getD k none = vals.getD k none) :
    slotAt ops (aheadBits ops) env0 vals' i = slotAt ops (aheadBits ops) env0 vals i := by
  funext t
  unfold slotAt
  cases hw : writerOf ops t with
  | none => rfl
  | some k =>
    dsimp only
    cases hb : testB (aheadBits ops) i k with
    | true => rw [hv k hb]
    | false => rfl

theorem evalAt_congr {ops : Array Oper} {env0 : List BV} {vals vals' : List (Option BV)} {i : Nat} (hv : ∀ k, testB (aheadBits ops) i k = true → vals'.getD k none = vals.getD k none) :
    evalAt ops (aheadBits ops) env0 vals' i = evalAt ops (aheadBits ops) env0 vals i := by
  funext x
  cases x <;> simp only [evalAt]
  rw [slotAt_congr hv]

theorem Open.congr {P : Program} {g : Gh} {h hp : BHeap} {ops : Array Oper} {env0 : List BV} {vals vals' : List (Option BV)} {b : Option Nat} {i : Nat} {o : Oper} {v : BV}
    (hv : ∀ k, testB (aheadBits ops) i k = true → vals'.getD k none = vals.getD k none) (ho : Open P g h hp ops env0 vals b i o v) : Open P g h hp ops env0 vals' b i o v := by
  unfold Open at *
  rw [evalAt_congr hv, slotAt_congr hv]
  exact ho

section
variable {P : Program} {g g' : Gh} {h h' hp : BHeap} {w w' : World} {lb ub : Nat} {ph : Nat → Option Nat} {d : Draw} {tmps : Array Value} {i : Nat} {r : List Nat} {o : Oper}

theorem wantedRel {ops : Array Oper} {o : Oper} {env : Nat → Option BV} {tmps : Array Value}
    (hs : ∀ j b, o.guard = some (j, b) → ∀ d, (ops[j]?).bind (·.dst) = some d → (env d = none ∧ tmps[d]? = none) ∨ ∃ b v, env d = some b ∧ tmps[d]? = some v ∧ VRel P g w b v) {r : Bool} (e : wantedB o ops env = some r) :
    Region.wanted o (yielded ops tmps) = r := by
  unfold wantedB at e
  unfold Region.wanted
  split at e
  · rename_i hg; rw [hg]; cases e; rfl
  · rename_i j want hg
    rw [hg]
    dsimp only
    unfold yieldedB at e
    unfold yielded
    cases hd : (ops[j]?).bind (·.dst) with
    | none => simp [hd] at e; rw [e]; rfl
    | some d =>
      simp only [hd, Option.bind_some] at e ⊢
      rcases hs j want hg d hd with ⟨h1, h2⟩ | ⟨b, v, h1, h2, h3⟩
      · simp [h1] at e; rw [h2, e]; rfl
      · rw [h1] at e
        rw [h2]
        cases b <;> first
          | (simp at e; done)
          | (simp only [VRel] at h3; subst h3; simpa using e)
          | (have : ∀ b, v ≠ .bool b := by
               intro b hb; subst hb
               simp only [VRel] at h3
               first
                 | (cases h3; done)
                 | (obtain ⟨_, h3, _⟩ := h3; cases h3; done)
                 | (obtain ⟨_, _, h3⟩ := h3; cases h3; done)
                 | (obtain ⟨_, _, h3, _⟩ := h3; cases h3; done)
                 | (obtain ⟨_, _, _, h3⟩ := h3; cases h3; done)
                 | (obtain ⟨_, _, _, h3, _⟩ := h3; cases h3; done)
                 | (obtain ⟨_, _, _, _, h3, _⟩ := h3; cases h3; done)
                 | (obtain ⟨_, h3⟩ := h3; cases h3; done)
             simp at e; rw [e]
             cases v <;> first | rfl | exact absurd rfl (this _))

theorem dstsOk_spec {ops : Array Oper} {n : Nat} (h : dstsOk ops n = true) {i : Nat} {o : Oper} {t : Nat} (ho : ops[i]? = some o) (hd : o.dst = some t) : t < n := by
  unfold dstsOk at h
  rw [List.all_eq_true] at h
  have := h o (by have : ops.toList[i]? = some o := by simpa using ho
                  exact List.mem_of_getElem? this)
  rw [hd] at this
  simpa using this

/-- what an operation that is next sees in a slot -/
theorem DrawIn.slot (hd : DrawIn P g h w lb ub hp ph d tmps (i :: r)) {t : Nat}
    (hk : ∀ k, writerOf d.ops t = some k → testB (aheadBits d.ops) i k = true ∨ testB (aheadBits d.ops) k i = true ∨ k = i) :
    slotAt d.ops (aheadBits d.ops) d.env0 d.vals i t = curSlot d.ops d.env0 d.vals (i :: r) t := by
  unfold slotAt curSlot
  cases hw : writerOf d.ops t with
  | none => rfl
  | some k =>
    dsimp only
    have hlow := fun i o ho => ((drawOk_spec hd.ok).1 i o ho).low
    cases hb : testB (aheadBits d.ops) i k with
    | true =>
      have hn : k ∉ i :: r := fun hm => by
        have := hd.ord.1 k hm; rw [this] at hb; cases hb
      rw [if_neg hn]; rfl
    | false =>
      have hm : k ∈ i :: r := by
        rcases hk k hw with h1 | h1 | rfl
        · rw [h1] at hb; cases hb
        · apply Classical.byContradiction
          intro hn
          obtain ⟨o', ho', _⟩ := writerOf_spec hw
          have hlt : k < d.ops.size := (Array.getElem?_eq_some_iff.1 ho').1
          exact hd.dc k hlt hn i h1 (by simp)
        · simp
      rw [if_pos hm]; rfl

theorem DrawIn.slotRel (hd : DrawIn P g h w lb ub hp ph d tmps (i :: r)) {t : Nat}
    (hk : ∀ k, writerOf d.ops t = some k → testB (aheadBits d.ops) i k = true ∨ testB (aheadBits d.ops) k i = true ∨ k = i) :
    VRel P g w (slotAt d.ops (aheadBits d.ops) d.env0 d.vals i t) (tmps.getD t undef) := by
  rw [hd.slot hk]
  cases ht : tmps[t]? with
  | some v => rw [Array.getD_eq_getD_getElem?, ht]; exact hd.slots t v ht
  | none =>
    rw [Array.getD_eq_getD_getElem?, ht]
    have hle : tmps.size ≤ t := by rw [Array.getElem?_eq_none_iff] at ht; exact ht
    rw [hd.size] at hle
    unfold curSlot
    cases hw : writerOf d.ops t with
    | none =>
      dsimp only
      rw [List.getD, List.getElem?_eq_none hle]; exact VRel.undef
    | some k =>
      exfalso
      obtain ⟨o', ho', hd'⟩ := writerOf_spec hw
      have := dstsOk_spec hd.dsts ho' hd'
      omega

theorem mem_namesOf {o : Oper} {t : Nat} (h : Operand.tmp t ∈ o.op.operands.toList) : t ∈ namesOf o := by
  unfold namesOf
  rw [List.mem_filterMap]
  exact ⟨_, h, rfl⟩

theorem DrawIn.eval (hd : DrawIn P g h w lb ub hp ph d tmps (i :: r)) (ho : d.ops[i]? = some o) (f : Frame) (hf : f.tmps = tmps) :
    ∀ x ∈ o.op.operands.toList, VRel P g w (evalAt d.ops (aheadBits d.ops) d.env0 d.vals i x) (f.eval x) := by
  intro x hx
  subst hf
  cases x with
  | tmp t =>
    simp only [evalAt, Frame.eval]
    exact hd.slotRel fun k hk => ((drawOk_spec hd.ok).1 i o ho).names t (mem_namesOf hx) k hk
  | const v => exact VRel.ofv P g w v
  | global a => simp [evalAt, VRel]
  | func f' => simp only [evalAt, Frame.eval, VRel]; exact ⟨#[], #[], rfl, VRels.nil, VRels.nil⟩

theorem DrawIn.wanted (hd : DrawIn P g h w lb ub hp ph d tmps (i :: r)) (ho : d.ops[i]? = some o) {b : Bool}
    (e : wantedB o d.ops (fun t => some (slotAt d.ops (aheadBits d.ops) d.env0 d.vals i t)) = some b) : Region.wanted o (yielded d.ops tmps) = b := by
  refine wantedRel (P := P) (g := g) (w := w) (fun j b' hg t ht => ?_) e
  right
  cases hj : d.ops[j]? with
  | none => rw [hj] at ht; cases ht
  | some oj =>
    rw [hj] at ht
    simp only [Option.bind_some] at ht
    have hlt := dstsOk_spec hd.dsts hj ht
    have hlt' : t < tmps.size := by rw [hd.size]; exact hlt
    refine ⟨_, tmps[t], rfl, Array.getElem?_eq_getElem hlt', ?_⟩
    have hw := ((drawOk_spec hd.ok).1 j oj hj).dst t ht
    have hb := ((drawOk_spec hd.ok).1 i o ho).guard j b' hg
    have := hd.slotRel (t := t) (fun k hk => by rw [hw] at hk; cases hk; exact .inl hb)
    rw [Array.getD_eq_getD_getElem?, Array.getElem?_eq_getElem hlt'] at this
    exact this

/-- the model has carried out an operation that B has carried out -/
theorem draw_put (hd : DrawIn P g h w lb ub hp ph d tmps (i :: r)) (ho : d.ops[i]? = some o) (he : effOp o = false) {v : BV} {v' : Value} (hv : d.vals[i]? = some (some v)) (hm : Mono g w g' w')
    (hop : ∀ j ∈ r, ∀ x, ph j = some x → g.m x = none → g'.m x = none) (hvr : VRel P g' w' v v') : DrawIn P g' h w' lb ub hp ph d (putV tmps o.dst v') r where
  ok := hd.ok
  dsts := hd.dsts
  size := by unfold putV; split <;> simp [hd.size]
  vlen := hd.vlen
  nodup := (List.nodup_cons.1 hd.nodup).2
  lt := fun j hj => hd.lt j (by simp [hj])
  ord := hd.ord.2
  dc := fun j hj hn k hk => by
    by_cases hji : j = i
    · subst hji
      intro hm
      have := hd.ord.1 k (by simp [hm]); rw [this] at hk; cases hk
    · intro hm
      exact hd.dc j hj (by simp [hji, hn]) k hk (by simp [hm])
  effs := fun e => by
    rw [hd.effs e]
    constructor
    · rintro ⟨h1, h2⟩
      rcases List.mem_cons.1 h1 with rfl | h1
      · obtain ⟨o', ho', he'⟩ := h2; rw [ho] at ho'; cases ho'; rw [he] at he'; cases he'
      · exact ⟨h1, h2⟩
    · rintro ⟨h1, h2⟩; exact ⟨by simp [h1], h2⟩
  effsOrd := hd.effsOrd
  vals := fun j hj hn => by
    by_cases hji : j = i
    · subst hji; exact ⟨v, hv⟩
    · exact hd.vals j hj (by simp [hji, hn])
  slots := fun t u hu => by
    have hnr := (List.nodup_cons.1 hd.nodup).1
    by_cases hdt : o.dst = some t
    · have hw := ((drawOk_spec hd.ok).1 i o ho).dst t hdt
      have hcs : curSlot d.ops d.env0 d.vals r t = v := by
        unfold curSlot
        rw [hw]
        dsimp only
        rw [if_neg hnr, List.getD, hv]; rfl
      rw [hcs]
      have hlt := dstsOk_spec hd.dsts ho hdt
      have : u = v' := by
        unfold putV at hu
        rw [hdt] at hu
        dsimp only at hu
        rw [Array.getElem?_setIfInBounds_self_of_lt (by rw [hd.size]; exact hlt)] at hu
        cases hu; rfl
      rw [this]; exact hvr
    · have hut : tmps[t]? = some u := by
        unfold putV at hu
        cases hdd : o.dst with
        | none => rw [hdd] at hu; exact hu
        | some t' =>
          rw [hdd] at hu hdt
          dsimp only at hu
          rwa [Array.getElem?_setIfInBounds_ne (fun e => hdt (by rw [e]))] at hu
      have hcs : curSlot d.ops d.env0 d.vals r t = curSlot d.ops d.env0 d.vals (i :: r) t := by
        unfold curSlot
        cases hw : writerOf d.ops t with
        | none => rfl
        | some k =>
          dsimp only
          have hki : k ≠ i := fun e => by
            subst e
            obtain ⟨o', ho', hd'⟩ := writerOf_spec hw
            rw [ho] at ho'; cases ho'
            exact hdt hd'
          by_cases hkr : k ∈ r
          · rw [if_pos hkr, if_pos (by simp [hkr])]
          · rw [if_neg hkr, if_neg (by simp [hkr, hki])]
      rw [hcs]
      exact VRel.mono hm _ _ (hd.slots t u hut)
  ready := fun j hj => hd.ready j (by simp [hj])
  opened := fun j hj o' u h1 h2 h3 => by
    obtain ⟨k1, k2⟩ := hd.opened j (by simp [hj]) o' u h1 h2 h3
    exact ⟨k1, k2.mono fun x hx hx' => ⟨hop j hj x hx hx', rfl⟩⟩
  phinj := hd.phinj
  phlt := hd.phlt

theorem effOp_defer {o : Oper} (he : effOp o = false) : ∀ c, o.op ≠ .defer c := fun c hc => by simp [effOp, hc] at he

section
variable {fn : FuncId} {ds : List Deferred} {kd : CallKind} {ro : Option Nat} {k : List Item} {cs : List Frame}

theorem finish_rf {ops : Array Oper} (ho : ops[i]? = some o) (v : Value) :
    (rf fn tmps (.inRegion ops (i :: r) :: k) ds kd ro).finish v = rf fn (putV tmps o.dst v) (.inRegion ops r :: k) ds kd ro := by
  cases hd : o.dst <;> simp [Frame.finish, ho, putV, hd]

/-- one operation without an effect -/
theorem draw_float (hr : HRel P g h w) (hd : DrawIn P g h w lb ub h ph d tmps (i :: r)) (ho : d.ops[i]? = some o) (he : effOp o = false) :
    ∃ v' g' w', Steps P (lone (rf fn tmps (.inRegion d.ops (i :: r) :: k) ds kd ro) cs w) (lone (rf fn (putV tmps o.dst v') (.inRegion d.ops r :: k) ds kd ro) cs w') ∧
      HRel P g' h w' ∧ Ext g h w g' h w' ∧ PhLt lb g h g' h ∧ DrawIn P g' h w' lb ub h ph d (putV tmps o.dst v') r := by
  have hnw : NoWait d.ops d.effs i := fun e hee => hd.ord.1 e ((hd.effs e).1 hee).1
  obtain ⟨v, hv⟩ := hd.ready i (by simp) o ho he hnw
  obtain ⟨_, hopen⟩ := hd.opened i (by simp) o v ho he hv
  have hnr := (List.nodup_cons.1 hd.nodup).1
  rcases hopen with ⟨hw, rfl⟩ | ⟨hw, hopen⟩
  · have hw' := hd.wanted ho hw
    refine ⟨undef, g, w, Steps.one ?_, hr, Ext.refl _ _ _, PhLt.refl _ _ _, draw_put hd ho he hv (Mono.refl _ _) (fun _ _ _ _ h => h) VRel.undef⟩
    rw [a_opSkip (by simp [ho, hw']), finish_rf ho]
  · have hw' := hd.wanted ho hw
    have heval := hd.eval ho (rf fn tmps (.inRegion d.ops (i :: r) :: k) ds kd ro) rfl
    have hstep := a_oper (P := P) (w := w) (cs := cs) (fn := fn) (tmps := tmps) (ds := ds) (kd := kd) (ro := ro) (k := k) (r := r) ho hw' (.inr (effOp_defer he))
    rcases hopen with ⟨_, hop⟩ | ⟨ha, h1, h2, hb, hop, hgm, hget⟩
    · obtain ⟨g', w', k1, k2, k3, v', k4, k5⟩ := sim_op hr heval hop
      refine ⟨v', g', w', Steps.one ?_, k1, k2, fun x hx hxm => ?_, draw_put hd ho he hv k2.mono (fun j hj x hx hxm => ?_) k5⟩
      · exact step_lone_go (by rw [hstep, a_value k4, finish_rf ho])
      · cases hx' : decide (x < h.next) with
        | true => exact k3 x (by simpa using hx') hxm
        | false =>
          have : h.get x = none := by
            cases hq : h.get x with
            | none => rfl
            | some q => have := hr.dom _ _ hq; simp at hx'; omega
          refine ⟨?_, by rfl⟩
          cases hq : g'.m x with
          | none => rfl
          | some q => have := k1.lt _ _ hq; simp at hx'; omega
      · cases hx' : decide (x < h.next) with
        | true => exact (k3 x (by simpa using hx') hxm).1
        | false =>
          cases hq : g'.m x with
          | none => rfl
          | some q => have := k1.lt _ _ hq; simp at hx'; omega
    · obtain ⟨v', w', k4, k1, k2, k5⟩ := real_op hr ha heval hop hget hgm
      refine ⟨v', _, w', Steps.one ?_, k1, k2, fun x hx hxm => ?_, draw_put hd ho he hv k2.mono (fun j hj x hx hxm => ?_) k5⟩
      · exact step_lone_go (by rw [hstep, a_value k4, finish_rf ho])
      · have := (hd.phlt i _ hb).1
        exact ⟨by rw [Gh.upd_other g (by omega)]; exact hxm, rfl⟩
      · rw [Gh.upd_other g (fun e => hnr ?_)]; exact hxm
        subst e
        rw [hd.phinj _ _ _ hb hx]; exact hj

/-- all that comes ahead of the next effect -/
theorem draw_run : ∀ {rest : List Nat} {g : Gh} {w : World} {tmps : Array Value}, HRel P g h w → DrawIn P g h w lb ub h ph d tmps rest →
    ∃ tmps' rest' g' w', Steps P (lone (rf fn tmps (.inRegion d.ops rest :: k) ds kd ro) cs w) (lone (rf fn tmps' (.inRegion d.ops rest' :: k) ds kd ro) cs w') ∧
      HRel P g' h w' ∧ Ext g h w g' h w' ∧ PhLt lb g h g' h ∧ DrawIn P g' h w' lb ub h ph d tmps' rest' ∧ ((rest' = [] ∧ d.effs = []) ∨ ∃ x r effs, rest' = x :: r ∧ d.effs = x :: effs) := by
  intro rest
  induction rest with
  | nil =>
    intro g w tmps hr hd
    refine ⟨tmps, [], g, w, Steps.refl _ _, hr, Ext.refl _ _ _, PhLt.refl _ _ _, hd, .inl ⟨rfl, ?_⟩⟩
    cases he : d.effs with
    | nil => rfl
    | cons x l => have := (hd.effs x).1 (by simp [he]); simp at this
  | cons i r ih =>
    intro g w tmps hr hd
    have hlt := hd.lt i (by simp)
    have ho := Array.getElem?_eq_getElem hlt
    cases he : effOp d.ops[i] with
    | false =>
      obtain ⟨v', g1, w1, s1, h1, e1, p1, d1⟩ := draw_float (fn := fn) (ds := ds) (kd := kd) (ro := ro) (k := k) (cs := cs) hr hd ho he
      obtain ⟨tmps', rest', g2, w2, s2, h2, e2, p2, d2, hc⟩ := ih h1 d1
      exact ⟨tmps', rest', g2, w2, s1.trans s2, h2, e1.trans e2, p1.trans p2, d2, hc⟩
    | true =>
      refine ⟨tmps, i :: r, g, w, Steps.refl _ _, hr, Ext.refl _ _ _, PhLt.refl _ _ _, hd, .inr ⟨i, r, ?_⟩⟩
      have him : i ∈ d.effs := (hd.effs i).2 ⟨by simp, _, ho, he⟩
      cases hl : d.effs with
      | nil => rw [hl] at him; cases him
      | cons x l =>
        refine ⟨l, rfl, ?_⟩
        rw [hl] at him
        rcases List.mem_cons.1 him with rfl | hil
        · rfl
        · exfalso
          have hp := hd.effsOrd
          rw [hl] at hp
          have h1 := (List.pairwise_cons.1 hp).1 i hil
          have h2 := hd.ord.1 x ((hd.effs x).1 (by simp [hl])).1
          rw [h2] at h1; cases h1
end
end
end Go.PB
