/- A drawn region under way: the model carries out what B has. A drawn region under way: what B carries out ahead, and asks again. A drawn region: its beginning, an effect's end, its end. -/
import Derived.Test.YtabfeencbambmaaGreatDoorPosD
set_option linter.unusedSimpArgs false
set_option linter.unusedVariables false
namespace Go.PB
open Go

def putV (tmps : Array Value) (dst : Option Nat) (v : Value) : Array Value :=
  match dst with | some d => tmps.setIfInBounds d v | none => tmps

theorem writerGo_spec {t : Nat} : ∀ (l : List Oper) (k j : Nat), writerGo t l k = some j → ∃ i o, j = k + i ∧ l[i]? = some o ∧ o.dst = some t := by
  intro l
  induction l with
  | nil => intro k j h; simp [writerGo] at h
  | cons x l ih =>
    intro k j h
    simp only [writerGo] at h
    split at h
    · rename_i hd; cases h; exact ⟨0, x, rfl, rfl, by simpa using hd⟩
    · obtain ⟨i, o, h1, h2, h3⟩ := ih _ _ h
      exact ⟨i + 1, o, by omega, by simpa using h2, h3⟩

theorem writerOf_spec {ops : Array Oper} {t k : Nat} (h : writerOf ops t = some k) : ∃ o, ops[k]? = some o ∧ o.dst = some t := by
  obtain ⟨i, o, h1, h2, h3⟩ := writerGo_spec _ _ _ h
  exact ⟨o, by simp at h1; subst h1; simpa using h2, h3⟩

theorem slotAt_congr {ops : Array Oper} {env0 : List BV} {vals vals' : List (Option BV)} {i : Nat} (hv : ∀ k, testB (aheadBits ops) i k = true → vals'.getD k none = vals.getD k none) :
    slotAt ops (aheadBits ops) env0 vals' i = slotAt ops (aheadBits ops) env0 vals i := by
  funext t
  unfold slotAt
  cases hw : writerOf ops t with
  | none => rfl
  | some k =>
    dsimp only
    cases hb : testB (aheadBits ops) i k with
    | true => rw [hv k hb]
    | false => rfl

theorem evalAt_congr {ops : Array Oper} {env0 : List BV} {vals vals' : List (Option BV)} {i : Nat} (hv : ∀ k, testB (aheadBits ops) i k = true → vals'.getD k none = vals.getD k none) :
    evalAt ops (aheadBits ops) env0 vals' i = evalAt ops (aheadBits ops) env0 vals i := by
  funext x
  cases x <;> simp only [evalAt]
  rw [slotAt_congr hv]

theorem Open.congr {P : Program} {g : Gh} {h hp : BHeap} {ops : Array Oper} {env0 : List BV} {vals vals' : List (Option BV)} {b : Option Nat} {i : Nat} {o : Oper} {v : BV}
    (hv : ∀ k, testB (aheadBits ops) i k = true → vals'.getD k none = vals.getD k none) (ho : Open P g h hp ops env0 vals b i o v) : Open P g h hp ops env0 vals' b i o v := by
  unfold Open at *
  rw [evalAt_congr hv, slotAt_congr hv]
  exact ho

section
variable {P : Program} {g g' : Gh} {h h' hp : BHeap} {w w' : World} {lb ub : Nat} {ph : Nat → Option Nat} {d : Draw} {tmps : Array Value} {i : Nat} {r : List Nat} {o : Oper}

theorem wantedRel {ops : Array Oper} {o : Oper} {env : Nat → Option BV} {tmps : Array Value}
    (hs : ∀ j b, o.guard = some (j, b) → ∀ d, (ops[j]?).bind (·.dst) = some d → (env d = none ∧ tmps[d]? = none) ∨ ∃ b v, env d = some b ∧ tmps[d]? = some v ∧ VRel P g w b v) {r : Bool} (e : wantedB o ops env = some r) :
    Region.wanted o (yielded ops tmps) = r := by
  unfold wantedB at e
  unfold Region.wanted
  split at e
  · rename_i hg; rw [hg]; cases e; rfl
  · rename_i j want hg
    rw [hg]
    dsimp only
    unfold yieldedB at e
    unfold yielded
    cases hd : (ops[j]?).bind (·.dst) with
    | none => simp [hd] at e; rw [e]; rfl
    | some d =>
      simp only [hd, Option.bind_some] at e ⊢
      rcases hs j want hg d hd with ⟨h1, h2⟩ | ⟨b, v, h1, h2, h3⟩
      · simp [h1] at e; rw [h2, e]; rfl
      · rw [h1] at e
        rw [h2]
        cases b <;> first
          | (simp at e; done)
          | (simp only [VRel] at h3; subst h3; simpa using e)
          | (have : ∀ b, v ≠ .bool b := by
               intro b hb; subst hb
               simp only [VRel] at h3
               first
                 | (cases h3; done)
                 | (obtain ⟨_, h3, _⟩ := h3; cases h3; done)
                 | (obtain ⟨_, _, h3⟩ := h3; cases h3; done)
                 | (obtain ⟨_, _, h3, _⟩ := h3; cases h3; done)
                 | (obtain ⟨_, _, _, h3⟩ := h3; cases h3; done)
                 | (obtain ⟨_, _, _, h3, _⟩ := h3; cases h3; done)
                 | (obtain ⟨_, _, _, _, h3, _⟩ := h3; cases h3; done)
                 | (obtain ⟨_, h3⟩ := h3; cases h3; done)
             simp at e; rw [e]
             cases v <;> first | rfl | exact absurd rfl (this _))

theorem dstsOk_spec {ops : Array Oper} {n : Nat} (h : dstsOk ops n = true) {i : Nat} {o : Oper} {t : Nat} (ho : ops[i]? = some o) (hd : o.dst = some t) : t < n := by
  unfold dstsOk at h
  rw [List.all_eq_true] at h
  have := h o (by have : ops.toList[i]? = some o := by simpa using ho
                  exact List.mem_of_getElem? this)
  rw [hd] at this
  simpa using this

/-- what an operation that is next sees in a slot -/
theorem DrawIn.slot (hd : DrawIn P g h w lb ub hp ph d tmps (i :: r)) {t : Nat}
    (hk : ∀ k, writerOf d.ops t = some k → testB (aheadBits d.ops) i k = true ∨ testB (aheadBits d.ops) k i = true ∨ k = i) :
    slotAt d.ops (aheadBits d.ops) d.env0 d.vals i t = curSlot d.ops d.env0 d.vals (i :: r) t := by
  unfold slotAt curSlot
  cases hw : writerOf d.ops t with
  | none => rfl
  | some k =>
    dsimp only
    have hlow := fun i o ho => ((drawOk_spec hd.ok).1 i o ho).low
    cases hb : testB (aheadBits d.ops) i k with
    | true =>
      have hn : k ∉ i :: r := fun hm => by
        have := hd.ord.1 k hm; rw [this] at hb; cases hb
      rw [if_neg hn]; rfl
    | false =>
      have hm : k ∈ i :: r := by
        rcases hk k hw with h1 | h1 | rfl
        · rw [h1] at hb; cases hb
        · apply Classical.byContradiction
          intro hn
          obtain ⟨o', ho', _⟩ := writerOf_spec hw
          have hlt : k < d.ops.size := (Array.getElem?_eq_some_iff.1 ho').1
          exact hd.dc k hlt hn i h1 (by simp)
        · simp
      rw [if_pos hm]; rfl

theorem DrawIn.slotRel (hd : DrawIn P g h w lb ub hp ph d tmps (i :: r)) {t : Nat}
    (hk : ∀ k, writerOf d.ops t = some k → testB (aheadBits d.ops) i k = true ∨ testB (aheadBits d.ops) k i = true ∨ k = i) :
    VRel P g w (slotAt d.ops (aheadBits d.ops) d.env0 d.vals i t) (tmps.getD t undef) := by
  rw [hd.slot hk]
  cases ht : tmps[t]? with
  | some v => rw [Array.getD_eq_getD_getElem?, ht]; exact hd.slots t v ht
  | none =>
    rw [Array.getD_eq_getD_getElem?, ht]
    have hle : tmps.size ≤ t := by rw [Array.getElem?_eq_none_iff] at ht; exact ht
    rw [hd.size] at hle
    unfold curSlot
    cases hw : writerOf d.ops t with
    | none =>
      dsimp only
      rw [List.getD, List.getElem?_eq_none hle]; exact VRel.undef
    | some k =>
      exfalso
      obtain ⟨o', ho', hd'⟩ := writerOf_spec hw
      have := dstsOk_spec hd.dsts ho' hd'
      omega

theorem mem_namesOf {o : Oper} {t : Nat} (h : Operand.tmp t ∈ o.op.operands.toList) : t ∈ namesOf o := by
  unfold namesOf
  rw [List.mem_filterMap]
  exact ⟨_, h, rfl⟩

theorem DrawIn.eval (hd : DrawIn P g h w lb ub hp ph d tmps (i :: r)) (ho : d.ops[i]? = some o) (f : Frame) (hf : f.tmps = tmps) :
    ∀ x ∈ o.op.operands.toList, VRel P g w (evalAt d.ops (aheadBits d.ops) d.env0 d.vals i x) (f.eval x) := by
  intro x hx
  subst hf
  cases x with
  | tmp t =>
    simp only [evalAt, Frame.eval]
    exact hd.slotRel fun k hk => ((drawOk_spec hd.ok).1 i o ho).names t (mem_namesOf hx) k hk
  | const v => exact VRel.ofv P g w v
  | global a => simp [evalAt, VRel]
  | func f' => simp only [evalAt, Frame.eval, VRel]; exact ⟨#[], #[], rfl, VRels.nil, VRels.nil⟩

theorem DrawIn.wanted (hd : DrawIn P g h w lb ub hp ph d tmps (i :: r)) (ho : d.ops[i]? = some o) {b : Bool}
    (e : wantedB o d.ops (fun t => some (slotAt d.ops (aheadBits d.ops) d.env0 d.vals i t)) = some b) : Region.wanted o (yielded d.ops tmps) = b := by
  refine wantedRel (P := P) (g := g) (w := w) (fun j b' hg t ht => ?_) e
  right
  cases hj : d.ops[j]? with
  | none => rw [hj] at ht; cases ht
  | some oj =>
    rw [hj] at ht
    simp only [Option.bind_some] at ht
    have hlt := dstsOk_spec hd.dsts hj ht
    have hlt' : t < tmps.size := by rw [hd.size]; exact hlt
    refine ⟨_, tmps[t], rfl, Array.getElem?_eq_getElem hlt', ?_⟩
    have hw := ((drawOk_spec hd.ok).1 j oj hj).dst t ht
    have hb := ((drawOk_spec hd.ok).1 i o ho).guard j b' hg
    have := hd.slotRel (t := t) (fun k hk => by rw [hw] at hk; cases hk; exact .inl hb)
    rw [Array.getD_eq_getD_getElem?, Array.getElem?_eq_getElem hlt'] at this
    exact this

/-- the model has carried out an operation that B has carried out -/
theorem draw_put (hd : DrawIn P g h w lb ub hp ph d tmps (i :: r)) (ho : d.ops[i]? = some o) (he : effOp o = false) {v : BV} {v' : Value} (hv : d.vals[i]? = some (some v)) (hm : Mono g w g' w')
    (hop : ∀ j ∈ r, ∀ x, ph j = some x → g.m x = none → g'.m x = none) (hvr : VRel P g' w' v v') : DrawIn P g' h w' lb ub hp ph d (putV tmps o.dst v') r where
  ok := hd.ok
  dsts := hd.dsts
  size := by unfold putV; split <;> simp [hd.size]
  vlen := hd.vlen
  nodup := (List.nodup_cons.1 hd.nodup).2
  lt := fun j hj => hd.lt j (by simp [hj])
  ord := hd.ord.2
  dc := fun j hj hn k hk => by
    by_cases hji : j = i
    · subst hji
      intro hm
      have := hd.ord.1 k (by simp [hm]); rw [this] at hk; cases hk
    · intro hm
      exact hd.dc j hj (by simp [hji, hn]) k hk (by simp [hm])
  effs := fun e => by
    rw [hd.effs e]
    constructor
    · rintro ⟨h1, h2⟩
      rcases List.mem_cons.1 h1 with rfl | h1
      · obtain ⟨o', ho', he'⟩ := h2; rw [ho] at ho'; cases ho'; rw [he] at he'; cases he'
      · exact ⟨h1, h2⟩
    · rintro ⟨h1, h2⟩; exact ⟨by simp [h1], h2⟩
  effsOrd := hd.effsOrd
  vals := fun j hj hn => by
    by_cases hji : j = i
    · subst hji; exact ⟨v, hv⟩
    · exact hd.vals j hj (by simp [hji, hn])
  slots := fun t u hu => by
    have hnr := (List.nodup_cons.1 hd.nodup).1
    by_cases hdt : o.dst = some t
    · have hw := ((drawOk_spec hd.ok).1 i o ho).dst t hdt
      have hcs : curSlot d.ops d.env0 d.vals r t = v := by
        unfold curSlot
        rw [hw]
        dsimp only
        rw [if_neg hnr, List.getD, hv]; rfl
      rw [hcs]
      have hlt := dstsOk_spec hd.dsts ho hdt
      have : u = v' := by
        unfold putV at hu
        rw [hdt] at hu
        dsimp only at hu
        rw [Array.getElem?_setIfInBounds_self_of_lt (by rw [hd.size]; exact hlt)] at hu
        cases hu; rfl
      rw [this]; exact hvr
    · have hut : tmps[t]? = some u := by
        unfold putV at hu
        cases hdd : o.dst with
        | none => rw [hdd] at hu; exact hu
        | some t' =>
          rw [hdd] at hu hdt
          dsimp only at hu
          rwa [Array.getElem?_setIfInBounds_ne (fun e => hdt (by rw [e]))] at hu
      have hcs : curSlot d.ops d.env0 d.vals r t = curSlot d.ops d.env0 d.vals (i :: r) t := by
        unfold curSlot
        cases hw : writerOf d.ops t with
        | none => rfl
        | some k =>
          dsimp only
          have hki : k ≠ i := fun e => by
            subst e
            obtain ⟨o', ho', hd'⟩ := writerOf_spec hw
            rw [ho] at ho'; cases ho'
            exact hdt hd'
          by_cases hkr : k ∈ r
          · rw [if_pos hkr, if_pos (by simp [hkr])]
          · rw [if_neg hkr, if_neg (by simp [hkr, hki])]
      rw [hcs]
      exact VRel.mono hm _ _ (hd.slots t u hut)
  ready := fun j hj => hd.ready j (by simp [hj])
  opened := fun j hj o' u h1 h2 h3 => by
    obtain ⟨k1, k2⟩ := hd.opened j (by simp [hj]) o' u h1 h2 h3
    exact ⟨k1, k2.mono fun x hx hx' => ⟨hop j hj x hx hx', rfl⟩⟩
  phinj := hd.phinj
  phlt := hd.phlt

theorem effOp_defer {o : Oper} (he : effOp o = false) : ∀ c, o.op ≠ .defer c := fun c hc => by simp [effOp, hc] at he

section
variable {fn : FuncId} {ds : List Deferred} {kd : CallKind} {ro : Option Nat} {k : List Item} {cs : List Frame}

theorem finish_rf {ops : Array Oper} (ho : ops[i]? = some o) (v : Value) :
    (rf fn tmps (.inRegion ops (i :: r) :: k) ds kd ro).finish v = rf fn (putV tmps o.dst v) (.inRegion ops r :: k) ds kd ro := by
  cases hd : o.dst <;> simp [Frame.finish, ho, putV, hd]

/-- one operation without an effect -/
theorem draw_float (hr : HRel P g h w) (hd : DrawIn P g h w lb ub h ph d tmps (i :: r)) (ho : d.ops[i]? = some o) (he : effOp o = false) :
    ∃ v' g' w', Steps P (lone (rf fn tmps (.inRegion d.ops (i :: r) :: k) ds kd ro) cs w) (lone (rf fn (putV tmps o.dst v') (.inRegion d.ops r :: k) ds kd ro) cs w') ∧
      HRel P g' h w' ∧ Ext g h w g' h w' ∧ PhLt lb g h g' h ∧ DrawIn P g' h w' lb ub h ph d (putV tmps o.dst v') r := by
  have hnw : NoWait d.ops d.effs i := fun e hee => hd.ord.1 e ((hd.effs e).1 hee).1
  obtain ⟨v, hv⟩ := hd.ready i (by simp) o ho he hnw
  obtain ⟨_, hopen⟩ := hd.opened i (by simp) o v ho he hv
  have hnr := (List.nodup_cons.1 hd.nodup).1
  rcases hopen with ⟨hw, rfl⟩ | ⟨hw, hopen⟩
  · have hw' := hd.wanted ho hw
    refine ⟨undef, g, w, Steps.one ?_, hr, Ext.refl _ _ _, PhLt.refl _ _ _, draw_put hd ho he hv (Mono.refl _ _) (fun _ _ _ _ h => h) VRel.undef⟩
    rw [a_opSkip (by simp [ho, hw']), finish_rf ho]
  · have hw' := hd.wanted ho hw
    have heval := hd.eval ho (rf fn tmps (.inRegion d.ops (i :: r) :: k) ds kd ro) rfl
    have hstep := a_oper (P := P) (w := w) (cs := cs) (fn := fn) (tmps := tmps) (ds := ds) (kd := kd) (ro := ro) (k := k) (r := r) ho hw' (.inr (effOp_defer he))
    rcases hopen with ⟨_, hop⟩ | ⟨ha, h1, h2, hb, hop, hgm, hget⟩
    · obtain ⟨g', w', k1, k2, k3, v', k4, k5⟩ := sim_op hr heval hop
      refine ⟨v', g', w', Steps.one ?_, k1, k2, fun x hx hxm => ?_, draw_put hd ho he hv k2.mono (fun j hj x hx hxm => ?_) k5⟩
      · exact step_lone_go (by rw [hstep, a_value k4, finish_rf ho])
      · cases hx' : decide (x < h.next) with
        | true => exact k3 x (by simpa using hx') hxm
        | false =>
          have : h.get x = none := by
            cases hq : h.get x with
            | none => rfl
            | some q => have := hr.dom _ _ hq; simp at hx'; omega
          refine ⟨?_, by rfl⟩
          cases hq : g'.m x with
          | none => rfl
          | some q => have := k1.lt _ _ hq; simp at hx'; omega
      · cases hx' : decide (x < h.next) with
        | true => exact (k3 x (by simpa using hx') hxm).1
        | false =>
          cases hq : g'.m x with
          | none => rfl
          | some q => have := k1.lt _ _ hq; simp at hx'; omega
    · obtain ⟨v', w', k4, k1, k2, k5⟩ := real_op hr ha heval hop hget hgm
      refine ⟨v', _, w', Steps.one ?_, k1, k2, fun x hx hxm => ?_, draw_put hd ho he hv k2.mono (fun j hj x hx hxm => ?_) k5⟩
      · exact step_lone_go (by rw [hstep, a_value k4, finish_rf ho])
      · have := (hd.phlt i _ hb).1
        exact ⟨by rw [Gh.upd_other g (by omega)]; exact hxm, rfl⟩
      · rw [Gh.upd_other g (fun e => hnr ?_)]; exact hxm
        subst e
        rw [hd.phinj _ _ _ hb hx]; exact hj

/-- all that comes ahead of the next effect -/
theorem draw_run : ∀ {rest : List Nat} {g : Gh} {w : World} {tmps : Array Value}, HRel P g h w → DrawIn P g h w lb ub h ph d tmps rest →
    ∃ tmps' rest' g' w', Steps P (lone (rf fn tmps (.inRegion d.ops rest :: k) ds kd ro) cs w) (lone (rf fn tmps' (.inRegion d.ops rest' :: k) ds kd ro) cs w') ∧
      HRel P g' h w' ∧ Ext g h w g' h w' ∧ PhLt lb g h g' h ∧ DrawIn P g' h w' lb ub h ph d tmps' rest' ∧ ((rest' = [] ∧ d.effs = []) ∨ ∃ x r effs, rest' = x :: r ∧ d.effs = x :: effs) := by
  intro rest
  induction rest with
  | nil =>
    intro g w tmps hr hd
    refine ⟨tmps, [], g, w, Steps.refl _ _, hr, Ext.refl _ _ _, PhLt.refl _ _ _, hd, .inl ⟨rfl, ?_⟩⟩
    cases he : d.effs with
    | nil => rfl
    | cons x l => have := (hd.effs x).1 (by simp [he]); simp at this
  | cons i r ih =>
    intro g w tmps hr hd
    have hlt := hd.lt i (by simp)
    have ho := Array.getElem?_eq_getElem hlt
    cases he : effOp d.ops[i] with
    | false =>
      obtain ⟨v', g1, w1, s1, h1, e1, p1, d1⟩ := draw_float (fn := fn) (ds := ds) (kd := kd) (ro := ro) (k := k) (cs := cs) hr hd ho he
      obtain ⟨tmps', rest', g2, w2, s2, h2, e2, p2, d2, hc⟩ := ih h1 d1
      exact ⟨tmps', rest', g2, w2, s1.trans s2, h2, e1.trans e2, p1.trans p2, d2, hc⟩
    | true =>
      refine ⟨tmps, i :: r, g, w, Steps.refl _ _, hr, Ext.refl _ _ _, PhLt.refl _ _ _, hd, .inr ⟨i, r, ?_⟩⟩
      have him : i ∈ d.effs := (hd.effs i).2 ⟨by simp, _, ho, he⟩
      cases hl : d.effs with
      | nil => rw [hl] at him; cases him
      | cons x l =>
        refine ⟨l, rfl, ?_⟩
        rw [hl] at him
        rcases List.mem_cons.1 him with rfl | hil
        · rfl
        · exfalso
          have hp := hd.effsOrd
          rw [hl] at hp
          have h1 := (List.pairwise_cons.1 hp).1 i hil
          have h2 := hd.ord.1 x ((hd.effs x).1 (by simp [hl])).1
          rw [h2] at h1; cases h1
end
end
end Go.PB

set_option linter.unusedSimpArgs false
set_option linter.unusedVariables false
namespace Go.PB
open Go

section
variable {P : Program} {g : Gh} {h h' hp : BHeap} {w : World} {lb ub : Nat}

def FInv (P : Program) (g : Gh) (h : BHeap) (lb : Nat) (ops : Array Oper) (env0 : List BV) (effs : List Nat) (vals : List (Option BV)) (ph : Nat → Option Nat) (rest : List Nat) : Prop :=
  (∀ i ∈ rest, ∀ o v, ops[i]? = some o → effOp o = false → vals[i]? = some (some v) → NoWait ops effs i ∧ Open P g h h ops env0 vals (ph i) i o v) ∧
  (∀ i j b, ph i = some b → ph j = some b → i = j) ∧ (∀ i b, ph i = some b → lb ≤ b ∧ b < h.next)

def Closed (ops : Array Oper) (vals : List (Option BV)) (rest : List Nat) : Prop :=
  ∀ i ∈ rest, ∀ o, ops[i]? = some o → effOp o = false → Valued vals i → ∀ k, testB (aheadBits ops) i k = true → Valued vals k

def Ready (ops : Array Oper) (effs : List Nat) (vals : List (Option BV)) (m : Nat) : Prop :=
  ∀ i, i < m → ∀ o, ops[i]? = some o → effOp o = false → NoWait ops effs i → Valued vals i

theorem getD_set_ne {vals : List (Option BV)} {m k : Nat} (h : k ≠ m) (x : Option BV) : (vals.set m x).getD k none = vals.getD k none := by
  simp only [List.getD]; rw [List.getElem?_set_ne (by omega)]

theorem valued_set {vals : List (Option BV)} {m k : Nat} {v : BV} (h : Valued vals k) : Valued (vals.set m (some v)) k := by
  obtain ⟨u, hu⟩ := h
  by_cases hk : k = m
  · subst hk; exact ⟨v, by rw [List.getElem?_set_self (List.getElem?_eq_some_iff.1 hu).1]⟩
  · exact ⟨u, by rw [List.getElem?_set_ne (by omega)]; exact hu⟩

theorem hle_new (hr : HRel P g h w) (o : BObj) : HLe h (h.new o) := fun b ob hb => by
  have := hr.dom _ _ hb
  rw [BHeap.get_new, if_neg (by omega)]; exact hb

theorem noWait_trans {ops : Array Oper} {effs : List Nat} {i k : Nat} (hlow : ∀ (i : Nat) o, ops[i]? = some o → ∀ e ∈ o.after.toList, Region.binds .any e = true → e.on < i)
    (hn : NoWait ops effs i) (hk : testB (aheadBits ops) i k = true) : NoWait ops effs k := fun e he => by
  cases hb : testB (aheadBits ops) k e with
  | false => rfl
  | true => have := bits_trans hlow _ _ _ hk hb; rw [hn e he] at this; cases this

theorem floats_sound {ops : Array Oper} {env0 : List BV} {effs rest : List Nat} (hlow : ∀ (i : Nat) o, ops[i]? = some o → ∀ e ∈ o.after.toList, Region.binds .any e = true → e.on < i)
    (heff : ∀ k ∈ rest, effB ops k → k ∈ effs) {h' : BHeap} {vals' : List (Option BV)} :
    ∀ (n m : Nat) (h : BHeap) (vals : List (Option BV)) (ph : Nat → Option Nat), floats P ops (aheadBits ops) env0 effs (List.range' m n) h vals = some (h', vals') → HRel P g h w →
      FInv P g h lb ops env0 effs vals ph rest → lb ≤ h.next → vals.length = ops.size → m + n = ops.size → Closed ops vals rest → Ready ops effs vals m → (∀ i, i < ops.size → ¬ Valued vals i → i ∈ rest) →
      ∃ ph', HRel P g h' w ∧ Ext g h w g h' w ∧ Ph g h g h' ∧ vals'.length = ops.size ∧ (∀ (i : Nat) v, vals[i]? = some (some v) → vals'[i]? = some (some v)) ∧ FInv P g h' lb ops env0 effs vals' ph' rest ∧ Ready ops effs vals' ops.size := by
  intro n
  induction n with
  | zero =>
    intro m h vals ph e hr hf hlb hlen hmn hcl hrd hpend
    simp only [List.range'_zero, floats] at e
    cases e
    exact ⟨ph, hr, Ext.refl _ _ _, Ph.refl _ _, hlen, fun _ _ h => h, hf, by rw [← hmn]; simpa using hrd⟩
  | succ n ih =>
    intro m h vals ph e hr hf hlb hlen hmn hcl hrd hpend
    have hmlt : m < ops.size := by omega
    have ho := Array.getElem?_eq_getElem hmlt
    generalize ops[m] = o at ho
    rw [List.range'_succ] at e
    simp only [floats, ho] at e
    cases hvm : vals.getD m none with
    | some u =>
      rw [hvm] at e
      have hval : Valued vals m := by
        have hml : m < vals.length := by omega
        rw [List.getD, List.getElem?_eq_getElem hml] at hvm
        exact ⟨u, by rw [List.getElem?_eq_getElem hml]; simpa using hvm⟩
      refine ih (m + 1) h vals ph e hr hf hlb hlen (by omega) hcl (fun i hi o' ho' he hn => ?_) hpend
      by_cases him : i = m
      · subst him; exact hval
      · exact hrd i (by omega) o' ho' he hn
    | none =>
      rw [hvm] at e
      dsimp only at e
      have hnone : ¬ Valued vals m := fun ⟨v, hv⟩ => by rw [List.getD, hv] at hvm; cases hvm
      split at e
      · rename_i hc
        refine ih (m + 1) h vals ph e hr hf hlb hlen (by omega) hcl (fun i hi o' ho' he hn => ?_) hpend
        by_cases him : i = m
        · subst him
          rw [ho] at ho'; cases ho'
          rw [he, Bool.false_or, List.any_eq_true] at hc
          obtain ⟨e', h1, h2⟩ := hc
          rw [hn e' h1] at h2; cases h2
        · exact hrd i (by omega) o' ho' he hn
      · rename_i hc
        rw [Bool.or_eq_true, not_or] at hc
        obtain ⟨he, hnw⟩ := hc
        have he : effOp o = false := by simpa using he
        have hnw : NoWait ops effs m := fun e' h1 => by
          cases hb : testB (aheadBits ops) m e' with
          | false => rfl
          | true => exact absurd (List.any_eq_true.2 ⟨e', h1, hb⟩) hnw
        have hmrest : m ∈ rest := hpend m hmlt hnone
        -- all that comes ahead has its value
        have hahead : ∀ k, testB (aheadBits ops) m k = true → Valued vals k := fun k hk => by
          have hkm := bits_lt hlow m k hk
          apply Classical.byContradiction
          intro hnv
          have hkr := hpend k (by omega) hnv
          have hko := Array.getElem?_eq_getElem (show k < ops.size by omega)
          cases hke : effOp ops[k] with
          | true =>
            have := heff k hkr ⟨_, hko, hke⟩
            rw [hnw k this] at hk; cases hk
          | false => exact hnv (hrd k hkm _ hko hke (noWait_trans hlow hnw hk))
        -- what holds of any value laid
        have hstep : ∀ (v : BV) (h1 : BHeap) (ph1 : Nat → Option Nat), HRel P g h1 w → Ext g h w g h1 w → Ph g h g h1 → h.next ≤ h1.next →
            floats P ops (aheadBits ops) env0 effs (List.range' (m + 1) n) h1 (vals.set m (some v)) = some (h', vals') →
            (∀ i ∈ rest, i ≠ m → ∀ o' u, ops[i]? = some o' → effOp o' = false → vals[i]? = some (some u) → Open P g h1 h1 ops env0 vals (ph1 i) i o' u) →
            Open P g h1 h1 ops env0 vals (ph1 m) m o v →
            (∀ i j b, ph1 i = some b → ph1 j = some b → i = j) → (∀ i b, ph1 i = some b → lb ≤ b ∧ b < h1.next) →
            ∃ ph', HRel P g h' w ∧ Ext g h w g h' w ∧ Ph g h g h' ∧ vals'.length = ops.size ∧ (∀ (i : Nat) v, vals[i]? = some (some v) → vals'[i]? = some (some v)) ∧ FInv P g h' lb ops env0 effs vals' ph' rest ∧ Ready ops effs vals' ops.size := by
          intro v h1 ph1 hr1 hx1 hp1 hn1 e1 hold hnew hinj hlt
          obtain ⟨ph', k1, k2, k3, k4, k5, k6, k7⟩ := ih (m + 1) h1 (vals.set m (some v)) ph1 e1 hr1 (by
              refine ⟨fun i hi o' u ho' he' hv' => ?_, hinj, hlt⟩
              by_cases him : i = m
              · subst him
                rw [List.getElem?_set_self (by omega)] at hv'
                cases hv'
                rw [ho] at ho'; cases ho'
                exact ⟨hnw, hnew.congr fun k hk => getD_set_ne (by have := bits_lt hlow _ _ hk; omega) _⟩
              · rw [List.getElem?_set_ne (by omega)] at hv'
                refine ⟨(hf.1 i hi o' u ho' he' hv').1, (hold i hi him o' u ho' he' hv').congr fun k hk => getD_set_ne (fun e => ?_) _⟩
                subst e
                exact hnone (hcl i hi o' ho' he' ⟨u, hv'⟩ _ hk)) (by omega) (by simpa using hlen) (by omega) (by
              intro i hi o' ho' he' hv' k hk
              by_cases him : i = m
              · subst him; exact valued_set (hahead k hk)
              · obtain ⟨u, hu⟩ := hv'
                rw [List.getElem?_set_ne (by omega)] at hu
                exact valued_set (hcl i hi o' ho' he' ⟨u, hu⟩ k hk)) (by
              intro i hi o' ho' he' hn'
              by_cases him : i = m
              · subst him; exact ⟨v, by rw [List.getElem?_set_self (by omega)]⟩
              · exact valued_set (hrd i (by omega) o' ho' he' hn')) (by
              intro i hi hnv
              exact hpend i hi fun hv => hnv (valued_set hv))
          refine ⟨ph', k1, hx1.trans k2, hp1.trans hn1 k3, k4, fun i u hu => ?_, k6, k7⟩
          refine k5 i u ?_
          rw [List.getElem?_set_ne (fun e => ?_)]; exact hu
          subst e; exact hnone ⟨u, hu⟩
        split at e
        · rename_i hw
          cases hop : opB P h (evalAt ops (aheadBits ops) env0 vals m) o with
          | none => rw [hop] at e; cases e
          | some q =>
            obtain ⟨nx, h1⟩ := q
            rw [hop] at e
            cases nx <;> try (cases e; done)
            rename_i v
            dsimp only at e
            cases ha : allocOp P o with
            | false =>
              obtain ⟨hh, _⟩ := opB_le (h' := h) (fun _ _ h => h) he ha hop
              subst hh
              exact hstep v h1 ph hr (Ext.refl _ _ _) (Ph.refl _ _) (Nat.le_refl _) e (fun i hi _ o' u ho' he' hv' => (hf.1 i hi o' u ho' he' hv').2)
                (.inr ⟨hw, .inl ⟨ha, hop⟩⟩) hf.2.1 hf.2.2
            | true =>
              obtain ⟨ob, rfl⟩ := opB_alloc ha hop
              obtain ⟨hr1, hx1⟩ := hr.newB ob
              refine hstep v (h.new ob) (fun j => if j = m then some h.next else ph j) hr1 hx1 (Ph.new ob) (by simp) e (fun i hi him o' u ho' he' hv' => ?_) ?_ (fun i j b hi hj => ?_) (fun i b hi => ?_)
              · obtain ⟨_, ho2⟩ := hf.1 i hi o' u ho' he' hv'
                simp only [if_neg him]
                rcases ho2 with k1 | ⟨k1, ⟨k2, k3⟩ | ⟨k2, a, b, k3, k4, k5, k6⟩⟩
                · exact .inl k1
                · exact .inr ⟨k1, .inl ⟨k2, (opB_le (hle_new hr ob) he' k2 k3).2⟩⟩
                · refine .inr ⟨k1, .inr ⟨k2, a, b, k3, k4, k5, ?_⟩⟩
                  have := (hf.2.2 i _ k3).2
                  rw [BHeap.get_new, if_neg (by omega)]; exact k6
              · simp only [if_pos]
                exact .inr ⟨hw, .inr ⟨ha, h, _, rfl, hop, hr.next_none, rfl⟩⟩
              · by_cases h1 : i = m
                · by_cases h2 : j = m
                  · rw [h1, h2]
                  · simp only [if_pos h1] at hi
                    simp only [if_neg h2] at hj
                    cases hi
                    exact absurd (hf.2.2 j _ hj).2 (Nat.lt_irrefl _)
                · by_cases h2 : j = m
                  · simp only [if_neg h1] at hi
                    simp only [if_pos h2] at hj
                    cases hj
                    exact absurd (hf.2.2 i _ hi).2 (Nat.lt_irrefl _)
                  · simp only [if_neg h1] at hi
                    simp only [if_neg h2] at hj
                    exact hf.2.1 i j b hi hj
              · by_cases h1 : i = m
                · simp only [if_pos h1] at hi; cases hi; exact ⟨hlb, by simp⟩
                · simp only [if_neg h1] at hi
                  have := hf.2.2 i b hi
                  exact ⟨this.1, by simp; omega⟩
        · rename_i hw
          exact hstep BV.undef h ph hr (Ext.refl _ _ _) (Ph.refl _ _) (Nat.le_refl _) e (fun i hi _ o' u ho' he' hv' => (hf.1 i hi o' u ho' he' hv').2) (.inl ⟨hw, rfl⟩) hf.2.1 hf.2.2
        · cases e

theorem recheck_sound {ops : Array Oper} {env0 : List BV} {vals : List (Option BV)} {x : Nat} : ∀ (is : List Nat), recheck P ops (aheadBits ops) env0 vals x h is = true →
    ∀ i ∈ is, ∀ o v, ops[i]? = some o → vals[i]? = some (some v) → effOp o = false → allocOp P o = false → loadOp o = true → testB (aheadBits ops) x i = false →
      wantedB o ops (fun t => some (slotAt ops (aheadBits ops) env0 vals i t)) = some true → opB P h (evalAt ops (aheadBits ops) env0 vals i) o = some (.value v, h) := by
  intro is
  induction is with
  | nil => intro _ i hi; cases hi
  | cons j is ih =>
    intro e i hi o v ho hv he ha hlo hb hw
    simp only [recheck, Bool.and_eq_true] at e
    obtain ⟨e1, e2⟩ := e
    rcases List.mem_cons.1 hi with rfl | hi
    · have hv' : vals.getD i none = some v := by rw [List.getD, hv]; rfl
      rw [ho, hv'] at e1
      simp only [he, ha, hlo, hb, hw, Bool.or_false, Bool.not_true, Bool.false_eq_true, if_false] at e1
      cases hop : opB P h (evalAt ops (aheadBits ops) env0 vals i) o with
      | none => rw [hop] at e1; cases e1
      | some q =>
        obtain ⟨nx, h1⟩ := q
        rw [hop] at e1
        cases nx <;> try (cases e1; done)
        have := (beq_sound 40).1 _ _ e1
        subst this
        have := (opB_le (h' := h) (fun _ _ h => h) he ha hop).1
        subst this
        rfl
    · exact ih e2 i hi o v ho hv he ha hlo hb hw
end
end Go.PB

set_option linter.unusedSimpArgs false
set_option linter.unusedVariables false
namespace Go.PB
open Go

section
variable {P : Program} {g : Gh} {h h' hp : BHeap} {w : World} {lb ub : Nat} {ph : Nat → Option Nat} {d d' : Draw} {tmps : Array Value} {x : Nat} {r : List Nat} {o : Oper}

theorem draw_next (hr : HRel P g h w) (hd : DrawIn P g h w lb ub hp ph d tmps (x :: r)) {effs' : List Nat} (hde : d.effs = x :: effs') (ho : d.ops[x]? = some o) (hlb : lb ≤ h.next) (hub : ub ≤ h.next)
    {v : BV} {v' : Value} (hv : VRel P g w v v') (e : drawNext P d x v h = some (d', h')) :
    ∃ ph', HRel P g h' w ∧ Ext g h w g h' w ∧ Ph g h g h' ∧ d'.ops = d.ops ∧ d'.env0 = d.env0 ∧ DrawIn P g h' w lb h'.next h' ph' d' (putV tmps o.dst v') r := by
  have hok := drawOk_spec hd.ok
  have hlow : ∀ (i : Nat) o, d.ops[i]? = some o → ∀ e ∈ o.after.toList, Region.binds .any e = true → e.on < i := fun i o ho => (hok.1 i o ho).low
  have hxm : x ∈ d.effs := by rw [hde]; simp
  obtain ⟨_, ox, hox, hxe⟩ := (hd.effs x).1 hxm
  rw [ho] at hox; cases hox
  have hxlt : x < d.ops.size := hd.lt x (by simp)
  have hxnr := (List.nodup_cons.1 hd.nodup).1
  unfold drawNext at e
  dsimp only at e
  split at e
  · rename_i hre
    simp only [Option.map_eq_some_iff] at e
    obtain ⟨⟨h1, vals'⟩, e, e2⟩ := e
    simp only [Prod.mk.injEq] at e2
    obtain ⟨rfl, rfl⟩ := e2
    rw [hde, List.tail_cons, List.range_eq_range'] at e
    rw [List.range_eq_range'] at hre
    -- what stood, at the memory of now
    have hvx : ∀ i, i ≠ x → (d.vals.set x (some v))[i]? = d.vals[i]? := fun i hi => by rw [List.getElem?_set_ne (by omega)]
    have hxl : x < d.vals.length := by rw [hd.vlen]; exact hxlt
    have hvxx : (d.vals.set x (some v))[x]? = some (some v) := by rw [List.getElem?_set_self hxl]
    have hinv : FInv P g h lb d.ops d.env0 effs' (d.vals.set x (some v)) ph r := by
      refine ⟨fun i hi o' u ho' he' hv' => ?_, hd.phinj, fun i b hb => ⟨(hd.phlt i b hb).1, Nat.lt_of_lt_of_le (hd.phlt i b hb).2 hub⟩⟩
      have hix : i ≠ x := fun e => hxnr (e ▸ hi)
      have hv0 : d.vals[i]? = some (some u) := by rw [← hvx i hix]; exact hv'
      obtain ⟨hnw, hopen⟩ := hd.opened i (by simp [hi]) o' u ho' he' hv0
      have hcong : ∀ k, testB (aheadBits d.ops) i k = true → (d.vals.set x (some v)).getD k none = d.vals.getD k none := fun k hk => getD_set_ne (fun e => by subst e; rw [hnw _ hxm] at hk; cases hk) _
      refine ⟨fun e' he' => hnw e' (by rw [hde]; simp [he']), ?_⟩
      refine Open.congr hcong ?_
      rcases hopen with k1 | ⟨k1, ⟨k2, k3⟩ | k2⟩
      · exact .inl k1
      · refine .inr ⟨k1, .inl ⟨k2, ?_⟩⟩
        cases hlo : loadOp o' with
        | false => exact opB_pure he' k2 hlo k3 h
        | true =>
          refine recheck_sound _ hre i ?_ o' u ho' hv0 he' k2 hlo (hd.ord.1 i (by simp [hi])) k1
          rw [List.mem_range'_1]
          have := hd.lt i (by simp [hi]); omega
      · exact .inr ⟨k1, .inr k2⟩
    have hval1 : ∀ i, Valued d.vals i → Valued (d.vals.set x (some v)) i := fun i h => valued_set h
    have hcl : Closed d.ops (d.vals.set x (some v)) r := by
      intro i hi o' ho' he' hv' k hk
      have hix : i ≠ x := fun e => hxnr (e ▸ hi)
      obtain ⟨u, hu⟩ := hv'
      rw [hvx i hix] at hu
      have hnw := (hd.opened i (by simp [hi]) o' u ho' he' hu).1
      have hkl : k < d.ops.size := by have := bits_lt hlow i k hk; have := hd.lt i (by simp [hi]); omega
      by_cases hkr : k ∈ x :: r
      · have hko := Array.getElem?_eq_getElem hkl
        cases hke : effOp d.ops[k] with
        | true => have := hnw k ((hd.effs k).2 ⟨hkr, _, hko, hke⟩); rw [this] at hk; cases hk
        | false => exact hval1 k (hd.ready k hkr _ hko hke (noWait_trans hlow hnw hk))
      · exact hval1 k (hd.vals k hkl hkr)
    have hpend : ∀ i, i < d.ops.size → ¬ Valued (d.vals.set x (some v)) i → i ∈ r := by
      intro i hi hn
      apply Classical.byContradiction
      intro hir
      by_cases hix : i = x
      · subst hix; exact hn ⟨v, hvxx⟩
      · exact hn (hval1 i (hd.vals i hi (by simp [hix, hir])))
    have heff : ∀ k ∈ r, effB d.ops k → k ∈ effs' := by
      intro k hk he
      have := (hd.effs k).2 ⟨by simp [hk], he⟩
      rw [hde] at this
      rcases List.mem_cons.1 this with rfl | h1
      · exact absurd hk hxnr
      · exact h1
    obtain ⟨ph', k1, k2, k3, k4, k5, k6, k7⟩ := floats_sound hlow heff d.ops.size 0 h _ ph e hr hinv hlb (by simpa using hd.vlen) (by omega) hcl (fun i hi => by omega) hpend
    refine ⟨ph', k1, k2, k3, rfl, rfl, ?_⟩
    exact {
      ok := hd.ok
      dsts := hd.dsts
      size := by unfold putV; split <;> simp [hd.size]
      vlen := k4
      nodup := (List.nodup_cons.1 hd.nodup).2
      lt := fun j hj => hd.lt j (by simp [hj])
      ord := hd.ord.2
      dc := fun j hj hn k hk => by
        by_cases hji : j = x
        · subst hji
          intro hm
          have := hd.ord.1 k (by simp [hm]); rw [this] at hk; cases hk
        · intro hm
          exact hd.dc j hj (by simp [hji, hn]) k hk (by simp [hm])
      effs := fun e' => by
        simp only [hde, List.tail_cons]
        constructor
        · intro h1
          obtain ⟨h2, h3⟩ := (hd.effs e').1 (by rw [hde]; simp [h1])
          refine ⟨?_, h3⟩
          rcases List.mem_cons.1 h2 with rfl | h2
          · exfalso
            have hp := hd.effsOrd
            rw [hde] at hp
            have := bits_lt hlow _ _ ((List.pairwise_cons.1 hp).1 _ h1)
            omega
          · exact h2
        · rintro ⟨h1, h2⟩; exact heff _ h1 h2
      effsOrd := by
        have hp := hd.effsOrd
        rw [hde] at hp
        simp only [hde, List.tail_cons]
        exact (List.pairwise_cons.1 hp).2
      vals := fun j hj hn => by
        have : Valued (d.vals.set x (some v)) j := Classical.byContradiction fun h => hn (hpend j hj h)
        obtain ⟨u, hu⟩ := this
        exact ⟨u, k5 j u hu⟩
      slots := fun t u hu => by
        by_cases hdt : o.dst = some t
        · have hw := (hok.1 x o ho).dst t hdt
          have hcs : curSlot d.ops d.env0 vals' r t = v := by
            unfold curSlot
            rw [hw]
            dsimp only
            rw [if_neg hxnr, List.getD, k5 x v hvxx]; rfl
          show VRel P g w (curSlot d.ops d.env0 vals' r t) u
          rw [hcs]
          have hlt := dstsOk_spec hd.dsts ho hdt
          have : u = v' := by
            unfold putV at hu
            rw [hdt] at hu
            dsimp only at hu
            rw [Array.getElem?_setIfInBounds_self_of_lt (by rw [hd.size]; exact hlt)] at hu
            cases hu; rfl
          rw [this]; exact hv
        · have hut : tmps[t]? = some u := by
            unfold putV at hu
            cases hdd : o.dst with
            | none => rw [hdd] at hu; exact hu
            | some t' =>
              rw [hdd] at hu hdt
              dsimp only at hu
              rwa [Array.getElem?_setIfInBounds_ne (fun e => hdt (by rw [e]))] at hu
          have hcs : curSlot d.ops d.env0 vals' r t = curSlot d.ops d.env0 d.vals (x :: r) t := by
            unfold curSlot
            cases hw : writerOf d.ops t with
            | none => rfl
            | some k =>
              dsimp only
              obtain ⟨o', ho', hd'⟩ := writerOf_spec hw
              have hki : k ≠ x := fun e => by
                subst e
                rw [ho] at ho'; cases ho'
                exact hdt hd'
              by_cases hkr : k ∈ r
              · rw [if_pos hkr, if_pos (by simp [hkr])]
              · rw [if_neg hkr, if_neg (by simp [hkr, hki])]
                obtain ⟨u', hu'⟩ := hd.vals k (Array.getElem?_eq_some_iff.1 ho').1 (by simp [hkr, hki])
                have := k5 k u' (by rw [hvx k hki]; exact hu')
                rw [List.getD, List.getD, this, hu']
          show VRel P g w (curSlot d.ops d.env0 vals' r t) u
          rw [hcs]
          exact hd.slots t u hut
      ready := fun j hj o' ho' he' hn => by
        have hn' : NoWait d.ops effs' j := by simpa only [hde, List.tail_cons] using hn
        exact k7 j (hd.lt j (by simp [hj])) o' ho' he' hn'
      opened := fun j hj o' u ho' he' hv' => by
        have := k6.1 j hj o' u ho' he' hv'
        simpa only [hde, List.tail_cons] using this
      phinj := k6.2.1
      phlt := k6.2.2 }
  · cases e

/-- a drawn region begins -/
theorem draw_init (hr : HRel P g h w) {ops : Array Oper} {env : List BV} (hv : VRels P g w env tmps.toList) (hok : drawOk ops = true) (hds : dstsOk ops env.length = true) (hlb : lb ≤ h.next) (t : Nat) {vals : List (Option BV)}
    (e : floats P ops (aheadBits ops) env (drawEffs ops) (List.range ops.size) h (List.replicate ops.size none) = some (h', vals)) :
    ∃ ph, HRel P g h' w ∧ Ext g h w g h' w ∧ Ph g h g h' ∧ DrawIn P g h' w lb h'.next h' ph { ops, env0 := env, vals, effs := drawEffs ops } tmps (Region.linearise .any ops t) := by
  have hsp := drawOk_spec hok
  have hlow : ∀ (i : Nat) o, ops[i]? = some o → ∀ e ∈ o.after.toList, Region.binds .any e = true → e.on < i := fun i o ho => (hsp.1 i o ho).low
  have hlin := linear_spec hlow ops.size t (Array.replicate ops.size false) (by simp) (fun i hi => by
    rw [Array.getElem?_replicate] at hi; split at hi <;> cases hi)
  obtain ⟨l1, l2, l3, l4⟩ := hlin
  have hall : ∀ i, i < ops.size → i ∈ Region.linearise .any ops t := fun i hi => l4 (by
    simp only [Array.toList_replicate]
    exact Nat.le_trans (List.length_filter_le _ _) (by simp)) i (by rw [Array.getElem?_replicate, if_pos hi])
  have hlt : ∀ i ∈ Region.linearise .any ops t, i < ops.size := fun i hi => by
    have := l2 i hi
    rw [Array.getElem?_replicate] at this
    split at this
    · assumption
    · cases this
  rw [List.range_eq_range'] at e
  have hnone : ∀ (i : Nat) v, (List.replicate ops.size (none : Option BV))[i]? ≠ some (some v) := fun i v h => by
    rw [List.getElem?_replicate] at h; split at h <;> cases h
  have hmem : ∀ e, e ∈ drawEffs ops ↔ effB ops e := fun e => by
    unfold drawEffs
    rw [List.mem_filter, List.mem_range]
    constructor
    · rintro ⟨h1, h2⟩
      exact ⟨_, Array.getElem?_eq_getElem h1, by simpa [Array.getElem?_eq_getElem h1] using h2⟩
    · rintro ⟨o, h1, h2⟩
      exact ⟨(Array.getElem?_eq_some_iff.1 h1).1, by simpa [h1] using h2⟩
  obtain ⟨ph', k1, k2, k3, k4, k5, k6, k7⟩ := floats_sound (P := P) (g := g) (w := w) (lb := lb) (rest := Region.linearise .any ops t) hlow (fun k _ he => (hmem k).2 he) ops.size 0 h _ (fun _ => none) e hr
    ⟨fun i _ o v _ _ h => absurd h (hnone i v), (fun i j b h => nomatch h), (fun i b h => nomatch h)⟩ hlb (by simp) (by omega)
    (fun i _ o _ _ ⟨v, hv⟩ => absurd hv (hnone i v)) (fun i hi => by omega) (fun i hi _ => hall i hi)
  refine ⟨ph', k1, k2, k3, ?_⟩
  exact {
    ok := hok
    dsts := hds
    size := by have := hv.length; simpa using this
    vlen := k4
    nodup := l1
    lt := hlt
    ord := l3
    dc := fun i hi hn => absurd (hall i hi) hn
    effs := fun e => by
      rw [hmem]
      constructor
      · intro h1
        obtain ⟨o, h2, h3⟩ := h1
        exact ⟨hall e (Array.getElem?_eq_some_iff.1 h2).1, o, h2, h3⟩
      · exact fun h => h.2
    effsOrd := hsp.2
    vals := fun i hi hn => absurd (hall i hi) hn
    slots := fun s u hu => by
      have hcs : curSlot ops env vals (Region.linearise .any ops t) s = env.getD s BV.undef := by
        unfold curSlot
        cases hw : writerOf ops s with
        | none => rfl
        | some k =>
          dsimp only
          obtain ⟨o', ho', _⟩ := writerOf_spec hw
          rw [if_pos (hall k (Array.getElem?_eq_some_iff.1 ho').1)]
      show VRel P g w (curSlot ops env vals (Region.linearise .any ops t) s) u
      rw [hcs]
      obtain ⟨b, hb, hbv⟩ := hv.get' (show tmps.toList[s]? = some u by simpa using hu)
      rw [List.getD, hb]; exact hbv
    ready := fun j hj o' ho' he' hn => k7 j (hlt j hj) o' ho' he' hn
    opened := fun j hj o' u ho' he' hv' => k6.1 j hj o' u ho' he' hv'
    phinj := k6.2.1
    phlt := k6.2.2 }

theorem finalEnv_get {ops : Array Oper} {vals : List (Option BV)} : ∀ (l : List BV) (t s : Nat) (y : BV), l[s]? = some y →
    (finalEnv ops vals t l)[s]? = some (match writerOf ops (t + s) with | some k => (vals.getD k none).getD .junk | none => y) := by
  intro l
  induction l with
  | nil => intro t s y h; simp at h
  | cons a l ih =>
    intro t s y h
    cases s with
    | zero => simp at h; subst h; simp only [finalEnv, List.getElem?_cons_zero, Nat.add_zero]; cases writerOf ops t <;> rfl
    | succ s =>
      simp at h
      have := ih (t + 1) s y h
      simp only [finalEnv, List.getElem?_cons_succ]
      rw [this]
      have e : t + 1 + s = t + (s + 1) := by omega
      rw [e]

theorem finalEnv_length {ops : Array Oper} {vals : List (Option BV)} : ∀ (l : List BV) (t : Nat), (finalEnv ops vals t l).length = l.length := by
  intro l
  induction l with
  | nil => intro t; rfl
  | cons a l ih => intro t; simp [finalEnv, ih]

/-- a drawn region ends -/
theorem draw_end (hd : DrawIn P g h w lb ub hp ph d tmps []) : VRels P g w (finalEnv d.ops d.vals 0 d.env0) tmps.toList := by
  refine VRels.of_get (by rw [finalEnv_length]; simpa using hd.size) fun i b v hb hv => ?_
  have hil : i < d.env0.length := by have := (List.getElem?_eq_some_iff.1 hb).1; rw [finalEnv_length] at this; exact this
  have := finalEnv_get (ops := d.ops) (vals := d.vals) d.env0 0 i _ (List.getElem?_eq_getElem hil)
  rw [hb] at this
  have hs := hd.slots i v (by simpa using hv)
  cases this
  unfold curSlot at hs
  simp only [Nat.zero_add]
  cases hw : writerOf d.ops i with
  | none => rw [hw] at hs; dsimp only at hs; rw [List.getD, List.getElem?_eq_getElem hil] at hs; exact hs
  | some k => rw [hw] at hs; dsimp only at hs; rw [if_neg (by simp)] at hs; exact hs

/-- a drawn region that is left: its slots are open -/
theorem draw_settle {rest : List Nat} (hd : DrawIn P g h w lb ub hp ph d tmps rest) {fr : BFrame} (henv : fr.env = d.env0) {k : List BItem} (ht : fr.todo = .inDraw d :: k) : VRels P g w (settleEnv fr) tmps.toList := by
  unfold settleEnv
  rw [ht]
  dsimp only
  refine VRels.of_get (by simp [henv]; exact hd.size) fun i b v hb hv => ?_
  have hs := hd.slots i v (by simpa using hv)
  rw [List.getElem?_map] at hb
  cases hr : (List.range fr.env.length)[i]? with
  | none => rw [hr] at hb; cases hb
  | some j =>
    rw [hr] at hb
    have hij : j = i := by
      obtain ⟨h1, h2⟩ := List.getElem?_eq_some_iff.1 hr
      rw [List.getElem_range] at h2; exact h2.symm
    rw [hij] at hb
    simp at hb
    cases hw : writerOf d.ops i with
    | some k => rw [hw] at hb; subst hb; simp [VRel]
    | none =>
      rw [hw] at hb
      unfold curSlot at hs
      rw [hw] at hs
      dsimp only at hs hb
      subst hb
      rw [henv]
      cases he : d.env0[i]? with
      | none => simp [VRel]
      | some y => rw [List.getD, he] at hs; exact hs
end
end Go.PB

