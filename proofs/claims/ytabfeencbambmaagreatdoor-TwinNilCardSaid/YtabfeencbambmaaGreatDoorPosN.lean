/- **ONE STEP OF B's MACHINE IS STEPS OF THE MODEL's.** **ONE STEP OF B's MACHINE IS STEPS OF THE MODEL's.** **B's MACHINE IS SOUND**: a run of B's is a run of the model's. A closed call, carried out by B from nothing. -/
import Derived.Test.YtabfeencbambmaaGreatDoorPosM
import Derived.RangeFuncNested
import Derived.Below
import Derived.ChangeSame
set_option linter.unusedSimpArgs false
set_option linter.unusedVariables false
namespace Go.PB
open Go

section
variable {P : Program} {g g' : Gh} {h h' : BHeap} {w w' : World} {lb ub : Nat} {base : Base} {b b' : BFrame} {f : Frame} {bs : List BFrame} {cs : List Frame}

def StepsTo (P : Program) (base : Base) (g : Gh) (h : BHeap) (w : World) (s' : BState) (m : Machine) : Prop :=
  ∃ g' w' lb' f' cs', Steps P m (lone f' cs' w') ∧ SRel P base g' w' lb' s' f' cs' ∧ Ext g h w g' s'.h w'

theorem StepsTo.of_lands {s' : BState} (hl : Lands P base g h w s' (stepG P true { frame := f, callers := cs, status := .running, dying := none } w)) : StepsTo P base g h w s' (lone f cs w) := by
  obtain ⟨g', w', lb', f', cs', h1, h2, h3⟩ := hl
  exact ⟨g', w', lb', f', cs', Steps.one (step_lone_go h1), h2, h3⟩

theorem StepsTo.trans {g1 : Gh} {h1 : BHeap} {w1 : World} {f1 : Frame} {cs1 : List Frame} {s' : BState} (hs : Steps P (lone f cs w) (lone f1 cs1 w1)) (hx : Ext g h w g1 h1 w1) (ht : StepsTo P base g1 h1 w1 s' (lone f1 cs1 w1)) :
    StepsTo P base g h w s' (lone f cs w) := by
  obtain ⟨g', w', lb', f', cs', k1, k2, k3⟩ := ht
  exact ⟨g', w', lb', f', cs', hs.trans k1, k2, hx.trans k3⟩

theorem Lands.of_bare {s' : BState} {r r' : GStep} (e : r.bare = r'.bare) (hl : Lands P base g h w s' r') : Lands P base g h w s' r := by
  obtain ⟨g', w', lb', f', cs', h1, h2, h3⟩ := hl
  exact ⟨g', w', lb', f', cs', e.trans h1, h2, h3⟩

theorem RunRel.plain {top : Bool} {env : List BV} {todo : List BItem} (he : VRels P g w env f.tmps.toList) (hi : ItemsRel g todo f.todo) (henv : b.env = env) (htodo : b.todo = todo) : RunRel P g h w lb ub top b f := by
  unfold RunRel
  split
  · rename_i d k ht
    exfalso
    rw [htodo] at ht
    rw [ht] at hi
    simp only [ItemsRel, ItemRel] at hi
    obtain ⟨_, _, _, h1, _⟩ := hi
    exact h1
  · rw [henv, htodo]; exact ⟨he, hi⟩

section
variable {bfn : FuncId} {benv : List BV} {btodo : List BItem} {bds : List BDef} {bkd : CallKind} {bro : Option Nat} {fn : FuncId} {tmps : Array Value} {ftodo : List Item} {ds : List Deferred} {kd : CallKind} {ro : Option Nat}

/-- B's frame that runs -/
abbrev bf (bfn : FuncId) (benv : List BV) (btodo : List BItem) (bds : List BDef) (bkd : CallKind) (bro : Option Nat) : BFrame :=
  { fn := bfn, env := benv, todo := btodo, defers := bds, mode := .run, kind := bkd, roundOf := bro }

theorem FRel.with {top top' : Bool} {ub' : Nat} (hf : FRel P g h w lb ub top (bf bfn benv btodo bds bkd bro) (rf fn tmps ftodo ds kd ro)) {benv' : List BV} {tmps' : Array Value} {btodo' : List BItem} {ftodo' : List Item}
    (he : VRels P g w benv' tmps'.toList) (hi : ItemsRel g btodo' ftodo') : FRel P g h w lb ub' top' (bf bfn benv' btodo' bds bkd bro) (rf fn tmps' ftodo' ds kd ro) :=
  ⟨hf.fn, hf.kind, hf.kinds, hf.defers, hf.mode, hf.round, fun _ => RunRel.plain (f := rf fn tmps' ftodo' ds kd ro) he hi rfl rfl, fun h => absurd rfl h⟩

theorem ctl (hr : HRel P g h w) (hlb : lb ≤ h.next) (hf : FRel P g h w lb h.next true (bf bfn benv btodo bds bkd bro) (rf fn tmps ftodo ds kd ro)) (hc : CRel P g h w base lb bs cs) {benv' : List BV} {tmps' : Array Value} {btodo' : List BItem} {ftodo' : List Item}
    (he : VRels P g w benv' tmps'.toList) (hi : ItemsRel g btodo' ftodo') (hs : step P (lone (rf fn tmps ftodo ds kd ro) cs w) = .next (lone (rf fn tmps' ftodo' ds kd ro) cs w)) :
    StepsTo P base g h w { fr := bf bfn benv' btodo' bds bkd bro, cs := bs, h } (lone (rf fn tmps ftodo ds kd ro) cs w) :=
  ⟨g, w, lb, _, cs, Steps.one hs, ⟨hr, hlb, hf.with he hi, hc⟩, Ext.refl _ _ _⟩

/-- an operation in a region of given order -/
theorem sim_region (hr : HRel P g h w) (hlb : lb ≤ h.next) {ops : Array Oper} {i : Nat} {rest : List Nat} {k : List BItem} {ir : List Item}
    (hf : FRel P g h w lb h.next true (bf bfn benv (.inRegion ops (i :: rest) :: k) bds bkd bro) (rf fn tmps (.inRegion ops (i :: rest) :: ir) ds kd ro)) (hc : CRel P g h w base lb bs cs)
    (henv : VRels P g w benv tmps.toList) (hir : ItemsRel g k ir) {s' : BState} (e : stepB P { fr := bf bfn benv (.inRegion ops (i :: rest) :: k) bds bkd bro, cs := bs, h } = some s') :
    StepsTo P base g h w s' (lone (rf fn tmps (.inRegion ops (i :: rest) :: ir) ds kd ro) cs w) := by
  simp only [stepB] at e
  split at e
  · rename_i ho
    cases e
    refine ctl hr hlb hf hc henv (btodo' := .inRegion ops rest :: k) ⟨_, _, rfl, rfl, hir⟩ ?_
    rw [a_opSkip (by simp [ho])]
    simp [Frame.finish, ho]
  · rename_i o ho
    have hwr : ∀ {r : Bool}, wantedB o ops (fun t => benv[t]?) = some r → Region.wanted o (yielded ops tmps) = r := fun hw =>
      wantedRel (P := P) (g := g) (w := w) (fun j b' _ t _ => by
        cases hb : benv[t]? with
        | none =>
          left
          refine ⟨rfl, ?_⟩
          have : tmps.toList[t]? = none := by rw [List.getElem?_eq_none]; have := henv.length; have := List.getElem?_eq_none_iff.1 hb; omega
          simpa using this
        | some y =>
          obtain ⟨v, h1, h2⟩ := henv.get hb
          exact .inr ⟨y, v, rfl, by simpa using h1, h2⟩) hw
    split at e
    · rename_i hw
      have hw' := hwr hw
      have hop : (ro = none ∨ ∀ c, o.op ≠ .defer c) ∧ ((opB P h (evalB benv) o).bind (applyB P (bf bfn benv (.inRegion ops (i :: rest) :: k) bds bkd bro) bs .normal)) = some s' := by
        have hro := hf.round
        cases bro with
        | none => exact ⟨.inl hro, e⟩
        | some l =>
          split at e
          · cases e
          · rename_i hno
            exact ⟨.inr fun c hcc => hno _ c rfl hcc, e⟩
      obtain ⟨hop1, hop2⟩ := hop
      cases hq : opB P h (evalB benv) o with
      | none => rw [hq] at hop2; cases hop2
      | some q =>
        obtain ⟨n, h1⟩ := q
        rw [hq] at hop2
        have hd := sim_op hr (σ := (rf fn tmps (.inRegion ops (i :: rest) :: ir) ds kd ro).eval) (fun x _ => evalRel henv _ rfl x) hq
        have := sim_apply (f := rf fn tmps (.inRegion ops (i :: rest) :: ir) ds kd ro) hr hlb (hf.with (btodo' := .inRegion ops (i :: rest) :: k) henv ⟨_, _, rfl, rfl, hir⟩) rfl hc hd hop2
        refine StepsTo.of_lands ?_
        rw [a_oper ho hw' hop1]
        exact this
    · rename_i hw
      have hw' := hwr hw
      simp only [Option.map_some, Option.some.injEq] at e
      subst e
      have hstep : step P (lone (rf fn tmps (.inRegion ops (i :: rest) :: ir) ds kd ro) cs w) = .next (lone (rf fn (putV tmps o.dst undef) (.inRegion ops rest :: ir) ds kd ro) cs w) := by
        rw [a_opSkip (by simp [ho, hw']), finish_rf ho]
      refine ctl hr hlb hf hc (benv' := putTmp benv o.dst BV.undef) (tmps' := putV tmps o.dst undef) (btodo' := .inRegion ops rest :: k) (putRel henv VRel.undef _) ⟨_, _, rfl, rfl, hir⟩ hstep
    · cases e

/-- a drawn region under way -/
theorem sim_draw (hr : HRel P g h w) (hlb : lb ≤ h.next) {d : Draw} {k : List BItem}
    (hf : FRel P g h w lb h.next true (bf bfn benv (.inDraw d :: k) bds bkd bro) (rf fn tmps ftodo ds kd ro)) (hc : CRel P g h w base lb bs cs)
    {s' : BState} (e : stepB P { fr := bf bfn benv (.inDraw d :: k) bds bkd bro, cs := bs, h } = some s') :
    StepsTo P base g h w s' (lone (rf fn tmps ftodo ds kd ro) cs w) := by
  have hrun := hf.run rfl
  unfold RunRel at hrun
  dsimp only at hrun
  obtain ⟨henv, rest, k', hft, hk, hp, hhp, ⟨ph, hd⟩, _⟩ := hrun
  rw [hhp rfl] at hd
  clear hhp hp
  subst hft henv
  obtain ⟨tmps', rest', g1, w1, s1, hr1, x1, p1, hd1, hcase⟩ := draw_run (fn := fn) (ds := ds) (kd := kd) (ro := ro) (k := k') (cs := cs) hr hd
  have hk1 := hk.mono x1.mono
  have hc1 := hc.mono x1.mono p1
  have hround := hf.round.mono x1.mono
  have hdefs := hf.defers.mono x1.mono
  simp only [stepB] at e
  rcases hcase with ⟨rfl, heff⟩ | ⟨x, r, effs, rfl, heff⟩
  · rw [heff] at e
    cases e
    refine StepsTo.trans s1 x1 ⟨g1, w1, lb, _, cs, Steps.one a_regionEnd, ⟨hr1, hlb, ?_, hc1⟩, Ext.refl _ _ _⟩
    exact ⟨hf.fn, hf.kind, hf.kinds, hdefs, hf.mode, hround, fun _ => RunRel.plain (f := rf fn tmps' k' ds kd ro) (draw_end hd1) hk1 rfl rfl, fun h => absurd rfl h⟩
  · rw [heff] at e
    dsimp only at e
    obtain ⟨o, ho, _⟩ := ((hd1.effs x).1 (by rw [heff]; simp)).2
    rw [ho] at e
    dsimp only at e
    have hf1 : FRel P g1 h w1 lb h.next false (bf bfn d.env0 (.inDraw d :: k) bds bkd bro) (rf fn tmps' (.inRegion d.ops (x :: r) :: k') ds kd ro) :=
      ⟨hf.fn, hf.kind, hf.kinds, hdefs, hf.mode, hround, fun _ => by
        unfold RunRel
        dsimp only
        exact ⟨rfl, _, _, rfl, hk1, h, (fun q => by cases q), ⟨ph, hd1⟩, fun _ => ⟨x, r, rfl, by rw [heff]; rfl⟩⟩, fun h => absurd rfl h⟩
    refine StepsTo.trans s1 x1 ?_
    split at e
    · rename_i hw
      have hw' := hd1.wanted ho hw
      have hop : (ro = none ∨ ∀ c, o.op ≠ .defer c) ∧ ((opB P h (evalAt d.ops (aheadBits d.ops) d.env0 d.vals x) o).bind (applyB P (bf bfn d.env0 (.inDraw d :: k) bds bkd bro) bs .normal)) = some s' := by
        have hro := hf.round
        clear hf hf1 hround
        cases bro with
        | none => exact ⟨.inl hro, e⟩
        | some l =>
          split at e
          · cases e
          · rename_i hno
            exact ⟨.inr fun c hcc => hno _ c rfl hcc, e⟩
      obtain ⟨hop1, hop2⟩ := hop
      cases hq : opB P h (evalAt d.ops (aheadBits d.ops) d.env0 d.vals x) o with
      | none => rw [hq] at hop2; cases hop2
      | some q =>
        obtain ⟨n, h1⟩ := q
        rw [hq] at hop2
        have hdn := sim_op hr1 (σ := (rf fn tmps' (.inRegion d.ops (x :: r) :: k') ds kd ro).eval) (hd1.eval ho _ rfl) hq
        have := sim_apply (f := rf fn tmps' (.inRegion d.ops (x :: r) :: k') ds kd ro) hr1 hlb hf1 rfl hc1 hdn hop2
        refine StepsTo.of_lands ?_
        rw [a_oper ho hw' hop1]
        exact this
    · rename_i hw
      have hw' := hd1.wanted ho hw
      have := lands_finish (r := stepG P true { frame := rf fn tmps' (.inRegion d.ops (x :: r) :: k') ds kd ro, callers := cs, status := .running, dying := none } w1) hr1 hlb (Nat.le_refl _) hf1 hc1 VRel.undef e (by simp [stepG, stepG.exec, ho, hw'])
      exact StepsTo.of_lands this
    · cases e
end
end
end Go.PB

set_option linter.unusedSimpArgs false
set_option linter.unusedVariables false
namespace Go.PB
open Go

section
variable {P : Program} {g g' : Gh} {h h' : BHeap} {w w' : World} {lb ub : Nat} {base : Base} {b b' : BFrame} {f : Frame} {bs : List BFrame} {cs : List Frame}
variable {bfn : FuncId} {benv : List BV} {btodo : List BItem} {bds : List BDef} {bkd : CallKind} {bro : Option Nat} {fn : FuncId} {tmps : Array Value} {ftodo : List Item} {ds : List Deferred} {kd : CallKind} {ro : Option Nat}

/-- B makes a block and the model makes it at once -/
theorem HRel.make (hr : HRel P g h w) {o : BObj} {co : Obj} (ho : ∀ g' w', Mono g w g' w' → g'.m h.next = some (w.heap.size, 0) → ORel P g' w' o 0 co) :
    HRel P (g.upd h.next w.heap.size 0) (h.new o) (w.alloc co) ∧ Ext g h w (g.upd h.next w.heap.size 0) (h.new o) (w.alloc co) ∧ Ph g h (g.upd h.next w.heap.size 0) (h.new o) := by
  obtain ⟨h1, h2⟩ := hr.newB o
  obtain ⟨k1, k2⟩ := h1.real (b := h.next) (o := o) (co := co) (w' := w.alloc co) (by rw [BHeap.get_new, if_pos rfl]) hr.next_none rfl ⟨rfl, rfl, rfl⟩ (fun hm => ho _ _ hm (Gh.upd_same _ _ _ _))
  refine ⟨k1, h2.trans k2, ?_⟩
  intro b hb hm
  refine ⟨by rw [Gh.upd_other g (by omega)]; exact hm, ?_⟩
  rw [BHeap.get_new, if_neg (by omega)]

theorem lands_leave (hr : HRel P g h w) (hlb : lb ≤ h.next) (hf : FRel P g h w lb h.next true (bf bfn benv btodo bds bkd bro) (rf fn tmps ftodo ds kd ro)) (henv : VRels P g w benv tmps.toList) (hc : CRel P g h w base lb bs cs) {jump : Option Code} {s' : BState}
    (e : leaveB P (bf bfn benv btodo bds bkd bro) bs h jump = some s')
    (hret : ro = none → (jump = none ∨ jump = some .ret) → (stepG P true { frame := rf fn tmps ftodo ds kd ro, callers := cs, status := .running, dying := none } w).bare = .go { frame := { rf fn tmps ftodo ds kd ro with mode := .returning }, callers := cs, status := .running, dying := none } w)
    (hround : ∀ l v w1, ro = some l → (Instr.endRound l jump).run P w = .ok v w1 → (stepG P true { frame := rf fn tmps ftodo ds kd ro, callers := cs, status := .running, dying := none } w).bare = (doReturn P true (rf fn tmps ftodo ds kd ro) cs none v w1).bare) :
    StepsTo P base g h w s' (lone (rf fn tmps ftodo ds kd ro) cs w) :=
  StepsTo.of_lands (sim_leave hr hlb hf rfl henv hc e hret hround)

theorem sim_code (hmix : P.follows .mixedOrders = true) (hr : HRel P g h w) (hlb : lb ≤ h.next) {c : Code} {k : List BItem} {ir : List Item}
    (hf : FRel P g h w lb h.next true (bf bfn benv (.code c :: k) bds bkd bro) (rf fn tmps (.code c :: ir) ds kd ro)) (hc : CRel P g h w base lb bs cs)
    (henv : VRels P g w benv tmps.toList) (hir : ItemsRel g k ir) (hnr : ∀ f' ps a b', c ≠ .rangeFunc f' ps a b') {s' : BState} (e : stepB P { fr := bf bfn benv (.code c :: k) bds bkd bro, cs := bs, h } = some s') :
    StepsTo P base g h w s' (lone (rf fn tmps (.code c :: ir) ds kd ro) cs w) := by
  cases c with
  | skip => simp only [stepB] at e; cases e; exact ctl hr hlb hf hc henv hir a_skip
  | label l => simp only [stepB] at e; cases e; exact ctl hr hlb hf hc henv hir a_label
  | seq x y => simp only [stepB] at e; cases e; exact ctl hr hlb hf hc henv (btodo' := .code x :: .code y :: k) ⟨_, _, rfl, rfl, _, _, rfl, rfl, hir⟩ a_seq
  | cond x t u =>
    simp only [stepB] at e
    split at e
    · rename_i tb hx
      cases e
      have hx' := evalRel henv (rf fn tmps (.code (.cond x t u) :: ir) ds kd ro) rfl x
      rw [hx] at hx'
      simp only [VRel] at hx'
      exact ctl hr hlb hf hc henv (btodo' := .code (if tb then t else u) :: k) ⟨_, _, rfl, rfl, hir⟩ (a_cond hx')
    · cases e
  | block l x => simp only [stepB] at e; cases e; exact ctl hr hlb hf hc henv (btodo' := .code x :: .inBlock l :: k) ⟨_, _, rfl, rfl, _, _, rfl, rfl, hir⟩ a_block
  | loop x => simp only [stepB] at e; cases e; exact ctl hr hlb hf hc henv (btodo' := .code x :: .inLoop x :: k) ⟨_, _, rfl, rfl, _, _, rfl, rfl, hir⟩ a_loop
  | scope x => simp only [stepB] at e; cases e; exact ctl hr hlb hf hc henv (btodo' := .code x :: .inScope x :: k) ⟨_, _, rfl, rfl, _, _, rfl, rfl, hir⟩ a_scope
  | ret =>
    simp only [stepB] at e
    refine lands_leave hr hlb hf henv hc e (fun hro _ => ?_) (fun l v w1 hro hrun => ?_)
    · subst hro; simp [stepG, stepG.exec]
    · subst hro; simp [stepG, stepG.exec, hrun]
  | exit id =>
    simp only [stepB] at e
    obtain ⟨h1, h2⟩ := exitRel (id := id) hir
    split at e
    · rename_i k' hk'
      obtain ⟨i', h3, h4⟩ := h1 _ hk'
      cases e
      exact ctl hr hlb hf hc henv h4 (a_exit h3)
    · rename_i hk'
      have hn := h2 hk'
      refine lands_leave hr hlb hf henv hc e (fun hro hj => by rcases hj with hj | hj <;> cases hj) (fun l v w1 hro hrun => ?_)
      subst hro; simp [stepG, stepG.exec, hrun, hn]
  | goto l =>
    simp only [stepB] at e
    obtain ⟨h1, h2⟩ := gotoRel (l := l) hir
    split at e
    · rename_i k' hk'
      obtain ⟨i', h3, h4⟩ := h1 _ hk'
      cases e
      exact ctl hr hlb hf hc henv h4 (a_goto h3)
    · rename_i hk'
      have hn := h2 hk'
      refine lands_leave hr hlb hf henv hc e (fun hro hj => by rcases hj with hj | hj <;> cases hj) (fun l v w1 hro hrun => ?_)
      subst hro; simp [stepG, stepG.exec, hrun, hn]
  | refuse s => simp only [stepB] at e; cases e
  | rangeFunc f' ps a b' => exact absurd rfl (hnr _ _ _ _)
  | region id ops draw =>
    simp only [stepB] at e
    split at e
    · rename_i hdr
      have hdr : draw = false := by simpa using hdr
      subst hdr
      cases e
      exact ctl hr hlb hf hc henv (btodo' := .inRegion ops (List.range ops.size) :: k) ⟨_, _, rfl, rfl, hir⟩ a_region
    · rename_i hdr
      have hdr : draw = true := by simpa using hdr
      subst hdr
      split at e
      · cases e
      · rename_i hok
        rw [Bool.not_eq_true', Bool.not_eq_false, Bool.and_eq_true] at hok
        simp only [Option.map_eq_some_iff] at e
        obtain ⟨⟨h1, vals⟩, e1, e2⟩ := e
        dsimp only at e2
        cases e2
        obtain ⟨t, hst⟩ := a_draw (P := P) (w := w) (cs := cs) (fn := fn) (tmps := tmps) (ds := ds) (kd := kd) (ro := ro) (k := ir) (id := id) (ops := ops) hmix
        obtain ⟨hr1, x1⟩ := hr.same (w' := { w with drawn := w.drawn + 1 }) rfl ⟨rfl, rfl, rfl⟩
        have henv1 := VRels.mono x1.mono _ _ henv
        obtain ⟨ph, hr2, x2, p2, hd⟩ := draw_init (lb := lb) (tmps := tmps) hr1 henv1 hok.1 hok.2 hlb t e1
        have x12 := x1.trans x2
        refine ⟨g, _, lb, _, cs, Steps.one hst, ⟨hr2, Nat.le_trans hlb x2.next, ?_, hc.mono x12.mono (p2.lt hlb)⟩, x12⟩
        refine ⟨hf.fn, hf.kind, hf.kinds, hf.defers.mono x12.mono, hf.mode, hf.round.mono x12.mono, fun _ => ?_, fun h => absurd rfl h⟩
        unfold RunRel
        dsimp only
        exact ⟨rfl, _, _, rfl, hir.mono x12.mono, h1, fun _ => rfl, ⟨ph, hd⟩, fun h => by cases h⟩

/-- a range over a function begins -/
theorem sim_rangeFunc (hr : HRel P g h w) (hlb : lb ≤ h.next) {rfo : Operand} {ps : Array Nat} {asg body : Code} {k : List BItem} {ir : List Item}
    (hf : FRel P g h w lb h.next true (bf bfn benv (.code (.rangeFunc rfo ps asg body) :: k) bds bkd bro) (rf fn tmps (.code (.rangeFunc rfo ps asg body) :: ir) ds kd ro)) (hc : CRel P g h w base lb bs cs)
    (henv : VRels P g w benv tmps.toList) (hir : ItemsRel g k ir) {s' : BState} (e : stepB P { fr := bf bfn benv (.code (.rangeFunc rfo ps asg body) :: k) bds bkd bro, cs := bs, h } = some s') :
    StepsTo P base g h w s' (lone (rf fn tmps (.code (.rangeFunc rfo ps asg body) :: ir) ds kd ro) cs w) := by
  -- behind the making of the record
  have key : ∀ (g1 : Gh) (h1 : BHeap) (w1 : World) (blk blk' : Nat) (mark : List BDef) (mark' : List Deferred), HRel P g1 h1 w1 → Ext g h w g1 h1 w1 → Ph g h g1 h1 → g1.m blk = some (blk', 0) → DRels P g1 w1 mark mark' →
      (Instr.enterLoop fn tmps ps asg body ro).run P w = .ok (w1.heap.size, mark') (w1.alloc (.loop { state := .ready, pending := none, fn, tmps, params := ps, assign := asg, body, defers := blk' })) →
      ((ofFuncB (evalB benv rfo) [.yield h1.next]).bind fun d =>
          (invokeB P (h1.new (.loop { state := .ready, pending := none, fn := bfn, tmps := benv, params := ps, assign := asg, body, defers := blk })) d.target d.args).bind fun r => match r with
            | (.enter g args, h3) => applyB P { fn := bfn, env := benv, todo := .inRangeFunc h1.next :: k, defers := mark ++ bds, mode := .run, kind := bkd, roundOf := bro } bs .normal (.enter g args, h3) | _ => none) = some s' →
      StepsTo P base g h w s' (lone (rf fn tmps (.code (.rangeFunc rfo ps asg body) :: ir) ds kd ro) cs w) := by
    intro g1 h1 w1 blk blk' mark mark' hr1 x1 p1 hblk hmark hrun e
    have hfn : bfn = fn := hf.fn
    subst hfn
    generalize hH : h1.new (.loop { state := .ready, pending := none, fn := bfn, tmps := benv, params := ps, assign := asg, body, defers := blk }) = H at e
    generalize hW : w1.alloc (.loop { state := .ready, pending := none, fn := bfn, tmps, params := ps, assign := asg, body, defers := blk' }) = W at hrun
    have hmk : HRel P (g1.upd h1.next w1.heap.size 0) H W ∧ Ext g1 h1 w1 (g1.upd h1.next w1.heap.size 0) H W ∧ Ph g1 h1 (g1.upd h1.next w1.heap.size 0) H := by
      rw [← hH, ← hW]
      refine hr1.make (fun g' w' hm _ => ?_)
      simp only [ORel]
      exact ⟨trivial, _, rfl, rfl, rfl, rfl, VRels.mono (x1.mono.trans hm) _ _ henv, rfl, rfl, rfl, hm.mm _ _ hblk⟩
    obtain ⟨hr2, x2, p2⟩ := hmk
    have x12 := x1.trans x2
    have p12 : Ph g h _ _ := p1.trans x1.next p2
    simp only [Option.bind_eq_some_iff] at e
    obtain ⟨d, hd, ⟨n, h3⟩, hi, e⟩ := e
    cases n <;> try (cases e; done)
    rename_i gid args
    dsimp only at e
    have henv2 := VRels.mono x12.mono _ _ henv
    have hfo := evalRel henv2 (rf bfn tmps (.inRangeFunc w1.heap.size :: ir) (mark' ++ ds) kd ro) rfl rfo
    have hyv : VRels P (g1.upd h1.next w1.heap.size 0) W [.yield h1.next] (#[Value.func (.yield w1.heap.size) #[] #[]] : Array Value).toList := by
      simp only [VRels]
      exact ⟨_, _, rfl, by simp only [VRel]; exact ⟨_, Gh.upd_same _ _ _ _, rfl⟩, rfl⟩
    obtain ⟨d', hd', hdr⟩ := sim_ofFunc hr2 hfo hyv hd
    have hdone := sim_invoke hr2 hdr.1 hdr.2 hi
    have hf2 : FRel P (g1.upd h1.next w1.heap.size 0) H W lb H.next false
        { fn := bfn, env := benv, todo := .inRangeFunc h1.next :: k, defers := mark ++ bds, mode := .run, kind := bkd, roundOf := bro } (rf bfn tmps (.inRangeFunc w1.heap.size :: ir) (mark' ++ ds) kd ro) :=
      ⟨rfl, hf.kind, hf.kinds, (hmark.mono x2.mono).append (hf.defers.mono x12.mono), rfl, hf.round.mono x12.mono, fun _ =>
        RunRel.plain (todo := .inRangeFunc h1.next :: k) (f := rf bfn tmps (.inRangeFunc w1.heap.size :: ir) (mark' ++ ds) kd ro) henv2 ⟨_, _, rfl, ⟨_, Gh.upd_same _ _ _ _, rfl⟩, hir.mono x12.mono⟩ rfl rfl, fun h => absurd rfl h⟩
    have hs : ((do let d ← resolve (rf bfn tmps (.inRangeFunc w1.heap.size :: ir) (mark' ++ ds) kd ro).eval { callee := .value rfo, args := #[.const (.func (.yield w1.heap.size) #[] #[])], argTypes := #[] } 0; invoke d.target d.args) : Sem Next).run P W =
        (invoke d'.target d'.args).run P W := by
      refine (Sem.run_bind P _ _ _).trans ?_
      have : (resolve (rf bfn tmps (.inRangeFunc w1.heap.size :: ir) (mark' ++ ds) kd ro).eval { callee := .value rfo, args := #[.const (.func (.yield w1.heap.size) #[] #[])], argTypes := #[] } 0) = Deferred.ofValue ((rf bfn tmps (.inRangeFunc w1.heap.size :: ir) (mark' ++ ds) kd ro).eval rfo) #[Value.func (.yield w1.heap.size) #[] #[]] := by simp [resolve, Frame.eval]
      rw [this, hd', Result.andThen_ok]
    have hap := sim_apply (s := do let d ← resolve (rf bfn tmps (.inRangeFunc w1.heap.size :: ir) (mark' ++ ds) kd ro).eval { callee := .value rfo, args := #[.const (.func (.yield w1.heap.size) #[] #[])], argTypes := #[] } 0; invoke d.target d.args)
      hr2 (Nat.le_trans hlb x12.next) hf2 rfl (hc.mono x12.mono (p12.lt hlb)) (by rw [hs]; exact hdone) e
    refine StepsTo.of_lands (Lands.ext x12 (Lands.of_bare ?_ hap))
    simp only [stepG, stepG.exec, Sem.runT_eq, hrun, GStep.bare_after]
  simp only [stepB] at e
  have hround := hf.round
  cases bro with
  | none =>
    have hro : ro = none := hround
    subst hro
    obtain ⟨hr1, x1, p1⟩ := hr.make (o := .deferred (some [])) (co := .deferred (some [])) (fun g' w' _ _ => by simp only [ORel]; exact ⟨trivial, [], rfl, by simp [DRels]⟩)
    refine key _ _ _ h.next w.heap.size _ [{ target := .collected w.heap.size, args := #[] }] hr1 x1 p1 (Gh.upd_same _ _ _ _) ?_ ?_ e
    · exact ⟨_, _, rfl, ⟨by simp only [TgRel]; exact ⟨_, Gh.upd_same _ _ _ _, rfl⟩, by simp [VRels]⟩, rfl⟩
    · rw [run_enterLoop_outer, World.size_alloc]
  | some l =>
    simp only [RoundRel] at hround
    obtain ⟨l', hm, hro⟩ := hround
    have hro : ro = some l' := hro
    subst hro
    dsimp only at e
    cases hb : h.get l with
    | none => rw [hb] at e; cases e
    | some o =>
      rw [hb] at e
      cases o <;> try (cases e; done)
      rename_i r
      obtain ⟨r', hw, hl, _⟩ := loop_write hr hb hm
      refine key g h w r.defers r'.defers [] [] hr (Ext.refl _ _ _) (Ph.refl _ _) hl.2.2.2.2.2.2.2 (by simp [DRels]) ?_ e
      rw [run_enterLoop_inner hw]
end
end Go.PB

set_option linter.unusedSimpArgs false
set_option linter.unusedVariables false
namespace Go.PB
open Go

section
variable {P : Program} {g g' : Gh} {h h' : BHeap} {w w' : World} {lb ub : Nat} {base : Base} {b b' : BFrame} {f : Frame} {bs : List BFrame} {cs : List Frame}

theorem sim_step (hmix : P.follows .mixedOrders = true) {s s' : BState} (hs : SRel P base g w lb s f cs) (e : stepB P s = some s') : StepsTo P base g s.h w s' (lone f cs w) := by
  obtain ⟨⟨bfn, benv, btodo, bds, bmode, bkd, bro⟩, bs, h⟩ := s
  obtain ⟨hr, hlb, hf, hc⟩ := hs
  obtain ⟨fn, tmps, ftodo, ds, fmode, kd, ro⟩ := f
  dsimp only at hr hlb hf hc ⊢
  by_cases hmode : bmode = .run
  case neg =>
    have e' : unwindB P { fn := bfn, env := benv, todo := btodo, defers := bds, mode := bmode, kind := bkd, roundOf := bro } bs h = some s' := by
      unfold stepB at e
      cases bmode <;> first | exact absurd rfl hmode | exact e
    have hu := sim_unwind hr hlb hf hmode hc e'
    have hfm := hf.mode
    refine StepsTo.of_lands ?_
    have : stepG P true { frame := { fn := fn, tmps := tmps, todo := ftodo, defers := ds, mode := fmode, kind := kd, roundOf := ro }, callers := cs, status := .running, dying := none } w =
        unwind P true { fn := fn, tmps := tmps, todo := ftodo, defers := ds, mode := fmode, kind := kd, roundOf := ro } cs none w := by
      dsimp only at hfm
      cases bmode with
      | run => exact absurd rfl hmode
      | returning => simp only [ModeRel] at hfm; subst hfm; simp [stepG]
      | panicking c => simp only [ModeRel] at hfm; obtain ⟨c', rfl, _⟩ := hfm; simp [stepG]
    rw [this]; exact hu
  case pos =>
    subst hmode
    have hfm : fmode = .run := hf.mode
    subst hfm
    have hplain : ∀ i k, btodo = i :: k → (∀ d, i ≠ .inDraw d) → VRels P g w benv tmps.toList ∧ ItemsRel g (i :: k) ftodo := by
      intro i k hb hnd
      have hrun := hf.run rfl
      unfold RunRel at hrun
      split at hrun
      · rename_i d k' ht
        dsimp only at ht
        rw [hb] at ht
        cases ht
        exact absurd rfl (hnd d)
      · dsimp only at hrun
        rw [hb] at hrun
        exact hrun
    cases btodo with
    | nil =>
      have hrun := hf.run rfl
      unfold RunRel at hrun
      dsimp only at hrun
      obtain ⟨henv, hi⟩ := hrun
      simp only [ItemsRel] at hi
      subst hi
      simp only [stepB] at e
      refine lands_leave hr hlb hf henv hc e (fun hro _ => ?_) (fun l v w1 hro hrun => ?_)
      · subst hro; simp [stepG, stepG.exec]
      · subst hro; simp [stepG, stepG.exec, hrun]
    | cons i k =>
      by_cases hnd : ∀ d, i ≠ .inDraw d
      case neg =>
        have : ∃ d, i = .inDraw d := Classical.byContradiction fun hn => hnd fun d hd => hn ⟨d, hd⟩
        obtain ⟨d, rfl⟩ := this
        exact sim_draw hr hlb hf hc e
      case pos =>
        obtain ⟨henv, hi⟩ := hplain i k rfl hnd
        simp only [ItemsRel] at hi
        obtain ⟨it, ir, rfl, hit, hir⟩ := hi
        cases i with
        | inDraw d => exact absurd rfl (hnd d)
        | code c =>
          simp only [ItemRel] at hit
          subst hit
          by_cases hrf : ∃ f' ps a b', c = .rangeFunc f' ps a b'
          · obtain ⟨f', ps, a, b', rfl⟩ := hrf
            exact sim_rangeFunc hr hlb hf hc henv hir e
          · exact sim_code hmix hr hlb hf hc henv hir (fun f' ps a b' hc => hrf ⟨f', ps, a, b', hc⟩) e
        | inBlock l =>
          simp only [ItemRel] at hit
          subst hit
          simp only [stepB] at e; cases e
          exact ctl hr hlb hf hc henv hir a_inBlock
        | inLoop c =>
          simp only [ItemRel] at hit
          subst hit
          simp only [stepB] at e; cases e
          exact ctl hr hlb hf hc henv (btodo' := .code c :: .inLoop c :: k) ⟨_, _, rfl, rfl, _, _, rfl, rfl, hir⟩ a_inLoop
        | inScope c =>
          simp only [ItemRel] at hit
          subst hit
          simp only [stepB] at e; cases e
          exact ctl hr hlb hf hc henv hir a_inScope
        | inRegion ops todo =>
          simp only [ItemRel] at hit
          subst hit
          cases todo with
          | nil => simp only [stepB] at e; cases e; exact ctl hr hlb hf hc henv hir a_regionEnd
          | cons i rest => exact sim_region hr hlb hf hc henv hir e
        | inRangeFunc l => simp only [stepB] at e; cases e
        | endRangeFunc l =>
          simp only [ItemRel] at hit
          obtain ⟨blk, hm, rfl⟩ := hit
          simp only [stepB] at e
          split at e
          · rename_i r hb
            split at e
            · cases e
            · rename_i hnb
              cases e
              obtain ⟨r', hw, hl, hwr⟩ := loop_write hr hb hm
              obtain ⟨h1, x1⟩ := hwr .exhausted r.pending
              have hrun := run_endLoop (P := P) hw (by rw [← hl.1]; exact hnb)
              have hpe : r.pending = r'.pending := hl.2.1
              rw [hpe] at h1 x1
              refine ⟨g, _, lb, rf fn tmps ((r'.pending.map Item.code).toList ++ ir) ds kd ro, cs, Steps.one (step_lone_go ?_), ⟨by rw [hpe]; exact h1, by simpa using hlb, ?_, ?_⟩, by rw [hpe]; exact x1⟩
              · simp only [stepG, stepG.exec, Sem.runT_eq, hrun, GStep.bare_after, GStep.bare_go]
              · have hmono := x1.mono
                refine ⟨hf.fn, hf.kind, hf.kinds, hf.defers.mono hmono, hf.mode, hf.round.mono hmono, fun _ => ?_, fun h => absurd rfl h⟩
                refine RunRel.plain (todo := (r.pending.map BItem.code).toList ++ k) (f := rf fn tmps ((r'.pending.map Item.code).toList ++ ir) ds kd ro) (VRels.mono hmono _ _ henv) ?_ rfl rfl
                rw [hpe]
                cases r'.pending with
                | none => exact hir.mono hmono
                | some c => exact ⟨_, _, rfl, rfl, hir.mono hmono⟩
              · rw [hpe]; exact hc.mono x1.mono ((Ph.put hm _).lt hlb)
          · cases e
        | beginRound =>
          simp only [ItemRel] at hit
          subst hit
          simp only [stepB] at e
          have hround := hf.round
          split at e
          · rename_i l
            simp only [RoundRel] at hround
            obtain ⟨blk, hm, hro⟩ := hround
            have hro : ro = some blk := hro
            subst hro
            split at e
            · rename_i r hb
              split at e
              · rename_i hst
                cases e
                obtain ⟨r', hw, hl, hwr⟩ := loop_write hr hb hm
                obtain ⟨h1, x1⟩ := hwr .busy r.pending
                have hrun := run_beginRound (P := P) hw (by rw [← hl.1]; exact hst)
                have hpe : r.pending = r'.pending := hl.2.1
                have hmono := x1.mono
                refine ⟨g, _, lb, rf fn tmps ir ds kd (some blk), cs, Steps.one (step_lone_go ?_), ⟨h1, by simpa using hlb, ?_, ?_⟩, x1⟩
                · rw [hpe]
                  simp [stepG, stepG.exec, stepG.apply, Sem.runT_eq, Sem.run_bind, hrun, Frame.finish]
                · exact ⟨hf.fn, hf.kind, hf.kinds, hf.defers.mono hmono, hf.mode, ⟨blk, hm, rfl⟩, fun _ => RunRel.plain (f := rf fn tmps ir ds kd (some blk)) (VRels.mono hmono _ _ henv) (hir.mono hmono) rfl rfl, fun h => absurd rfl h⟩
                · exact hc.mono x1.mono ((Ph.put hm _).lt hlb)
              · cases e
            · cases e
          · cases e

theorem sim_run (hmix : P.follows .mixedOrders = true) : ∀ (n : Nat) {s s' : BState} {g : Gh} {w : World} {lb : Nat} {f : Frame} {cs : List Frame}, SRel P base g w lb s f cs → runTo P n s = some s' →
    StepsTo P base g s.h w s' (lone f cs w) ∧ s'.ended = true := by
  intro n
  induction n with
  | zero => intro s s' g w lb f cs _ e; cases e
  | succ n ih =>
    intro s s' g w lb f cs hs e
    simp only [runTo] at e
    split at e
    · rename_i he
      cases e
      exact ⟨⟨g, w, lb, f, cs, Steps.refl _ _, hs, Ext.refl _ _ _⟩, he⟩
    · split at e
      · rename_i s1 h1
        obtain ⟨g1, w1, lb1, f1, cs1, k1, k2, k3⟩ := sim_step hmix hs h1
        obtain ⟨k4, k5⟩ := ih k2 e
        exact ⟨StepsTo.trans k1 k3 k4, k5⟩
      · cases e

/-- **A CALL THAT B CARRIES OUT.** -/
theorem sim_call (hmix : P.follows .mixedOrders = true) {n : Nat} {fid : FuncId} {args : List BV} {args' : Array Value} {v : BV} (hr : HRel P g h w) (ha : VRels P g w args args'.toList) (e : callB P n fid args h = some (v, h')) :
    Calls P fid args' w fun ed w' => ∃ v' g', ed = .returned v' ∧ HRel P g' h' w' ∧ Ext g h w g' h' w' ∧ VRel P g' w' v v' := by
  intro cs
  unfold callB at e
  split at e
  · cases e
  · rename_i fr hfr
    split at e
    · rename_i s hrun
      split at e
      · rename_i fn0 hkd hfn
        split at e
        · rename_i hfid
          have hfid : s.fr.fn = fid := Nat.eq_of_beq_eq_true hfid
          simp only [Option.map_eq_some_iff] at e
          obtain ⟨v0, hres, e2⟩ := e
          simp only [Prod.mk.injEq] at e2
          obtain ⟨rfl, rfl⟩ := e2
          have hs : SRel P (Base.of cs) g w h.next { fr, cs := [], h } (Frame.enter P fid args' .normal) cs := ⟨hr, Nat.le_refl _, enterRel (.inl rfl) ha hfr, rfl⟩
          obtain ⟨⟨g', w', lb', f', cs', k1, ⟨k2, k3, k4, k5⟩, k6⟩, hend⟩ := sim_run hmix n hs hrun
          simp only [BState.ended, Bool.and_eq_true, List.isEmpty_iff] at hend
          obtain ⟨⟨h1, h2⟩, h3⟩ := hend
          rw [h1] at k5
          simp only [CRel] at k5
          subst k5
          have hm : s.fr.mode = .returning := by
            cases hmm : s.fr.mode <;> rw [hmm] at h2 <;> first | rfl | (cases h2; done)
          have hfm := k4.mode
          rw [hm] at hfm
          simp only [ModeRel] at hfm
          have hds := k4.defers
          rw [h3] at hds
          simp only [DRels] at hds
          obtain ⟨v', hrv, hv⟩ := sim_results k2 (k4.env (by rw [hm]; exact fun h => by cases h)) hres
          exact ⟨.returned v', w', f', ⟨v', g', rfl, k2, k6, hv⟩, k1, by rw [← k4.fn]; exact hfid, hfm, hds, by rw [← k4.kind]; exact hkd, fn0, by rw [← k4.fn]; exact hfn, hrv⟩
        · cases e
      · cases e
    · cases e
end
end Go.PB

set_option linter.unusedSimpArgs false
set_option linter.unusedVariables false
namespace Go.PB
open Go

def g0 : Gh := { m := fun _ => none, fz := fun _ => False }

theorem h0_get (b : Nat) : h0.get b = none := by
  unfold h0 BHeap.get
  simp only
  cases b <;> rfl

theorem hrel0 (P : Program) (w : World) : HRel P g0 h0 w where
  dom := fun b o h => by rw [h0_get] at h; cases h
  lt := fun b x h => by cases h
  img := fun b blk base h => by cases h
  inj := fun b b' blk base base' o o' h => by rw [h0_get] at h; cases h
  obj := fun b o blk base h => by rw [h0_get] at h; cases h
  fzlt := fun c h => h.elim

/-- what a closed call leaves alone -/
structure Kept (w w' : World) : Prop where
  size : w.heap.size ≤ w'.heap.size
  heap : ∀ c, c < w.heap.size → w'.heap[c]? = w.heap[c]?
  os : w'.os = w.os
  output : w'.output = w.output
  tape : w'.tape = w.tape

theorem Kept.below {w w' : World} (h : Kept w w') : _root_.Go.RowKit.Below w.heap.size w w' := ⟨h.os, h.tape, h.output, h.size, h.heap⟩

theorem closed_call {P : Program} (hmix : P.follows .mixedOrders = true) {n : Nat} {fid : FuncId} {v : BV} {h' : BHeap} (e : callB P n fid [] h0 = some (v, h')) (w : World) :
    Calls P fid #[] w fun ed w' => ∃ v' g', ed = .returned v' ∧ Kept w w' ∧ VRel P g' w' v v' := by
  refine (sim_call hmix (hrel0 P w) (args := []) (args' := #[]) (by simp [VRels]) e).mono ?_
  rintro ed w' ⟨v', g', h1, h2, h3, h4⟩
  refine ⟨v', g', h1, ⟨h3.size, fun c hc => h3.kept c hc ?_, h3.os.1, h3.os.2.1, h3.os.2.2⟩, h4⟩
  rintro ⟨b, o, base, hb, _⟩
  rw [h0_get] at hb; cases hb

def okB : Option (BV × BHeap) → Bool
  | some (.bool true, _) => true
  | _ => false

theorem closed_true {P : Program} (hmix : P.follows .mixedOrders = true) {n : Nat} {fid : FuncId} (e : okB (callB P n fid [] h0) = true) (w : World) :
    Calls P fid #[] w fun ed w' => ed = .returned (.bool true) ∧ Kept w w' := by
  unfold okB at e
  split at e
  · rename_i h' hc
    refine (closed_call hmix hc w).mono ?_
    rintro ed w' ⟨v', g', h1, h2, h3⟩
    simp only [VRel] at h3
    subst h3
    exact ⟨h1, h2⟩
  · cases e

section post
open Go.RowKit Go.WideShapes Go.ChangeShapes
variable {H : Type} {enc : TypeId × Value → H} {P : Program}
/-- a row's last step, where all that was there is kept -/
theorem post_of_kept {f : Func} {s : ChangeSpec} {apart fresh handsOn again : Bool} {W W' : World} {args : Array Value} {v : Value} {ds gs : List (DataW H)} {before pa pv : List MemPlace}
    (hW : DataW.Whole enc P f.params.toList s.vars apart W args.toList ds gs before)
    (hres : ∀ (b : Nat) (sp : Nat → Bool) (hd : Bool), DataW.TrodAll enc P W' b sp hd f.resultTypes.toList (v.resultList f.resultTypes.size) (s.fn H (ds ++ gs)).results [])
    (hargs : ∀ sp : Nat → Bool, (∀ p ∈ before, sp p.block = true) → DataW.TrodAll enc P W' 0 sp true f.params.toList args.toList (s.fn H (ds ++ gs)).args pa)
    (hvars : ∀ sp : Nat → Bool, (∀ p ∈ before, sp p.block = true) → DataW.TrodVars enc P W' sp s.vars (s.fn H (ds ++ gs)).vars pv)
    (hps : before = pa ++ pv) (hk : Kept W W')
    (hok : ∀ (j : Nat) (t : TypeId) (r : Value), f.resultTypes[j]? = some t → (v.resultList f.resultTypes.size)[j]? = some r → Value.okWide P W' .any 0 t r) :
    s.post enc P f apart fresh handsOn again W args v W' := by
  have hb := hk.below
  have hlt : ∀ p ∈ before, p.block < W.heap.size := fun p hp => hW.lt p hp
  have hold : ∀ p ∈ before, (fun b => decide (b < W.heap.size)) p.block = true := fun p hp => by simpa using hlt p hp
  refine ⟨ds, gs, before, [], pa, pv, hW, hres _ _ _, hargs _ hold, hvars _ hold, World.keptBut_mono (fun p hp => ⟨hp, ?_⟩) (hb.frame (· ∈ before)), fun _ => ?_⟩
  · rw [hps, List.mem_append] at hp
    exact Or.inr hp
  · obtain ⟨_, _, _, _, _, hz, hn⟩ := hW
    refine ⟨hok, _, _, ([] ++ pa) ++ pv, ⟨[] ++ pa, pv, trodAll_append (hargs _ (fun _ _ => rfl)) (hres _ _ _), hvars _ (fun _ _ => rfl), rfl, ?_, ?_⟩, ?_⟩
    · intro b off hp
      have hin : MemPlace.cell b off ∈ before := by rw [hps]; simpa using hp
      rw [hb.frozen (hlt _ hin)]
      exact hz b off hin
    · intro ha
      have := hn ha
      rw [hps] at this
      simpa using this
    · intro p hp _
      rw [hps]
      simpa using hp
end post
end Go.PB

