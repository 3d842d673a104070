/- **ONE STEP OF B's MACHINE IS STEPS OF THE MODEL's.** -/
import Derived.Test.YthjdcddpoihcdaaGreatDoorPosM5
import Derived.RangeFuncNested
set_option linter.unusedSimpArgs false
set_option linter.unusedVariables false
namespace Go.PB
open Go

section
variable {P : Program} {g g' : Gh} {h h' : BHeap} {w w' : World} {lb ub : Nat} {base : Base} {b b' : BFrame} {f : Frame} {bs : List BFrame} {cs : List Frame}
variable {bfn : FuncId} {benv : List BV} {btodo : List BItem} {bds : List BDef} {bkd : CallKind} {bro : Option Nat} {fn : FuncId} {tmps : Array Value} {ftodo : List Item} {ds : List Deferred} {kd : CallKind} {ro : Option Nat}

/-- B makes a block and the model makes it at once -/
theorem HRel.make (hr : HRel P g h w) {o : BObj} {co : Obj} (ho : ∀ g' w', Mono g w g' w' → g'.m h.next = some (w.heap.size, 0) → ORel P g' w' o 0 co) :
    HRel P (g.upd h.next w.heap.size 0) (h.new o) (w.alloc co) ∧ Ext g h w (g.upd h.next w.heap.size 0) (h.new o) (w.alloc co) ∧ Ph g h (g.upd h.next w.heap.size 0) (h.new o) := by
  obtain ⟨h1, h2⟩ := hr.newB o
  obtain ⟨k1, k2⟩ := h1.real (b := h.next) (o := o) (co := co) (w' := w.alloc co) (by rw [BHeap.get_new, if_pos rfl]) hr.next_none rfl ⟨rfl, rfl, rfl⟩ (fun hm => ho _ _ hm (Gh.upd_same _ _ _ _))
  refine ⟨k1, h2.trans k2, ?_⟩
  intro b hb hm
  refine ⟨by rw [Gh.upd_other g (by omega)]; exact hm, ?_⟩
  rw [BHeap.get_new, if_neg (by omega)]

theorem lands_leave (hr : HRel P g h w) (hlb : lb ≤ h.next) (hf : FRel P g h w lb h.next true (bf bfn benv btodo bds bkd bro) (rf fn tmps ftodo ds kd ro)) (henv : VRels P g w benv tmps.toList) (hc : CRel P g h w base lb bs cs) {jump : Option Code} {s' : BState}
    (e : leaveB P (bf bfn benv btodo bds bkd bro) bs h jump = some s')
    (hret : ro = none → (jump = none ∨ jump = some .ret) → (stepG P true { frame := rf fn tmps ftodo ds kd ro, callers := cs, status := .running, dying := none } w).bare = .go { frame := { rf fn tmps ftodo ds kd ro with mode := .returning }, callers := cs, status := .running, dying := none } w)
    (hround : ∀ l v w1, ro = some l → (Instr.endRound l jump).run P w = .ok v w1 → (stepG P true { frame := rf fn tmps ftodo ds kd ro, callers := cs, status := .running, dying := none } w).bare = (doReturn P true (rf fn tmps ftodo ds kd ro) cs none v w1).bare) :
    StepsTo P base g h w s' (lone (rf fn tmps ftodo ds kd ro) cs w) :=
  StepsTo.of_lands (sim_leave hr hlb hf rfl henv hc e hret hround)

theorem sim_code (hmix : P.follows .mixedOrders = true) (hr : HRel P g h w) (hlb : lb ≤ h.next) {c : Code} {k : List BItem} {ir : List Item}
    (hf : FRel P g h w lb h.next true (bf bfn benv (.code c :: k) bds bkd bro) (rf fn tmps (.code c :: ir) ds kd ro)) (hc : CRel P g h w base lb bs cs)
    (henv : VRels P g w benv tmps.toList) (hir : ItemsRel g k ir) (hnr : ∀ f' ps a b', c ≠ .rangeFunc f' ps a b') {s' : BState} (e : stepB P { fr := bf bfn benv (.code c :: k) bds bkd bro, cs := bs, h } = some s') :
    StepsTo P base g h w s' (lone (rf fn tmps (.code c :: ir) ds kd ro) cs w) := by
  cases c with
  | skip => simp only [stepB] at e; cases e; exact ctl hr hlb hf hc henv hir a_skip
  | label l => simp only [stepB] at e; cases e; exact ctl hr hlb hf hc henv hir a_label
  | seq x y => simp only [stepB] at e; cases e; exact ctl hr hlb hf hc henv (btodo' := .code x :: .code y :: k) ⟨_, _, rfl, rfl, _, _, rfl, rfl, hir⟩ a_seq
  | cond x t u =>
    simp only [stepB] at e
    split at e
    · rename_i tb hx
      cases e
      have hx' := evalRel henv (rf fn tmps (.code (.cond x t u) :: ir) ds kd ro) rfl x
      rw [hx] at hx'
      simp only [VRel] at hx'
      exact ctl hr hlb hf hc henv (btodo' := .code (if tb then t else u) :: k) ⟨_, _, rfl, rfl, hir⟩ (a_cond hx')
    · cases e
  | block l x => simp only [stepB] at e; cases e; exact ctl hr hlb hf hc henv (btodo' := .code x :: .inBlock l :: k) ⟨_, _, rfl, rfl, _, _, rfl, rfl, hir⟩ a_block
  | loop x => simp only [stepB] at e; cases e; exact ctl hr hlb hf hc henv (btodo' := .code x :: .inLoop x :: k) ⟨_, _, rfl, rfl, _, _, rfl, rfl, hir⟩ a_loop
  | scope x => simp only [stepB] at e; cases e; exact ctl hr hlb hf hc henv (btodo' := .code x :: .inScope x :: k) ⟨_, _, rfl, rfl, _, _, rfl, rfl, hir⟩ a_scope
  | ret =>
    simp only [stepB] at e
    refine lands_leave hr hlb hf henv hc e (fun hro _ => ?_) (fun l v w1 hro hrun => ?_)
    · subst hro; simp [stepG, stepG.exec]
    · subst hro; simp [stepG, stepG.exec, hrun]
  | exit id =>
    simp only [stepB] at e
    obtain ⟨h1, h2⟩ := exitRel (id := id) hir
    split at e
    · rename_i k' hk'
      obtain ⟨i', h3, h4⟩ := h1 _ hk'
      cases e
      exact ctl hr hlb hf hc henv h4 (a_exit h3)
    · rename_i hk'
      have hn := h2 hk'
      refine lands_leave hr hlb hf henv hc e (fun hro hj => by rcases hj with hj | hj <;> cases hj) (fun l v w1 hro hrun => ?_)
      subst hro; simp [stepG, stepG.exec, hrun, hn]
  | goto l =>
    simp only [stepB] at e
    obtain ⟨h1, h2⟩ := gotoRel (l := l) hir
    split at e
    · rename_i k' hk'
      obtain ⟨i', h3, h4⟩ := h1 _ hk'
      cases e
      exact ctl hr hlb hf hc henv h4 (a_goto h3)
    · rename_i hk'
      have hn := h2 hk'
      refine lands_leave hr hlb hf henv hc e (fun hro hj => by rcases hj with hj | hj <;> cases hj) (fun l v w1 hro hrun => ?_)
      subst hro; simp [stepG, stepG.exec, hrun, hn]
  | refuse s => simp only [stepB] at e; cases e
  | rangeFunc f' ps a b' => exact absurd rfl (hnr _ _ _ _)
  | region id ops draw =>
    simp only [stepB] at e
    split at e
    · rename_i hdr
      have hdr : draw = false := by simpa using hdr
      subst hdr
      cases e
      exact ctl hr hlb hf hc henv (btodo' := .inRegion ops (List.range ops.size) :: k) ⟨_, _, rfl, rfl, hir⟩ a_region
    · rename_i hdr
      have hdr : draw = true := by simpa using hdr
      subst hdr
      split at e
      · cases e
      · rename_i hok
        rw [Bool.not_eq_true', Bool.not_eq_false, Bool.and_eq_true] at hok
        simp only [Option.map_eq_some_iff] at e
        obtain ⟨⟨h1, vals⟩, e1, e2⟩ := e
        dsimp only at e2
        cases e2
        obtain ⟨t, hst⟩ := a_draw (P := P) (w := w) (cs := cs) (fn := fn) (tmps := tmps) (ds := ds) (kd := kd) (ro := ro) (k := ir) (id := id) (ops := ops) hmix
        obtain ⟨hr1, x1⟩ := hr.same (w' := { w with drawn := w.drawn + 1 }) rfl ⟨rfl, rfl, rfl⟩
        have henv1 := VRels.mono x1.mono _ _ henv
        obtain ⟨ph, hr2, x2, p2, hd⟩ := draw_init (lb := lb) (tmps := tmps) hr1 henv1 hok.1 hok.2 hlb t e1
        have x12 := x1.trans x2
        refine ⟨g, _, lb, _, cs, Steps.one hst, ⟨hr2, Nat.le_trans hlb x2.next, ?_, hc.mono x12.mono (p2.lt hlb)⟩, x12⟩
        refine ⟨hf.fn, hf.kind, hf.kinds, hf.defers.mono x12.mono, hf.mode, hf.round.mono x12.mono, fun _ => ?_, fun h => absurd rfl h⟩
        unfold RunRel
        dsimp only
        exact ⟨rfl, _, _, rfl, hir.mono x12.mono, h1, fun _ => rfl, ⟨ph, hd⟩, fun h => by cases h⟩

/-- a range over a function begins -/
theorem sim_rangeFunc (hr : HRel P g h w) (hlb : lb ≤ h.next) {rfo : Operand} {ps : Array Nat} {asg body : Code} {k : List BItem} {ir : List Item}
    (hf : FRel P g h w lb h.next true (bf bfn benv (.code (.rangeFunc rfo ps asg body) :: k) bds bkd bro) (rf fn tmps (.code (.rangeFunc rfo ps asg body) :: ir) ds kd ro)) (hc : CRel P g h w base lb bs cs)
    (henv : VRels P g w benv tmps.toList) (hir : ItemsRel g k ir) {s' : BState} (e : stepB P { fr := bf bfn benv (.code (.rangeFunc rfo ps asg body) :: k) bds bkd bro, cs := bs, h } = some s') :
    StepsTo P base g h w s' (lone (rf fn tmps (.code (.rangeFunc rfo ps asg body) :: ir) ds kd ro) cs w) := by
  -- behind the making of the record
  have key : ∀ (g1 : Gh) (h1 : BHeap) (w1 : World) (blk blk' : Nat) (mark : List BDef) (mark' : List Deferred), HRel P g1 h1 w1 → Ext g h w g1 h1 w1 → Ph g h g1 h1 → g1.m blk = some (blk', 0) → DRels P g1 w1 mark mark' →
      (Instr.enterLoop fn tmps ps asg body ro).run P w = .ok (w1.heap.size, mark') (w1.alloc (.loop { state := .ready, pending := none, fn, tmps, params := ps, assign := asg, body, defers := blk' })) →
      ((ofFuncB (evalB benv rfo) [.yield h1.next]).bind fun d =>
          (invokeB P (h1.new (.loop { state := .ready, pending := none, fn := bfn, tmps := benv, params := ps, assign := asg, body, defers := blk })) d.target d.args).bind fun r => match r with
            | (.enter g args, h3) => applyB P { fn := bfn, env := benv, todo := .inRangeFunc h1.next :: k, defers := mark ++ bds, mode := .run, kind := bkd, roundOf := bro } bs .normal (.enter g args, h3) | _ => none) = some s' →
      StepsTo P base g h w s' (lone (rf fn tmps (.code (.rangeFunc rfo ps asg body) :: ir) ds kd ro) cs w) := by
    intro g1 h1 w1 blk blk' mark mark' hr1 x1 p1 hblk hmark hrun e
    have hfn : bfn = fn := hf.fn
    subst hfn
    generalize hH : h1.new (.loop { state := .ready, pending := none, fn := bfn, tmps := benv, params := ps, assign := asg, body, defers := blk }) = H at e
    generalize hW : w1.alloc (.loop { state := .ready, pending := none, fn := bfn, tmps, params := ps, assign := asg, body, defers := blk' }) = W at hrun
    have hmk : HRel P (g1.upd h1.next w1.heap.size 0) H W ∧ Ext g1 h1 w1 (g1.upd h1.next w1.heap.size 0) H W ∧ Ph g1 h1 (g1.upd h1.next w1.heap.size 0) H := by
      rw [← hH, ← hW]
      refine hr1.make (fun g' w' hm _ => ?_)
      simp only [ORel]
      exact ⟨trivial, _, rfl, rfl, rfl, rfl, VRels.mono (x1.mono.trans hm) _ _ henv, rfl, rfl, rfl, hm.mm _ _ hblk⟩
    obtain ⟨hr2, x2, p2⟩ := hmk
    have x12 := x1.trans x2
    have p12 : Ph g h _ _ := p1.trans x1.next p2
    simp only [Option.bind_eq_some_iff] at e
    obtain ⟨d, hd, ⟨n, h3⟩, hi, e⟩ := e
    cases n <;> try (cases e; done)
    rename_i gid args
    dsimp only at e
    have henv2 := VRels.mono x12.mono _ _ henv
    have hfo := evalRel henv2 (rf bfn tmps (.inRangeFunc w1.heap.size :: ir) (mark' ++ ds) kd ro) rfl rfo
    have hyv : VRels P (g1.upd h1.next w1.heap.size 0) W [.yield h1.next] (#[Value.func (.yield w1.heap.size) #[] #[]] : Array Value).toList := by
      simp only [VRels]
      exact ⟨_, _, rfl, by simp only [VRel]; exact ⟨_, Gh.upd_same _ _ _ _, rfl⟩, rfl⟩
    obtain ⟨d', hd', hdr⟩ := sim_ofFunc hr2 hfo hyv hd
    have hdone := sim_invoke hr2 hdr.1 hdr.2 hi
    have hf2 : FRel P (g1.upd h1.next w1.heap.size 0) H W lb H.next false
        { fn := bfn, env := benv, todo := .inRangeFunc h1.next :: k, defers := mark ++ bds, mode := .run, kind := bkd, roundOf := bro } (rf bfn tmps (.inRangeFunc w1.heap.size :: ir) (mark' ++ ds) kd ro) :=
      ⟨rfl, hf.kind, hf.kinds, (hmark.mono x2.mono).append (hf.defers.mono x12.mono), rfl, hf.round.mono x12.mono, fun _ =>
        RunRel.plain (todo := .inRangeFunc h1.next :: k) (f := rf bfn tmps (.inRangeFunc w1.heap.size :: ir) (mark' ++ ds) kd ro) henv2 ⟨_, _, rfl, ⟨_, Gh.upd_same _ _ _ _, rfl⟩, hir.mono x12.mono⟩ rfl rfl, fun h => absurd rfl h⟩
    have hs : ((do let d ← resolve (rf bfn tmps (.inRangeFunc w1.heap.size :: ir) (mark' ++ ds) kd ro).eval { callee := .value rfo, args := #[.const (.func (.yield w1.heap.size) #[] #[])], argTypes := #[] } 0; invoke d.target d.args) : Sem Next).run P W =
        (invoke d'.target d'.args).run P W := by
      refine (Sem.run_bind P _ _ _).trans ?_
      have : (resolve (rf bfn tmps (.inRangeFunc w1.heap.size :: ir) (mark' ++ ds) kd ro).eval { callee := .value rfo, args := #[.const (.func (.yield w1.heap.size) #[] #[])], argTypes := #[] } 0) = Deferred.ofValue ((rf bfn tmps (.inRangeFunc w1.heap.size :: ir) (mark' ++ ds) kd ro).eval rfo) #[Value.func (.yield w1.heap.size) #[] #[]] := by simp [resolve, Frame.eval]
      rw [this, hd', Result.andThen_ok]
    have hap := sim_apply (s := do let d ← resolve (rf bfn tmps (.inRangeFunc w1.heap.size :: ir) (mark' ++ ds) kd ro).eval { callee := .value rfo, args := #[.const (.func (.yield w1.heap.size) #[] #[])], argTypes := #[] } 0; invoke d.target d.args)
      hr2 (Nat.le_trans hlb x12.next) hf2 rfl (hc.mono x12.mono (p12.lt hlb)) (by rw [hs]; exact hdone) e
    refine StepsTo.of_lands (Lands.ext x12 (Lands.of_bare ?_ hap))
    simp only [stepG, stepG.exec, Sem.runT_eq, hrun, GStep.bare_after]
  simp only [stepB] at e
  have hround := hf.round
  cases bro with
  | none =>
    have hro : ro = none := hround
    subst hro
    obtain ⟨hr1, x1, p1⟩ := hr.make (o := .deferred (some [])) (co := .deferred (some [])) (fun g' w' _ _ => by simp only [ORel]; exact ⟨trivial, [], rfl, by simp [DRels]⟩)
    refine key _ _ _ h.next w.heap.size _ [{ target := .collected w.heap.size, args := #[] }] hr1 x1 p1 (Gh.upd_same _ _ _ _) ?_ ?_ e
    · exact ⟨_, _, rfl, ⟨by simp only [TgRel]; exact ⟨_, Gh.upd_same _ _ _ _, rfl⟩, by simp [VRels]⟩, rfl⟩
    · rw [run_enterLoop_outer, World.size_alloc]
  | some l =>
    simp only [RoundRel] at hround
    obtain ⟨l', hm, hro⟩ := hround
    have hro : ro = some l' := hro
    subst hro
    dsimp only at e
    cases hb : h.get l with
    | none => rw [hb] at e; cases e
    | some o =>
      rw [hb] at e
      cases o <;> try (cases e; done)
      rename_i r
      obtain ⟨r', hw, hl, _⟩ := loop_write hr hb hm
      refine key g h w r.defers r'.defers [] [] hr (Ext.refl _ _ _) (Ph.refl _ _) hl.2.2.2.2.2.2.2 (by simp [DRels]) ?_ e
      rw [run_enterLoop_inner hw]
end
end Go.PB
