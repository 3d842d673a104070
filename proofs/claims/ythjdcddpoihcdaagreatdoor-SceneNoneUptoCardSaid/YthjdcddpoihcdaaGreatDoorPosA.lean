/- Single steps of the model's machine, of a frame given field by field. -/
import Derived.Test.YthjdcddpoihcdaaGreatDoorPosM1
set_option linter.unusedSimpArgs false
set_option linter.unusedVariables false
namespace Go.PB
open Go

section
variable {P : Program} {w w' : World} {cs cs' : List Frame} {fn : FuncId} {tmps : Array Value} {ds : List Deferred} {kd : CallKind} {ro : Option Nat} {k : List Item}

/-- a frame that runs -/
abbrev rf (fn : FuncId) (tmps : Array Value) (todo : List Item) (ds : List Deferred) (kd : CallKind) (ro : Option Nat) : Frame :=
  { fn := fn, tmps := tmps, todo := todo, defers := ds, mode := .run, kind := kd, roundOf := ro }

theorem a_skip : step P (lone (rf fn tmps (.code .skip :: k) ds kd ro) cs w) = .next (lone (rf fn tmps k ds kd ro) cs w) := step_lone_go (by simp [stepG, stepG.exec])
theorem a_label {l : Nat} : step P (lone (rf fn tmps (.code (.label l) :: k) ds kd ro) cs w) = .next (lone (rf fn tmps k ds kd ro) cs w) := step_lone_go (by simp [stepG, stepG.exec])
theorem a_inBlock {l : Nat} : step P (lone (rf fn tmps (.inBlock l :: k) ds kd ro) cs w) = .next (lone (rf fn tmps k ds kd ro) cs w) := step_lone_go (by simp [stepG, stepG.exec])
theorem a_inScope {c : Code} : step P (lone (rf fn tmps (.inScope c :: k) ds kd ro) cs w) = .next (lone (rf fn tmps k ds kd ro) cs w) := step_lone_go (by simp [stepG, stepG.exec])
theorem a_seq {a b : Code} : step P (lone (rf fn tmps (.code (.seq a b) :: k) ds kd ro) cs w) = .next (lone (rf fn tmps (.code a :: .code b :: k) ds kd ro) cs w) := step_lone_go (by simp [stepG, stepG.exec])
theorem a_block {l : Nat} {c : Code} : step P (lone (rf fn tmps (.code (.block l c) :: k) ds kd ro) cs w) = .next (lone (rf fn tmps (.code c :: .inBlock l :: k) ds kd ro) cs w) := step_lone_go (by simp [stepG, stepG.exec])
theorem a_loop {c : Code} : step P (lone (rf fn tmps (.code (.loop c) :: k) ds kd ro) cs w) = .next (lone (rf fn tmps (.code c :: .inLoop c :: k) ds kd ro) cs w) := step_lone_go (by simp [stepG, stepG.exec])
theorem a_inLoop {c : Code} : step P (lone (rf fn tmps (.inLoop c :: k) ds kd ro) cs w) = .next (lone (rf fn tmps (.code c :: .inLoop c :: k) ds kd ro) cs w) := step_lone_go (by simp [stepG, stepG.exec])
theorem a_scope {c : Code} : step P (lone (rf fn tmps (.code (.scope c) :: k) ds kd ro) cs w) = .next (lone (rf fn tmps (.code c :: .inScope c :: k) ds kd ro) cs w) := step_lone_go (by simp [stepG, stepG.exec])
theorem a_cond {x : Operand} {a b : Code} {t : Bool} (h : (rf fn tmps (.code (.cond x a b) :: k) ds kd ro).eval x = .bool t) :
    step P (lone (rf fn tmps (.code (.cond x a b) :: k) ds kd ro) cs w) = .next (lone (rf fn tmps (.code (if t then a else b) :: k) ds kd ro) cs w) := step_lone_go (by simp [stepG, stepG.exec, h])
theorem a_exit {id : Nat} {k' : List Item} (h : exitTo id k = some k') : step P (lone (rf fn tmps (.code (.exit id) :: k) ds kd ro) cs w) = .next (lone (rf fn tmps k' ds kd ro) cs w) := step_lone_go (by simp [stepG, stepG.exec, h])
theorem a_goto {l : Nat} {k' : List Item} (h : gotoIn l k = some k') : step P (lone (rf fn tmps (.code (.goto l) :: k) ds kd ro) cs w) = .next (lone (rf fn tmps k' ds kd ro) cs w) := step_lone_go (by simp [stepG, stepG.exec, h])

/-- leaving a function's frame -/
theorem a_end : step P (lone (rf fn tmps [] ds kd none) cs w) = .next (lone { rf fn tmps [] ds kd none with mode := .returning } cs w) := step_lone_go (by simp [stepG, stepG.exec])
theorem a_ret : step P (lone (rf fn tmps (.code .ret :: k) ds kd none) cs w) = .next (lone { rf fn tmps (.code .ret :: k) ds kd none with mode := .returning } cs w) := step_lone_go (by simp [stepG, stepG.exec])

/-- regions -/
theorem a_region {id : Nat} {ops : Array Oper} : step P (lone (rf fn tmps (.code (.region id ops false) :: k) ds kd ro) cs w) = .next (lone (rf fn tmps (.inRegion ops (List.range ops.size) :: k) ds kd ro) cs w) := step_lone_go (by simp [stepG, stepG.exec])
theorem a_draw {id : Nat} {ops : Array Oper} (hm : P.follows .mixedOrders = true) : ∃ t, step P (lone (rf fn tmps (.code (.region id ops true) :: k) ds kd ro) cs w) =
    .next (lone (rf fn tmps (.inRegion ops (Region.linearise .any ops t) :: k) ds kd ro) cs { w with drawn := w.drawn + 1 }) :=
  ⟨w.tape w.drawn (.order fn id), step_lone_go (by simp [stepG, stepG.exec, choose, Sem.run, Question.forced, Question.cut, Region.schedule, hm])⟩
theorem a_regionEnd {ops : Array Oper} : step P (lone (rf fn tmps (.inRegion ops [] :: k) ds kd ro) cs w) = .next (lone (rf fn tmps k ds kd ro) cs w) := step_lone_go (by simp [stepG, stepG.exec])

/-- an operation that is not carried out -/
theorem a_opSkip {ops : Array Oper} {i : Nat} {r : List Nat} (h : ((ops[i]?).map (Region.wanted · (yielded ops tmps))).getD false = false) :
    step P (lone (rf fn tmps (.inRegion ops (i :: r) :: k) ds kd ro) cs w) = .next (lone ((rf fn tmps (.inRegion ops (i :: r) :: k) ds kd ro).finish undef) cs w) := step_lone_go (by
  have h' := h
  simp [stepG, stepG.exec, h'])

theorem a_oper {ops : Array Oper} {i : Nat} {r : List Nat} {o : Oper} (ho : ops[i]? = some o) (hw : Region.wanted o (yielded ops tmps) = true) (hd : ro = none ∨ ∀ c, o.op ≠ .defer c) :
    stepG P true { frame := rf fn tmps (.inRegion ops (i :: r) :: k) ds kd ro, callers := cs, status := .running, dying := none } w =
      stepG.apply P true (rf fn tmps (.inRegion ops (i :: r) :: k) ds kd ro) cs none (execOp (rf fn tmps (.inRegion ops (i :: r) :: k) ds kd ro).eval o) w := by
  simp only [stepG, stepG.exec, ho, Option.map_some, hw, Option.getD_some, if_true]
  simp only [stepG.oper, Frame.oper?, ho]
  rcases hd with rfl | hd
  · rfl
  · cases ro with
    | none => rfl
    | some l =>
      obtain ⟨dst, op, ty, pos, after, guard⟩ := o
      cases op <;> first
        | rfl
        | (exact absurd rfl (hd _))

/-- what the machine does with what an operation comes to -/
theorem a_value {f : Frame} {s : Sem Next} {v : Value} (hr : s.run P w = .ok (.value v) w') : (stepG.apply P true f cs none s w).bare = .go { frame := f.finish v, callers := cs, status := .running, dying := none } w' := by
  simp [stepG.apply, Sem.runT_eq, hr]
theorem a_skipNext {f : Frame} {s : Sem Next} (hr : s.run P w = .ok .skip w') : (stepG.apply P true f cs none s w).bare = .go { frame := f.finish undef, callers := cs, status := .running, dying := none } w' := by
  simp [stepG.apply, Sem.runT_eq, hr]
theorem a_defer {f : Frame} {s : Sem Next} {d : Deferred} (hr : s.run P w = .ok (.defer d) w') : (stepG.apply P true f cs none s w).bare = .go { frame := ({ f with defers := d :: f.defers } : Frame).finish undef, callers := cs, status := .running, dying := none } w' := by
  simp [stepG.apply, Sem.runT_eq, hr]
theorem a_enter {f : Frame} {s : Sem Next} {g : FuncId} {args : Array Value} (hr : s.run P w = .ok (.enter g args) w') (hk : ∀ d r sv rest b, f.todo ≠ .call d b r sv :: rest) :
    (stepG.apply P true f cs none s w).bare = .go { frame := Frame.enter P g args .normal, callers := f :: cs, status := .running, dying := none } w' := by
  simp only [stepG.apply, Sem.runT_eq, hr, if_true, GStep.bare_after]
  simp only [GStep.bare]
  congr 2
  split
  · rename_i ht; exact absurd ht (hk _ _ _ _ _)
  · rfl
theorem a_round {f : Frame} {s : Sem Next} {l : Nat} {g : FuncId} {ts : Array Value} {a b : Code} (hr : s.run P w = .ok (.round l g ts a b) w') :
    (stepG.apply P true f cs none s w).bare = .go { frame := Frame.round l g ts a b .normal, callers := f :: cs, status := .running, dying := none } w' := by
  simp [stepG.apply, Sem.runT_eq, hr]
theorem a_panic {f : Frame} {s : Sem Next} {v : Value} (hr : s.run P w = .halt (.panic v) w') : (stepG.apply P true f cs none s w).bare = .go { frame := f.raise [{ v, recovered := false }], callers := cs, status := .running, dying := none } w' := by
  simp [stepG.apply, Sem.runT_eq, hr]
theorem a_recover {f : Frame} {s : Sem Next} (hro : f.roundOf = none) (hr : s.run P w = .ok .recover w') :
    (stepG.apply P true f cs none s w).bare = (match tryRecover f cs with
      | some (v, cs') => .go { frame := f.finish v, callers := cs', status := .running, dying := none } w'
      | none => .go { frame := f.finish .nilIface, callers := cs, status := .running, dying := none } w') := by
  simp only [stepG.apply, Sem.runT_eq, hr, if_true, GStep.bare_after, hro]
  cases tryRecover f cs with
  | none => rfl
  | some x => rfl
end
end Go.PB
