/- A long run of B's in pieces: each piece ends in a state that is written out. A call within B's run by a contract that was proved elsewhere. The answer of a law's row, out of a call that returns true and keeps all that was there. -/
import Derived.Test.YtabfeencbambmaaGreatDoorPosK
set_option linter.unusedSimpArgs false
set_option linter.unusedVariables false
namespace Go.PB
open Go
noncomputable section

/-! ### X's steps by K -/
def exploreK (P : Program) : Nat → BState → Option (List BState)
  | 0, _ => none
  | n + 1, s =>
    match s.ended with
    | true => some [s]
    | false => match K.step P s with
      | some s' => exploreK P n s'
      | none => match choicesB P s with
        | some l => exploreAll (exploreK P n) l
        | none => none

theorem exploreK_eq (P : Program) : ∀ n, exploreK P n = exploreB P n := by
  intro n
  induction n with
  | zero => rfl
  | succ n ih =>
    funext s
    simp only [exploreK, exploreB, K.step_eq, ih]
    cases s.ended <;> rfl

def stepKX (P : Program) (tbl : List Nat) (fuel : Nat) (s : BState) : Option BState :=
  match hereX tbl s.fr with
  | true =>
    match exploreK P fuel { fr := s.fr, cs := [], h := { s.h with log := [] } } with
    | some l => (match mergeS { s.h with log := [] } l with | some x => some { fr := x.1, cs := s.cs, h := x.2 } | none => none)
    | none => none
  | false => K.step P s

theorem stepKX_eq (P : Program) (tbl : List Nat) (fuel : Nat) (s : BState) : stepKX P tbl fuel s = stepX P tbl fuel s := by
  unfold stepKX stepX
  cases hereX tbl s.fr with
  | false => simp only [K.step_eq]; rfl
  | true =>
    simp only [exploreK_eq, if_true]
    cases exploreB P fuel { fr := s.fr, cs := [], h := { s.h with log := [] } } with
    | none => rfl
    | some l =>
      dsimp only
      cases mergeS { s.h with log := [] } l <;> rfl

/-- so many steps -/
def runN (P : Program) (tbl : List Nat) (fuel : Nat) : Nat → BState → Option BState
  | 0, s => some s
  | n + 1, s => match stepKX P tbl fuel s with | some s' => runN P tbl fuel n s' | none => none

/-- steps to the end -/
def runE (P : Program) (tbl : List Nat) (fuel : Nat) : Nat → BState → Option BState
  | 0, _ => none
  | n + 1, s => match s.ended with
    | true => some s
    | false => match stepKX P tbl fuel s with | some s' => runE P tbl fuel n s' | none => none

/-! ### states that are written out -/
structure CState where
  fr : BFrame
  cs : List BFrame
  next : Nat
  heap : List (Nat × BObj)

def mkTr : List (Nat × BObj) → Tr BObj → Tr BObj
  | [], t => t
  | (b, o) :: r, t => mkTr r (Tr.setF (b + 1) t b (some o))

def CState.toS (c : CState) : BState := ⟨c.fr, c.cs, ⟨c.next, mkTr c.heap .leaf, []⟩⟩

def collectC (h : BHeap) : List Nat → List (Nat × BObj)
  | [] => []
  | b :: r => match h.get b with | some o => (b, o) :: collectC h r | none => collectC h r

def noDraw (fr : BFrame) : Bool := match fr.todo with | .inDraw _ :: _ => false | _ => true
def noDraws : List BFrame → Bool
  | [] => true
  | f :: r => match noDraw f with | true => noDraws r | false => false

/-- the block that a value names -/
def blockOf : BV → Option Nat
  | .ptr b _ => some b
  | .slice b _ _ _ => some b
  | .map b => some b
  | _ => none
def memN : List Nat → Nat → Bool
  | [], _ => false
  | x :: r, n => match Nat.beq x n with | true => true | false => memN r n
def keptV (live : List Nat) : List (Option BV) → Bool
  | [] => true
  | some v :: r => (match blockOf v with | some b => (match memN live b with | true => keptV live r | false => false) | none => keptV live r)
  | none :: r => keptV live r
/-- a drawn region under way: the blocks that were made ahead are kept -/
def keptIn (live : List Nat) (fr : BFrame) : Bool := match fr.todo with | .inDraw d :: _ => keptV live d.vals | _ => true
def keptAll (live : List Nat) : List BFrame → Bool
  | [] => true
  | f :: r => match keptIn live f with | true => keptAll live r | false => false
def canCut (live : List Nat) (fr : BFrame) (cs : List BFrame) : Bool := match noDraw fr with | true => keptAll live cs | false => false

def runC (P : Program) (tbl : List Nat) (fuel n : Nat) (live : List Nat) (c : CState) : Option CState :=
  match runN P tbl fuel n c.toS with
  | some ⟨fr, cs, h⟩ => (match canCut live fr cs with | true => some ⟨fr, cs, h.next, collectC h live⟩ | false => none)
  | none => none

def enterC (P : Program) (f : FuncId) (args : List BV) : Option CState :=
  match enterB P f args .normal with
  | some fr => some ⟨fr, [], 0, []⟩
  | none => none

def startC (P : Program) (f : FuncId) (args : List BV) : CState :=
  match enterB P f args .normal with
  | some fr => ⟨fr, [], 0, []⟩
  | none => ⟨default, [], 0, []⟩
def startOk (P : Program) (f : FuncId) (args : List BV) : Bool := match enterB P f args .normal with | some _ => true | none => false

def endC (P : Program) (tbl : List Nat) (fuel n : Nat) (f : FuncId) (c : CState) : Bool :=
  match runE P tbl fuel n c.toS with
  | some s => (match s.fr.kind, P.funcs[s.fr.fn]? with | .normal, some fn => (match Nat.beq s.fr.fn f with | true => (match resultsB P s.h fn s.fr.env with | some (.bool true) => true | _ => false) | false => false) | _, _ => false)
  | none => false

/-! ### a range over a map in each order, to one written state -/
def exploreT (P : Program) (stop : BState → Bool) : Nat → BState → Option (List BState)
  | 0, _ => none
  | n + 1, s =>
    match stop s with
    | true => some [s]
    | false => match K.step P s with
      | some s' => exploreT P stop n s'
      | none => match choicesB P s with
        | some l => exploreAll (exploreT P stop n) l
        | none => none

def lenIs {α : Type} : List α → Nat → Bool
  | [], n => Nat.beq n 0
  | _ :: r, n => match n with | 0 => false | n + 1 => lenIs r n
/-- the frame so deep, with so many items to do -/
def stopAt (d l : Nat) (s : BState) : Bool :=
  match lenIs s.cs d with
  | true => (match s.fr.mode with | .run => lenIs s.fr.todo l | _ => false)
  | false => false

def junkAt : List Nat → List BV → List BV
  | [], e => e
  | i :: r, e => junkAt r (K.lset e i .junk)

def closeC (live mask : List Nat) (top : Nat) : List BState → Option (List CState)
  | [] => some []
  | ⟨⟨fn, env, todo, ds, mode, kind, ro⟩, cs, h⟩ :: r =>
    match canCut live ⟨fn, env, todo, ds, mode, kind, ro⟩ cs with
    | true => (match Nat.ble h.next top with
      | true => (match closeC live mask top r with
        | some l => some (⟨⟨fn, junkAt mask env, todo, ds, mode, kind, ro⟩, cs, top, collectC h live⟩ :: l)
        | none => none)
      | false => none)
    | false => none

def rangeC (P : Program) (fuel d l : Nat) (live mask : List Nat) (top : Nat) (c : CState) : Option (List CState) :=
  match exploreT P (stopAt d l) fuel c.toS with
  | some r => closeC live mask top r
  | none => none

/-! ### pieces of a program's code -/
def subC : Nat → Nat → Code → Code
  | 0, _, c => c
  | f + 1, n, c =>
    match Nat.ble n 1 with
    | true => c
    | false =>
      match c with
      | .seq a b => (match Nat.beq (Nat.mod n 2) 0 with | true => subC f (Nat.div n 2) a | false => subC f (Nat.div n 2) b)
      | .cond _ a b => (match Nat.beq (Nat.mod n 2) 0 with | true => subC f (Nat.div n 2) a | false => subC f (Nat.div n 2) b)
      | .block _ b => subC f (Nat.div n 2) b
      | .loop b => subC f (Nat.div n 2) b
      | .scope b => subC f (Nat.div n 2) b
      | .rangeFunc _ _ a b => (match Nat.beq (Nat.mod n 2) 0 with | true => subC f (Nat.div n 2) a | false => subC f (Nat.div n 2) b)
      | c => c

def bodyC (P : Program) (f : FuncId) : Code := match P.funcs[f]? with | some fn => (match fn.body with | some c => c | none => .skip) | none => .skip
/-- the piece of a function's code at a path -/
def codeC (P : Program) (f n : Nat) : Code := subC 200 n (bodyC P f)
def opsOf : Code → Array Oper
  | .region _ ops _ => ops
  | _ => #[]
def paramsOf : Code → Array Tmp
  | .rangeFunc _ ps _ _ => ps
  | _ => #[]

section
variable {P : Program} {g g' : Gh} {h h' : BHeap} {w w' : World} {lb ub : Nat} {f : Frame} {cs c0 : List Frame}

theorem FRel.noDraw {b : BFrame} {top top' : Bool} {lb' ub' : Nat} (hf : FRel P g h w lb ub top b f) (hn : noDraw b = true) : FRel P g h' w lb' ub' top' b f :=
  ⟨hf.fn, hf.kind, hf.kinds, hf.defers, hf.mode, hf.round, fun hm => by
    have := hf.run hm
    unfold RunRel at this ⊢
    unfold Go.PB.noDraw at hn
    split
    · rename_i d k ht; rw [ht] at hn; cases hn
    · rename_i hno
      split at this
      · rename_i d k ht; exact absurd ht (hno d k)
      · exact this, hf.env⟩

theorem opB_alloc_block {ρ : Operand → BV} {o : Oper} {v : BV} {h1 : BHeap} (ha : allocOp P o = true) (e : opB P h ρ o = some (.value v, h1)) : blockOf v = some h.next := by
  obtain ⟨dst, op, ty, pos, after, guard⟩ := o
  have hvh : ∀ {r : Option (BV × BHeap)}, (∀ v h1, r = some (v, h1) → blockOf v = some h.next) → (r.map fun (x : BV × BHeap) => (BNext.value x.1, x.2)) = some (.value v, h1) → blockOf v = some h.next := by
    intro r hr e
    cases r with
    | none => cases e
    | some x => obtain ⟨u, h2⟩ := x; simp at e; obtain ⟨rfl, rfl⟩ := e; exact hr _ _ rfl
  have hal : ∀ {t : TypeId} {x u : BV} {h2 : BHeap}, allocB P h t x = some (u, h2) → blockOf u = some h.next := by
    intro t x u h2 e
    unfold allocB at e
    split at e
    · cases e; rfl
    · cases e
  cases op <;> simp only [opB, allocOp, Bool.false_eq_true, reduceCtorEq] at e ha
  case alloc t =>
    refine hvh (fun v h1 e => ?_) e
    cases hz : zeroB P t with
    | none => simp [hz] at e
    | some z => simp only [hz, Option.bind_some] at e; exact hal e
  case box => exact hvh (fun v h1 e => hal e) e
  case buildSlice =>
    refine hvh (fun v h1 e => ?_) e
    unfold buildSliceB at e
    repeat' (first | split at e | dsimp only at e)
    all_goals first
      | (cases e; done)
      | (cases e; rfl)
  case convert =>
    simp only [Bool.and_eq_true, Bool.not_eq_true'] at ha
    obtain ⟨hne, ha⟩ := ha
    rw [hne] at e
    simp only [Bool.false_eq_true, if_false] at e
    refine hvh (fun v h1 e => ?_) e
    unfold convertB at e
    split at e
    case h_4 => split at e; · cases e; rfl
                · cases e
    case h_6 => cases e
    all_goals first
      | (rename_i hu2; rw [hu2] at ha; cases ha; done)
      | (rename_i hu2 _; rw [hu2] at ha; cases ha; done)
      | (rename_i hu2 _ _; rw [hu2] at ha; cases ha; done)
      | (rename_i hu2 _ _ _; rw [hu2] at ha; cases ha; done)
      | (rename_i hu2 _ _ _ _; rw [hu2] at ha; cases ha; done)
  case makeMap =>
    repeat' split at e
    all_goals first
      | (cases e; done)
      | (cases e; rfl)
  case makeSlice =>
    refine hvh (fun v h1 e => ?_) e
    unfold makeSliceB at e
    repeat' (first | split at e | dsimp only at e)
    all_goals first
      | (cases e; done)
      | (cases e; rfl)

theorem memN_mem : ∀ {l : List Nat} {n : Nat}, memN l n = true → n ∈ l := by
  intro l
  induction l with
  | nil => intro n e; cases e
  | cons x r ih =>
    intro n e
    simp only [memN] at e
    split at e
    · rename_i h; rw [Nat.eq_of_beq_eq_true h]; exact List.mem_cons_self
    · exact List.mem_cons_of_mem _ (ih e)

theorem keptV_mem {live : List Nat} : ∀ {l : List (Option BV)}, keptV live l = true → ∀ {i : Nat} {v : BV} {b : Nat}, l[i]? = some (some v) → blockOf v = some b → b ∈ live := by
  intro l
  induction l with
  | nil => intro _ i v b h _; simp at h
  | cons x r ih =>
    intro e i v b hi hb
    cases x with
    | none =>
      simp only [keptV] at e
      cases i with
      | zero => simp at hi
      | succ i => exact ih e (by simpa using hi) hb
    | some u =>
      simp only [keptV] at e
      cases i with
      | zero =>
        simp at hi; subst hi
        rw [hb] at e
        dsimp only at e
        split at e
        · rename_i hm; exact memN_mem hm
        · cases e
      | succ i =>
        have : keptV live r = true := by
          split at e
          · split at e
            · exact e
            · cases e
          · exact e
        exact ih this (by simpa using hi) hb

theorem FRel.keep {live : List Nat} {b : BFrame} (hf : FRel P g h w lb ub false b f) (hk : keptIn live b = true) (hl : ∀ x, x ∈ live → h'.get x = h.get x) : FRel P g h' w lb ub false b f :=
  ⟨hf.fn, hf.kind, hf.kinds, hf.defers, hf.mode, hf.round, fun hm => by
    have := hf.run hm
    unfold RunRel at this ⊢
    unfold keptIn at hk
    split
    · rename_i d k ht
      simp only [ht] at this hk
      obtain ⟨h1, rest, k', h2, h3, hp, h4, ⟨ph, h5⟩, h6⟩ := this
      refine ⟨h1, rest, k', h2, h3, hp, (fun e => by cases e), ⟨ph, { h5 with opened := fun i hi o v ho he hv => ?_ }⟩, fun _ => h6 trivial⟩
      obtain ⟨o1, o2⟩ := h5.opened i hi o v ho he hv
      refine ⟨o1, ?_⟩
      rcases o2 with a1 | ⟨a1, a2 | ⟨a2, a3, a4, b1, b2, b3, b4⟩⟩
      · exact .inl a1
      · exact .inr ⟨a1, .inl a2⟩
      · refine .inr ⟨a1, .inr ⟨a2, a3, a4, b1, b2, b3, ?_⟩⟩
        rw [hl _ (keptV_mem hk hv (opB_alloc_block a2 b2))]
        exact b4
    · rename_i hno
      split at this
      · rename_i d k ht; exact absurd ht (hno d k)
      · exact this, hf.env⟩

theorem CRel.keep {live : List Nat} (hl : ∀ x, x ∈ live → h'.get x = h.get x) : ∀ {bs : List BFrame} {lb : Nat} {cs : List Frame}, keptAll live bs = true → CRel P g h w (Base.of c0) lb bs cs → CRel P g h' w (Base.of c0) lb bs cs := by
  intro bs
  induction bs with
  | nil => intro lb cs _ hc; exact hc
  | cons b bs ih =>
    intro lb cs hn hc
    simp only [keptAll] at hn
    split at hn
    · rename_i hb
      simp only [CRel] at hc ⊢
      obtain ⟨c, cr, lb1, rfl, h1, h2, h3⟩ := hc
      exact ⟨c, cr, lb1, rfl, h1, h2.keep hb hl, ih hn h3⟩
    · cases hn

theorem mkTr_mem {h : BHeap} : ∀ (live : List Nat) (t : Tr BObj), (∀ b, Tr.get t b = none ∨ Tr.get t b = h.get b) → ∀ b, (b ∈ live ∨ Tr.get t b = h.get b) → Tr.get (mkTr (collectC h live) t) b = h.get b := by
  intro live
  induction live with
  | nil =>
    intro t _ b hb
    rcases hb with hb | hb
    · cases hb
    · exact hb
  | cons x r ih =>
    intro t ht b hb
    simp only [collectC]
    split
    · rename_i o ho
      simp only [mkTr]
      refine ih _ (fun b => ?_) b ?_
      · rw [Tr.get_set _ _ _ _ _ (by omega)]
        split
        · rename_i e; right; rw [e, ho]
        · exact ht b
      · rw [Tr.get_set _ _ _ _ _ (by omega)]
        by_cases e : b = x
        · right; rw [if_pos e, e, ho]
        · rw [if_neg e]
          rcases hb with hb | hb
          · rcases List.mem_cons.1 hb with rfl | hb
            · exact absurd rfl e
            · exact .inl hb
          · exact .inr hb
    · rename_i ho
      refine ih t ht b ?_
      rcases hb with hb | hb
      · rcases List.mem_cons.1 hb with rfl | hb
        · right
          rcases ht b with h1 | h1
          · rw [h1]; exact ho.symm
          · exact h1
        · exact .inl hb
      · exact .inr hb

theorem mkTr_sub {h : BHeap} : ∀ (live : List Nat) (t : Tr BObj), (∀ b, Tr.get t b = none ∨ Tr.get t b = h.get b) → ∀ b, Tr.get (mkTr (collectC h live) t) b = none ∨ Tr.get (mkTr (collectC h live) t) b = h.get b := by
  intro live
  induction live with
  | nil => intro t ht; exact ht
  | cons x r ih =>
    intro t ht
    simp only [collectC]
    split
    · rename_i o ho
      simp only [mkTr]
      refine ih _ fun b => ?_
      rw [Tr.get_set _ _ _ _ _ (by omega)]
      split
      · rename_i e; right; rw [e, ho]
      · exact ht b
    · exact ih t ht

theorem sim_runN (hmix : P.follows .mixedOrders = true) {base : Base} {tbl : List Nat} {fuel : Nat} : ∀ (n : Nat) {s s' : BState} {g : Gh} {w : World} {lb : Nat} {f : Frame} {cs : List Frame}, SRel P base g w lb s f cs → runN P tbl fuel n s = some s' →
    StepsTo P base g s.h w s' (lone f cs w) := by
  intro n
  induction n with
  | zero => intro s s' g w lb f cs hs e; cases e; exact ⟨g, w, lb, f, cs, Steps.refl _ _, hs, Ext.refl _ _ _⟩
  | succ n ih =>
    intro s s' g w lb f cs hs e
    simp only [runN, stepKX_eq] at e
    split at e
    · rename_i s1 h1
      obtain ⟨g1, w1, lb1, f1, cs1, k1, k2, k3⟩ := sim_stepX hmix hs h1
      exact StepsTo.trans k1 k3 (ih k2 e)
    · cases e

theorem sim_runE (hmix : P.follows .mixedOrders = true) {base : Base} {tbl : List Nat} {fuel : Nat} : ∀ (n : Nat) {s s' : BState} {g : Gh} {w : World} {lb : Nat} {f : Frame} {cs : List Frame}, SRel P base g w lb s f cs → runE P tbl fuel n s = some s' →
    StepsTo P base g s.h w s' (lone f cs w) ∧ s'.ended = true := by
  intro n
  induction n with
  | zero => intro s s' g w lb f cs _ e; cases e
  | succ n ih =>
    intro s s' g w lb f cs hs e
    simp only [runE, stepKX_eq] at e
    split at e
    · rename_i he
      cases e
      exact ⟨⟨g, w, lb, f, cs, Steps.refl _ _, hs, Ext.refl _ _ _⟩, he⟩
    · split at e
      · rename_i s1 h1
        obtain ⟨g1, w1, lb1, f1, cs1, k1, k2, k3⟩ := sim_stepX hmix hs h1
        obtain ⟨k4, k5⟩ := ih k2 e
        exact ⟨StepsTo.trans k1 k3 k4, k5⟩
      · cases e

theorem sim_runC (hmix : P.follows .mixedOrders = true) {tbl : List Nat} {fuel n : Nat} {live : List Nat} {c c' : CState} (hs : SRel P (Base.of c0) g w lb c.toS f cs) (e : runC P tbl fuel n live c = some c') :
    StepsTo P (Base.of c0) g c.toS.h w c'.toS (lone f cs w) := by
  unfold runC at e
  split at e
  · rename_i fr bs h1 hrun
    split at e
    · rename_i hnd
      cases e
      obtain ⟨g1, w1, lb1, f1, cs1, k1, ⟨k2, k3, k4, k5⟩, k6⟩ := sim_runN hmix n hs hrun
      unfold canCut at hnd
      split at hnd
      · rename_i hb
        dsimp only at k2 k3 k4 k5 k6
        obtain ⟨q1, q2⟩ := k2.sub (h' := ⟨h1.next, mkTr (collectC h1 live) .leaf, []⟩) (Nat.le_refl _) (mkTr_sub live .leaf fun b => .inl rfl)
        have hl : ∀ x, x ∈ live → (⟨h1.next, mkTr (collectC h1 live) .leaf, []⟩ : BHeap).get x = h1.get x := fun x hx => mkTr_mem live .leaf (fun b => .inl rfl) x (.inl hx)
        exact ⟨g1, w1, lb1, f1, cs1, k1, ⟨q1, k3, k4.noDraw hb, k5.keep hl hnd⟩, k6.trans q2⟩
      · cases hnd
    · cases e
  · cases e

/-- a call comes to a written state -/
def Comes (P : Program) (fid : FuncId) (args : List BV) (c : CState) : Prop :=
  ∀ (w : World) (args' : Array Value) (c0 : List Frame), VRels P g0 w args args'.toList → StepsTo P (Base.of c0) g0 h0 w c.toS (lone (Frame.enter P fid args' .normal) c0 w)

theorem comes_start {fid : FuncId} {args : List BV} {c : CState} (e : enterC P fid args = some c) : Comes P fid args c := by
  intro w args' c0 ha
  unfold enterC at e
  split at e
  · rename_i fr hfr
    cases e
    exact ⟨g0, w, h0.next, _, _, Steps.refl _ _, ⟨hrel0 P w, Nat.le_refl _, enterRel (.inl rfl) ha hfr, rfl⟩, Ext.refl _ _ _⟩
  · cases e

theorem comes_first {fid : FuncId} {args : List BV} (e : startOk P fid args = true) : Comes P fid args (startC P fid args) := by
  refine comes_start (c := startC P fid args) ?_
  unfold startOk at e
  unfold enterC startC
  split at e
  · rfl
  · cases e

theorem comes_next (hmix : P.follows .mixedOrders = true) {fid : FuncId} {args : List BV} {tbl : List Nat} {fuel n : Nat} {live : List Nat} {c c' : CState} (hc : Comes P fid args c) (e : runC P tbl fuel n live c = some c') : Comes P fid args c' := by
  intro w args' c0 ha
  obtain ⟨g1, w1, lb1, f1, cs1, k1, k2, k3⟩ := hc w args' c0 ha
  exact StepsTo.trans k1 k3 (sim_runC hmix k2 e)

theorem comes_end (hmix : P.follows .mixedOrders = true) {fid : FuncId} {args : List BV} {tbl : List Nat} {fuel n : Nat} {c : CState} (hc : Comes P fid args c) (e : endC P tbl fuel n fid c = true) (w : World) (args' : Array Value) (ha : VRels P g0 w args args'.toList) :
    Calls P fid args' w fun ed w' => ed = .returned (.bool true) ∧ Kept w w' := by
  intro c0
  obtain ⟨g1, w1, lb1, f1, cs1, k1, k2, k3⟩ := hc w args' c0 ha
  unfold endC at e
  split at e
  · rename_i s hrun
    split at e
    · rename_i fn0 hkd hfn
      split at e
      · rename_i hfid
        split at e
        · rename_i hres
          have hfid : s.fr.fn = fid := Nat.eq_of_beq_eq_true hfid
          obtain ⟨⟨g', w', lb', f', cs', m1, ⟨m2, m3, m4, m5⟩, m6⟩, hend⟩ := sim_runE hmix n k2 hrun
          obtain ⟨h1, hm, h3⟩ := ended_mode hend
          rw [h1] at m5
          simp only [CRel, Base.of] at m5
          subst m5
          have hfm := m4.mode
          rw [hm] at hfm
          simp only [ModeRel] at hfm
          have hds := m4.defers
          rw [h3] at hds
          simp only [DRels] at hds
          obtain ⟨v', hrv, hv⟩ := sim_results m2 (m4.env (by rw [hm]; exact fun h => by cases h)) hres
          simp only [VRel] at hv
          subst hv
          have hx := k3.trans m6
          refine ⟨.returned (.bool true), w', f', ⟨rfl, ⟨hx.size, fun c hc => hx.kept c hc ?_, hx.os.1, hx.os.2.1, hx.os.2.2⟩⟩, k1.trans m1, by rw [← m4.fn]; exact hfid, hfm, hds, by rw [← m4.kind]; exact hkd, fn0, by rw [← m4.fn]; exact hfn, hrv⟩
          rintro ⟨b, o, base, hb, _⟩
          rw [h0_get] at hb; cases hb
        · cases e
      · cases e
    · cases e
  · cases e

theorem sim_exploreT (hmix : P.follows .mixedOrders = true) {base : Base} {stop : BState → Bool} : ∀ (n : Nat) {s : BState} {l : List BState} {g : Gh} {w : World} {lb : Nat} {f : Frame} {cs : List Frame}, SRel P base g w lb s f cs → exploreT P stop n s = some l →
    ∃ s', s' ∈ l ∧ StepsTo P base g s.h w s' (lone f cs w) := by
  intro n
  induction n with
  | zero => intro s l g w lb f cs _ e; cases e
  | succ n ih =>
    intro s l g w lb f cs hs e
    simp only [exploreT, K.step_eq] at e
    split at e
    · cases e
      exact ⟨s, List.mem_cons_self, ⟨g, w, lb, f, cs, Steps.refl _ _, hs, Ext.refl _ _ _⟩⟩
    · split at e
      · rename_i s1 h1
        obtain ⟨g1, w1, lb1, f1, cs1, k1, k2, k3⟩ := sim_step hmix hs h1
        obtain ⟨s', m1, m3⟩ := ih k2 e
        exact ⟨s', m1, StepsTo.trans k1 k3 m3⟩
      · split at e
        · rename_i l1 h1
          obtain ⟨s1, hm, g1, w1, lb1, f1, cs1, k1, k2, k3⟩ := sim_choices hs h1
          obtain ⟨a, ha, hsub⟩ := mem_exploreAll e s1 hm
          obtain ⟨s', m1, m3⟩ := ih k2 ha
          exact ⟨s', hsub _ m1, StepsTo.trans k1 k3 m3⟩
        · cases e

theorem VRels.junkAt : ∀ (mask : List Nat) {env : List BV} {vs : List Value}, VRels P g w env vs → VRels P g w (junkAt mask env) vs := by
  intro mask
  induction mask with
  | nil => intro env vs h; exact h
  | cons i r ih =>
    intro env vs h
    refine ih ?_
    rw [K.lset_eq]
    refine VRels.of_get (by simp [h.length]) fun j b v hb hv => ?_
    rw [List.getElem?_set] at hb
    split at hb
    · split at hb
      · simp at hb; subst hb; simp [VRel]
      · cases hb
    · obtain ⟨u, h1, h2⟩ := h.get hb
      rw [h1] at hv; cases hv; exact h2

theorem sim_closeC {live mask : List Nat} {top : Nat} : ∀ {l : List BState} {r : List CState} {s : BState}, closeC live mask top l = some r → s ∈ l → SRel P (Base.of c0) g w lb s f cs →
    ∃ c, c ∈ r ∧ StepsTo P (Base.of c0) g s.h w c.toS (lone f cs w) := by
  intro l
  induction l with
  | nil => intro r s _ hs; cases hs
  | cons x l ih =>
    intro r s e hs hrel
    obtain ⟨⟨fn, env, todo, ds, mode, kind, ro⟩, bs, h⟩ := x
    simp only [closeC] at e
    split at e
    · rename_i hnd
      split at e
      · rename_i htop
        split at e
        · rename_i l1 hl1
          cases e
          rcases List.mem_cons.1 hs with rfl | hs
          · refine ⟨_, List.mem_cons_self, ?_⟩
            obtain ⟨k2, k3, k4, k5⟩ := hrel
            unfold canCut at hnd
            split at hnd
            · rename_i hb
              dsimp only at k2 k3 k4 k5
              have hl : ∀ x, x ∈ live → (⟨top, mkTr (collectC h live) .leaf, []⟩ : BHeap).get x = h.get x := fun x hx => mkTr_mem live .leaf (fun b => .inl rfl) x (.inl hx)
              have hle := Nat.le_of_ble_eq_true htop
              obtain ⟨q1, q2⟩ := k2.sub (h' := ⟨top, mkTr (collectC h live) .leaf, []⟩) hle (mkTr_sub live .leaf fun b => .inl rfl)
              refine ⟨g, w, lb, f, cs, Steps.refl _ _, ⟨q1, Nat.le_trans k3 hle, ?_, k5.keep hl hnd⟩, q2⟩
              have k6 : FRel P g ⟨top, mkTr (collectC h live) .leaf, []⟩ w lb top true ⟨fn, env, todo, ds, mode, kind, ro⟩ f := k4.noDraw hb
              refine ⟨k6.fn, k6.kind, k6.kinds, k6.defers, k6.mode, k6.round, fun hm => ?_, fun hm => VRels.junkAt mask (k6.env hm)⟩
              have := k6.run hm
              unfold RunRel at this ⊢
              unfold Go.PB.noDraw at hb
              dsimp only at this hb ⊢
              cases todo with
              | nil => exact ⟨VRels.junkAt mask this.1, this.2⟩
              | cons i k =>
                cases i with
                | inDraw d => cases hb
                | _ => exact ⟨VRels.junkAt mask this.1, this.2⟩
            · cases hnd
          · obtain ⟨c, h1, h2⟩ := ih hl1 hs hrel
            exact ⟨c, List.mem_cons_of_mem _ h1, h2⟩
        · cases e
      · cases e
    · cases e

theorem comes_range (hmix : P.follows .mixedOrders = true) {fid : FuncId} {args : List BV} {fuel d l : Nat} {live mask : List Nat} {top n : Nat} {c c' : CState} (hc : Comes P fid args c)
    (e : rangeC P fuel d l live mask top c = some (List.replicate n c')) : Comes P fid args c' := by
  intro w args' c0 ha
  obtain ⟨g1, w1, lb1, f1, cs1, k1, k2, k3⟩ := hc w args' c0 ha
  unfold rangeC at e
  split at e
  · rename_i r hr
    obtain ⟨s', m1, g2, w2, lb2, f2, cs2, k4, k5, k6⟩ := sim_exploreT hmix fuel k2 hr
    obtain ⟨c2, m2, m3⟩ := sim_closeC e m1 k5
    have : c2 = c' := List.eq_of_mem_replicate m2
    subst this
    exact StepsTo.trans k1 k3 (StepsTo.trans k4 k6 m3)
  · cases e

/-- as blindX_true, in pieces -/
theorem comes_blind (hmix : P.follows .mixedOrders = true) {tbl : List Nat} {fuel n : Nat} {fid : FuncId} {r : Reach} {base : Nat} {ps : Array TypeId} {args : Array Value} {c : CState} {W : World} (hs : args.size = ps.size)
    (h : ∀ (j : Nat) t v, ps[j]? = some t → args[j]? = some v → Value.okWide P W r base t v)
    (hc : Comes P fid (ps.toList.map (shapeB P)) c) (e : endC P tbl fuel n fid c = true) (w : World) :
    Calls P fid args w fun ed w' => ed = .returned (.bool true) ∧ Kept w w' :=
  comes_end hmix hc e w args (rel_args hs h)
end

/-! ### short words for states that are written out -/
namespace W
def i (n : Int) : BV := .int .i64 n
def c (n : Int) : BV := .int .u8 n
def v (n : Int) : BV := .int .u64 n
def t : BV := .bool true
def f : BV := .bool false
def p (b o : Nat) : BV := .ptr b o
def s (b o l m : Nat) : BV := .slice b o l (some m)
def n (b o l : Nat) : BV := .slice b o l none
def z : BV := .nils
def zp : BV := .nilp
def zi : BV := .nili
def zf : BV := .nilf
def zm : BV := .nilm
def m (b : Nat) : BV := .map b
def a (l : List BV) : BV := .agg l
def u (l : List BV) : BV := .tuple l
def o : BV := .tuple []
def j : BV := .junk
def y : BV := .any
def bytes (l : List Nat) : List UInt8 := l.map UInt8.ofNat
def x (l : List Nat) : BV := .str (bytes l)
def k (fn : Nat) : BV := .func (.func fn) [] []
def kc (fn : Nat) (cap : List BV) : BV := .func (.func fn) [] cap
def q (l : List BV) (e : Nat) : BObj := .cells l e false
end W
end
end Go.PB

set_option linter.unusedSimpArgs false
set_option linter.unusedVariables false
namespace Go.PB
open Go
noncomputable section

section
variable {P : Program} {g g' : Gh} {h h' : BHeap} {w w' : World} {lb ub : Nat} {f : Frame} {cs c0 : List Frame}

/-- all that was there is as it was: B's relation stays -/
theorem HRel.keep (hr : HRel P g h w) (hk : Kept w w') : HRel P g h w' ∧ Ext g h w g h w' := by
  have hm : Mono g w g w' := ⟨fun _ _ e => e, fun _ e => e, fun c hc => hk.heap c (hr.fzlt c hc), fun c s hs => by
    have hlt : c < w.heap.size := by
      unfold World.shape? at hs
      by_cases hc : c < w.heap.size
      · exact hc
      · have : w.heap[c]? = none := by simp; omega
        rw [this] at hs; cases hs
    rw [shape?_of_heap (w := w) (hk.heap c hlt)]; exact hs⟩
  refine ⟨⟨hr.dom, hr.lt, fun b x y e => Nat.lt_of_lt_of_le (hr.img b x y e) hk.size, hr.inj, ?_, fun c hc => Nat.lt_of_lt_of_le (hr.fzlt c hc) hk.size⟩,
    ⟨hm, hk.size, fun c hc _ => hk.heap c hc, fun _ _ e => e, Nat.le_refl _, hk.os, hk.output, hk.tape⟩⟩
  intro b o blk base h1 m1
  obtain ⟨n, o', ho, hr'⟩ := hr.obj _ _ _ _ h1 m1
  exact ⟨n, o', (hk.heap blk (hr.img _ _ _ m1)).trans ho, hr'.mono hm⟩

/-- a function's contract, in B's words -/
def Does (P : Program) (fid : FuncId) (as : List BV) (v : BV) : Prop :=
  ∀ (g : Gh) (w : World) (as' : Array Value), VRels P g w as as'.toList → Calls P fid as' w fun ed w' => ∃ v', ed = .returned v' ∧ VRel P g w' v v' ∧ Kept w w'

/-- the state behind the call -/
def backC (c : CState) (v : BV) : Option CState :=
  match c.cs with
  | f0 :: rest =>
    (match f0.mode, f0.todo with
    | .run, .inRegion ops (i :: r) :: k => some ⟨{ f0 with env := putTmp f0.env ((ops[i]?).bind (·.dst)) v, todo := .inRegion ops r :: k }, rest, c.next, c.heap⟩
    | _, _ => none)
  | [] => none

theorem Kept.refl (w : World) : Kept w w := ⟨Nat.le_refl _, fun _ _ => rfl, rfl, rfl, rfl⟩

theorem enter_same {fid : FuncId} {as : List BV} {b : BFrame} {top : Bool} (e : enterB P fid as .normal = some b) (hf : FRel P g h w lb ub top b f) : ∃ as' : Array Value, VRels P g w as as'.toList ∧ f = Frame.enter P fid as' .normal := by
  unfold enterB at e
  split at e
  · rename_i fn hfn
    split at e
    · rename_i c hb
      cases e
      obtain ⟨ffn, ftmps, ftodo, fds, fmode, fkind, fro⟩ := f
      have h1 : fid = ffn := hf.fn
      have h2 : CallKind.normal = fkind := hf.kind
      have h3 : fmode = .run := hf.mode
      have h4 : fro = none := hf.round
      have h5 := hf.defers
      simp only [DRels] at h5
      have h6 := hf.run rfl
      unfold RunRel at h6
      dsimp only at h6
      obtain ⟨henv, hit⟩ := h6
      simp only [ItemsRel, ItemRel] at hit
      obtain ⟨it, ir, ht, hi, rfl⟩ := hit
      subst h1 h2 h3 h4 h5 hi ht
      have hlen := henv.length
      simp only [List.length_append, List.length_replicate] at hlen
      refine ⟨(ftmps.toList.take as.length).toArray, ?_, ?_⟩
      · have := henv.take as.length
        simpa using this
      · have htail : ftmps.toList.drop as.length = List.replicate (fn.ntmps - as.length) undef := by
          have hd := henv.drop as.length
          rw [List.drop_left] at hd
          apply List.ext_getElem?
          intro i
          rw [List.getElem?_replicate]
          by_cases hi : i < fn.ntmps - as.length
          · rw [if_pos hi]
            obtain ⟨v, h1, h2⟩ := hd.get (i := i) (b := BV.undef) (by rw [List.getElem?_replicate, if_pos hi])
            rw [h1]
            simp only [BV.undef, VRel] at h2
            obtain ⟨vs, rfl, h3⟩ := h2
            simp only [VRels] at h3
            have : vs = #[] := by apply Array.ext'; simpa using h3
            rw [this]; rfl
          · rw [if_neg hi]
            have := hd.length
            simp only [List.length_replicate] at this
            rw [List.getElem?_eq_none_iff]; omega
        have htm : ftmps = (ftmps.toList.take as.length).toArray ++ Array.replicate (fn.ntmps - (ftmps.toList.take as.length).toArray.size) undef := by
          apply Array.ext'
          rw [Array.toList_append, Array.toList_replicate]
          have hsz : (ftmps.toList.take as.length).toArray.size = as.length := by simp; rw [← Array.length_toList]; omega
          rw [hsz, ← htail]
          simp
        unfold Frame.enter
        simp only [hfn, Option.map_some, Option.getD_some, Option.bind_some, hb]
        rw [← htm]
    · cases e
  · cases e

/-- **A CALL BY ITS CONTRACT.** -/
theorem comes_call {fid fn' : FuncId} {args as : List BV} {v : BV} {c c' : CState} (hc : Go.PB.Comes P fid args c) (hin : enterB P fn' as .normal = some c.fr) (hd : Does P fn' as v) (hb : backC c v = some c') : Go.PB.Comes P fid args c' := by
  intro w args' c0 ha
  obtain ⟨g1, w1, lb1, f1, cs1, k1, ⟨k2, k3, k4, k5⟩, k6⟩ := hc w args' c0 ha
  have k4' : FRel P g1 c.toS.h w1 lb1 c.toS.h.next true c.fr f1 := k4
  obtain ⟨as', ha', rfl⟩ := enter_same hin k4'
  have k5' : CRel P g1 c.toS.h w1 (Base.of c0) lb1 c.cs cs1 := k5
  unfold backC at hb
  split at hb
  · rename_i f0 rest hcs
    split at hb
    · rename_i ops i r k hm ht
      cases hb
      rw [hcs] at k5'
      simp only [CRel] at k5'
      obtain ⟨m0, mr, lb2, rfl, hl, hf0, hcr⟩ := k5'
      obtain ⟨ed, w2, fr2, ⟨v', rfl, hv, hk⟩, hco, _, hlv⟩ := hd g1 w1 as' ha' (m0 :: mr)
      obtain ⟨q1, q2⟩ := k2.keep hk
      have hf1 := hf0.mono (h' := c.toS.h) q2.mono (PhLt.refl _ _ _)
      have hc1 := hcr.mono (h' := c.toS.h) q2.mono (PhLt.refl _ _ _)
      have hfin : finishB P f0 v c.toS.h = some ({ f0 with env := putTmp f0.env ((ops[i]?).bind (·.dst)) v, todo := .inRegion ops r :: k }, c.toS.h) := by
        simp only [finishB, hm, ht]
      obtain ⟨r1, r2, r3, r4, r5⟩ := sim_finish q1 hf1 (Nat.le_trans hl k3) k3 hv hfin
      exact ⟨g1, w2, lb2, _, mr, k1.trans ((show Steps P _ _ from hco).trans (Steps.one (step_leave_returned hlv))), ⟨r1, Nat.le_trans hl k3, r4, hc1⟩, k6.trans q2⟩
    · cases hb
  · cases hb
/-- one step, shown by a lemma and not by the kernel -/
theorem comes_step (hmix : P.follows .mixedOrders = true) {fid : FuncId} {args : List BV} {c c' : CState} (hc : Go.PB.Comes P fid args c) (e : stepB P c.toS = some c'.toS) : Go.PB.Comes P fid args c' := by
  intro w args' c0 ha
  obtain ⟨g1, w1, lb1, f1, cs1, k1, k2, k3⟩ := hc w args' c0 ha
  exact StepsTo.trans k1 k3 (sim_step hmix k2 e)

/-- a run of one and the same byte -/
theorem repl_eq (z : BV) (n : Nat) : repl [z] n = List.replicate n z := by
  induction n with
  | zero => rfl
  | succ n ih => simp [repl, ih, List.replicate_succ]
theorem takeCells_repl (z : BV) (n : Nat) : takeCells (repl [z] n) 0 n = some (List.replicate n z) := by
  rw [repl_eq]
  simp [takeCells]

theorem mapM_byte_repl (k : Int) (n : Nat) : (List.replicate n (BV.int .u8 k)).mapM byteB = some (List.replicate n (UInt8.ofNat k.toNat)) := by
  induction n with
  | zero => rfl
  | succ n ih => simp [List.replicate_succ, List.mapM_cons, byteB, ih]

/-- the step that makes a string of so many zero bytes -/
theorem comes_zeros (hmix : P.follows .mixedOrders = true) {fid : FuncId} {args : List BV} {c : CState} {ops : Array Oper} {i : Nat} {r : List Nat} {k : List BItem} {o : Oper} {src dst e : TypeId} {x : Operand} {b n : Nat} {cap : Option Nat} {el : TypeId} {sh : Bool} {z : Int}
    (hc : Go.PB.Comes P fid args c) (hm : c.fr.mode = .run) (ht : c.fr.todo = .inRegion ops (i :: r) :: k) (ho : ops[i]? = some o) (hop : o.op = .convert src dst x)
    (hw : wantedB o ops (fun t => c.fr.env[t]?) = some true) (hsd : (src == dst) = false) (hus : P.underlying src = some (.slice e)) (hud : P.underlying dst = some .string) (hue : P.underlying e = some (.int .u8))
    (hx : evalB c.fr.env x = .slice b 0 n cap) (hb : c.toS.h.get b = some (.cells (repl [.int .u8 z] n) el sh)) :
    Go.PB.Comes P fid args { c with fr := { c.fr with env := putTmp c.fr.env o.dst (.str (List.replicate n (UInt8.ofNat z.toNat))), todo := .inRegion ops r :: k } } := by
  refine comes_step hmix hc ?_
  have hv : convertB P c.toS.h src dst (evalB c.fr.env x) = some (.str (List.replicate n (UInt8.ofNat z.toNat)), c.toS.h) := by
    rw [hx]
    unfold convertB
    simp only [hus, hud, hue]
    unfold elemsB
    simp only [hb, Nat.mul_one, takeCells_repl, Option.map_some, mapM_byte_repl]
  obtain ⟨⟨fn, env, todo, ds, mode, kd, ro⟩, cs, nx, hp⟩ := c
  dsimp only [CState.toS] at *
  subst hm ht
  simp only [stepB, ho, hw]
  cases ro <;> simp [hop, opB, hsd, hv, applyB, finishB, ho]

def zerosC (P : Program) (c : CState) (b n : Nat) (z : Int) : Option CState :=
  match c.fr.mode, c.fr.todo with
  | .run, .inRegion ops (i :: r) :: k =>
    (match ops[i]? with
    | some o =>
      (match wantedB o ops (fun t => c.fr.env[t]?), o.op with
      | some true, .convert src dst x =>
        (match src == dst, P.underlying src, P.underlying dst, evalB c.fr.env x with
        | false, some (.slice e), some .string, .slice b' 0 n' _ =>
          (match P.underlying e, Nat.beq b b', Nat.beq n n' with
          | some (.int .u8), true, true => some { c with fr := { c.fr with env := putTmp c.fr.env o.dst (.str (List.replicate n (UInt8.ofNat z.toNat))), todo := .inRegion ops r :: k } }
          | _, _, _ => none)
        | _, _, _, _ => none)
      | _, _ => none)
    | none => none)
  | _, _ => none

/-- the same, with its premises in one question to the kernel -/
theorem comes_zerosC (hmix : P.follows .mixedOrders = true) {fid : FuncId} {args : List BV} {c c' : CState} {b n : Nat} {el : TypeId} {sh : Bool} {z : Int} (hc : Go.PB.Comes P fid args c)
    (hb : c.toS.h.get b = some (.cells (repl [.int .u8 z] n) el sh)) (e : zerosC P c b n z = some c') : Go.PB.Comes P fid args c' := by
  unfold zerosC at e
  split at e
  · rename_i ops i r k hm ht
    split at e
    · rename_i o ho
      split at e
      · rename_i src dst x hw hop
        split at e
        · rename_i el' b' n' cap hsd hus hud hx
          split at e
          · rename_i hue h1 h2
            cases e
            obtain rfl := Nat.eq_of_beq_eq_true h1
            obtain rfl := Nat.eq_of_beq_eq_true h2
            exact comes_zeros hmix hc hm ht ho hop hw hsd hus hud hue hx hb
          · cases e
        · cases e
      · cases e
    · cases e
  · cases e

end
end
end Go.PB

set_option linter.unusedSimpArgs false
set_option linter.unusedVariables false
namespace Go.PB
open Go Go.ChangeShapes Go.WideShapes Go.ChangeAt Go.RowKit

theorem kept_alloc (w : World) (o : Obj) : Kept w (w.alloc o) :=
  ⟨by show w.heap.size ≤ (w.heap.push o).size; rw [Array.size_push]; omega, fun c hc => by show (w.heap.push o)[c]? = _; rw [Array.getElem?_push, if_neg (Nat.ne_of_lt hc)], rfl, rfl, rfl⟩
theorem Kept.trans' {a b c : World} (h1 : Kept a b) (h2 : Kept b c) : Kept a c :=
  ⟨Nat.le_trans h1.size h2.size, fun k hk => (h2.heap k (Nat.lt_of_lt_of_le hk h1.size)).trans (h1.heap k hk), h2.os.trans h1.os, h2.output.trans h1.output, h2.tape.trans h1.tape⟩

section
variable {H : Type} {enc : TypeId × Value → H}
theorem calls_post {C : Checked} {f : FuncId} {fn : Func} {s : ChangeSpec} {tb : TypeId} {W : World} {args : Array Value} {ds gs : List (DataW H)} {before : List MemPlace}
    (hl : laidOutB C.prog = true) (hps : paramsOk C.prog fn.params.toList = true) (hvars : s.vars = [])
    (hspec : ∀ ds : List (DataW H), ds.length = fn.params.toList.length → s.fn H ds = { results := [.lit (.bool true)], args := ds })
    (hres : fn.resultTypes = #[tb]) (htb : C.prog.underlying tb = some .bool)
    (hW : DataW.Whole enc C.prog fn.params.toList s.vars false W args.toList ds gs before)
    (hc : Calls C.prog f args W fun e W' => e = .returned (.bool true) ∧ Kept W W') :
    Calls C.prog f args W fun e W' => ∃ v, e = .returned v ∧ s.post enc C.prog fn false true false false W args v W' := by
  have hW' := hW
  obtain ⟨p, q, hA, hV, hpq, hfz, hnd⟩ := hW
  rw [hvars] at hV
  obtain ⟨hgs, hq⟩ := trodVars_none hV
  have hlen := trodAll_length hA
  refine hc.mono fun e W' ⟨he, hk⟩ => ?_
  subst he
  have hds : s.fn H (ds ++ gs) = { results := [.lit (.bool true)], args := ds } := by rw [hgs, List.append_nil]; exact hspec ds hlen.2
  have hbp : before = p := by rw [hpq, hq, List.append_nil]
  have hlt : ∀ x ∈ p, x.block < W.heap.size := fun x hx => hW'.lt x (by rw [hbp]; exact hx)
  have hparams : ∀ t ∈ fn.params.toList, C.prog.readableRec t = true ∧ t < C.prog.types.size := fun t ht => by
    have := List.all_eq_true.1 hps t ht
    simpa using this
  refine ⟨_, rfl, post_of_kept (pa := p) (pv := []) hW' (fun _ _ _ => ?_) (fun sp hsp => ?_) (fun sp hsp => ?_) (by rw [hbp, List.append_nil]) hk ?_⟩
  · rw [hds, hres]
    exact trodAll_cons_mk (shut_bool htb _) trodAll_mk0
  · rw [hds]
    exact trodAll_stays hl hk.below hparams hA hlt sp (fun x hx => hsp x (by rw [hbp]; exact hx))
  · rw [hds, hvars]; rfl
  · exact ok_one hres rfl (okWide_bool_mk htb _)
end
end Go.PB

