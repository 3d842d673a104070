/- B's machine, laid out for the kernel: each choice is made ahead of its arms' operands. A law whose arguments B needs not look into: the row's step out of B's run. -/
import Derived.Test.YtabfeencbambmaaGreatDoorPosX
import Derived.WalkKit
import Derived.ProofKit
import Derived.OpenShut
import Derived.WideKeyArgs
import Derived.Handed
import Derived.ChangeCalls
set_option linter.unusedSimpArgs false
set_option linter.unusedVariables false
namespace Go.PB
open Go
noncomputable section

abbrev Ret := Option (BNext × BHeap)
abbrev OpF := Program → BHeap → (Operand → BV) → Oper → Ret

namespace K
/-- a list's element, by the list's own recursor -/
def lget {α : Type} (l : List α) : Nat → Option α :=
  List.rec (fun _ => none) (fun a _ ih n => Nat.rec (some a) (fun m _ => ih m) n) l
def lset {α : Type} (l : List α) : Nat → α → List α :=
  List.rec (fun _ _ => []) (fun a t ih n x => Nat.rec (x :: t) (fun m _ => a :: ih m x) n) l

theorem lget_eq {α : Type} : ∀ (l : List α) (n : Nat), lget l n = l[n]? := by
  intro l
  induction l with
  | nil => intro n; rfl
  | cons a t ih =>
    intro n
    cases n with
    | zero => rfl
    | succ m => exact (ih m).trans (by simp)
theorem lset_eq {α : Type} : ∀ (l : List α) (n : Nat) (x : α), lset l n x = l.set n x := by
  intro l
  induction l with
  | nil => intro n x; rfl
  | cons a t ih =>
    intro n x
    cases n with
    | zero => rfl
    | succ m =>
      show a :: lset t m x = _
      rw [ih m x]; rfl

def aget {α : Type} (a : Array α) (n : Nat) : Option α := match a with | ⟨l⟩ => lget l n
theorem aget_eq {α : Type} (a : Array α) (n : Nat) : aget a n = a[n]? := by
  obtain ⟨l⟩ := a
  show lget l n = _
  rw [lget_eq]; simp

def getV (r : Option BV) : BV := match r with | some v => v | none => BV.undef
def eval (env : List BV) (x : Operand) : BV :=
  match x with
  | .tmp t => getV (lget env t)
  | .const v => BV.ofv v
  | .global _ => .junk
  | .func f => .func (.func f) [] []
theorem eval_eq (env : List BV) : eval env = evalB env := by
  funext x
  cases x with
  | tmp t =>
    show getV (lget env t) = env.getD t BV.undef
    rw [lget_eq, List.getD]
    cases env[t]? <;> rfl
  | _ => rfl

def put (env : List BV) (dst : Option Nat) (v : BV) : List BV :=
  match dst with
  | some d => lset env d v
  | none => env
theorem put_eq (env : List BV) (dst : Option Nat) (v : BV) : put env dst v = putTmp env dst v := by
  cases dst with
  | none => rfl
  | some d => exact lset_eq _ _ _

def valO (r : Option BV) (h : BHeap) : Ret := match r with | some x => some (.value x, h) | none => none
def valH (r : Option (BV × BHeap)) : Ret := match r with | some (x, h) => some (.value x, h) | none => none
def uni (r : Option BHeap) : Ret := match r with | some h => some (.skip, h) | none => none

def move (x : Operand) : OpF := fun _ h ρ _ => some (.value (ρ x), h)
def pick (c a b : Operand) : OpF := fun _ h ρ _ => match ρ c with | .bool c => some (.value (match c with | true => ρ a | false => ρ b), h) | _ => none
def alloc (elem : TypeId) : OpF := fun P h _ _ => match zeroB P elem with | some z => valH (allocB P h elem z) | none => none
def box (elem : TypeId) (x : Operand) : OpF := fun P h ρ _ => valH (allocB P h elem (ρ x))
def build (t : TypeId) (parts : Array (Nat × Operand)) : OpF := fun P h ρ _ => valO (buildB P t (parts.toList.map fun (i, x) => (i, ρ x))) h
def buildSlice (t : TypeId) (len : Nat) (parts : Array (Nat × Operand)) : OpF := fun P h ρ _ => valH (buildSliceB P h t len (parts.toList.map fun (i, x) => (i, ρ x)))
def load (t : TypeId) (a : Operand) : OpF := fun P h ρ _ => valO (loadB P h t (ρ a)) h
def store (t : TypeId) (a x : Operand) : OpF := fun P h ρ _ => uni (storeB P h t (ρ a) (ρ x))
def nilCheckV (v : BV) (h : BHeap) : Ret :=
  match v with
  | .ptr b o => some (.value (.ptr b o), h)
  | .rptr cs => some (.value (.rptr cs), h)
  | .iface t w => some (.value (.iface t w), h)
  | .func fn a b => (match fn with | .method _ => none | _ => some (.value (.func fn a b), h))
  | .yield l => some (.value (.yield l), h)
  | _ => none
def nilCheck (x : Operand) : OpF := fun _ h ρ _ => nilCheckV (ρ x) h
def binOp (op : BinOp) (t : TypeId) (x y : Operand) : OpF := fun P h ρ _ => match eqGuardB P op t x y (ρ x) (ρ y) with | true => valO (binB P h op t (ρ x) (ρ y)) h | false => none
def unOp (op : UnOp) (x : Operand) : OpF := fun _ h ρ _ => valO (unB op (ρ x)) h
def convert (src dst : TypeId) (x : Operand) : OpF := fun P h ρ _ => match Nat.beq src dst with | true => valH (markB P h dst (ρ x)) | false => valH (convertB P h src dst (ρ x))
def s2ap (t : TypeId) (x : Operand) : OpF := fun P h ρ _ => valO (arrayAtB P t (ρ x)) h
def makeInterface (t : TypeId) (x : Operand) : OpF := fun P h ρ _ => match P.underlying t with | some (.interface _) => none | some _ => some (.value (.iface t (ρ x)), h) | none => none
def makeFunc (fn : Fn) (first captured : Array Operand) : OpF := fun _ h ρ _ => match fn with | .yield _ => none | _ => some (.value (.func fn (first.toList.map ρ) (captured.toList.map ρ)), h)
def makeMap (t : TypeId) (r : Option Operand) : OpF := fun P h ρ _ => match r.map ρ with | none | some (.int _ _) => (match P.underlying t with | some (.map _ _) => some (.value (.map h.next), h.new (.map [] 0)) | _ => none) | _ => none
def makeSlice (t : TypeId) (l c : Operand) : OpF := fun P h ρ _ => valH (makeSliceB P h t (ρ l) (ρ c))
def slice (t : TypeId) (x : Operand) (lo hi mx : Option Operand) : OpF := fun P h ρ _ => valO (sliceB P h t (ρ x) (lo.map ρ) (hi.map ρ) (mx.map ρ)) h
def fieldAddr (t : TypeId) (x : Operand) (i : Nat) : OpF := fun P h ρ _ => valO (fieldAddrB P t (ρ x) i) h
def field (t : TypeId) (x : Operand) (i : Nat) : OpF := fun P h ρ _ => valO (fieldB P t (ρ x) i) h
def indexAddr (t : TypeId) (x ix : Operand) : OpF := fun P h ρ _ => valO (indexAddrB P t (ρ x) (ρ ix)) h
def index (t : TypeId) (x ix : Operand) : OpF := fun P h ρ _ => valO (indexB P t (ρ x) (ρ ix)) h
def lookup (t : TypeId) (x ix : Operand) (ok : Bool) : OpF := fun P h ρ _ => valO (lookupB P h t (ρ x) (ρ ix) ok) h
def mapUpdate (t : TypeId) (m k x : Operand) : OpF := fun P h ρ _ => uni (mapUpdateB P h t (ρ m) (ρ k) (ρ x))
def mapEntry (t : TypeId) (m k : Operand) : OpF := fun P h ρ _ => valH (mapEntryB P h t (ρ m) (ρ k))
def entryStore (m s x : Operand) : OpF := fun _ h ρ _ => uni (entryStoreB h (ρ m) (ρ s) (ρ x))
def range (t : TypeId) (x : Operand) : OpF := fun P h ρ _ => valH (rangeB P h t (ρ x))
def next (it : Operand) (s : Bool) : OpF := fun _ h ρ _ => valH (nextB h (ρ it) s)
def entry (it : Operand) : OpF := fun _ h ρ _ => valO (entryB h (ρ it)) h
def typeAssert (x : Operand) (asserted : TypeId) (ok : Bool) : OpF := fun P h ρ _ => valO (assertB P (ρ x) asserted ok) h
def extract (t : Operand) (i : Nat) : OpF := fun _ h ρ _ => match ρ t with | .tuple vs => valO vs[i]? h | _ => none
def callD (P : Program) (h : BHeap) (d : Option BDef) : Ret := match d with | some d => invokeB P h d.target d.args | none => none
def call (c : Call) : OpF := fun P h ρ o => callD P h (resolveB ρ c o.type)
def defer (c : Call) : OpF := fun _ h ρ o => match resolveB ρ c o.type with | some d => some (.defer d, h) | none => none
def panic (x : Operand) : OpF := fun _ h ρ _ => match ρ x with | .iface t v => some (.panic (.iface t v), h) | _ => none
def no : OpF := fun _ _ _ _ => none

def op (o : Op) : OpF :=
  match o with
  | .move x => move x
  | .assign x => move x
  | .pick c a b => pick c a b
  | .alloc e => alloc e
  | .box e x => box e x
  | .build t p => build t p
  | .buildSlice t l p => buildSlice t l p
  | .load t a => load t a
  | .store t a x => store t a x
  | .nilCheck x => nilCheck x
  | .binOp op t x y _ => binOp op t x y
  | .unOp op _ x => unOp op x
  | .convert s d x => convert s d x
  | .sliceToArrayPointer t x => s2ap t x
  | .makeInterface t x => makeInterface t x
  | .makeFunc fn a b => makeFunc fn a b
  | .makeMap t r => makeMap t r
  | .makeSlice t l c => makeSlice t l c
  | .slice t x lo hi mx => slice t x lo hi mx
  | .fieldAddr t x i => fieldAddr t x i
  | .field t x i => field t x i
  | .indexAddr t x i => indexAddr t x i
  | .index t x i => index t x i
  | .lookup t x i ok => lookup t x i ok
  | .mapUpdate t m k x => mapUpdate t m k x
  | .insert t m k x => mapUpdate t m k x
  | .mapEntry t m k => mapEntry t m k
  | .entryStore _ m s x => entryStore m s x
  | .range t x => range t x
  | .next it s => next it s
  | .entry it => entry it
  | .typeAssert x _ a ok => typeAssert x a ok
  | .extract t i => extract t i
  | .call c => call c
  | .defer c => defer c
  | .panic x => panic x
  | _ => no

theorem valO_eq (r : Option BV) (h : BHeap) : valO r h = (r.map fun x => (BNext.value x, h)) := by cases r <;> rfl
theorem valH_eq (r : Option (BV × BHeap)) : valH r = (r.map fun (x, h) => (BNext.value x, h)) := by cases r <;> rfl
theorem uni_eq (r : Option BHeap) : uni r = (r.map fun h => (BNext.skip, h)) := by cases r <;> rfl

theorem op_eq (P : Program) (h : BHeap) (ρ : Operand → BV) (o : Oper) : op o.op P h ρ o = opB P h ρ o := by
  obtain ⟨dst, o, ty, pos, after, guard⟩ := o
  cases o <;> simp only [op, opB]
  all_goals first
    | rfl
    | exact valO_eq _ _
    | exact valH_eq _
    | exact uni_eq _
    | skip
  case pick c a b => simp only [pick]; cases ρ c <;> first | rfl | (rename_i b; cases b <;> rfl)
  case alloc e => simp only [alloc]; cases zeroB P e <;> first | rfl | exact valH_eq _
  case binOp op t x y _ => simp only [binOp]; cases eqGuardB P op t x y (ρ x) (ρ y) <;> first | rfl | exact valO_eq _ _
  case convert s d x =>
    simp only [convert]
    have : (s == d) = Nat.beq s d := by rw [Bool.eq_iff_iff, Nat.beq_eq_true_eq]; simp
    rw [this]
    cases Nat.beq s d
    · exact valH_eq _
    · exact valH_eq _
  case extract t i => simp only [extract]; cases ρ t <;> first | rfl | exact valO_eq _ _
  case call c => simp only [call, callD]; cases resolveB ρ c ty <;> rfl
  case defer c => simp only [defer]; cases resolveB ρ c ty <;> rfl

/-! ### steps -/
abbrev StF := Program → FuncId → List BV → List BDef → CallKind → Option Nat → List BFrame → BHeap → Option BState

def to (todo : List BItem) : StF := fun _ fn env ds kind ro cs h => some ⟨⟨fn, env, todo, ds, .run, kind, ro⟩, cs, h⟩
def leave (todo : List BItem) (j : Option Code) : StF := fun P fn env ds kind ro cs h => leaveB P ⟨fn, env, todo, ds, .run, kind, ro⟩ cs h j
def slow (todo : List BItem) : StF := fun P fn env ds kind ro cs h => stepB P ⟨⟨fn, env, todo, ds, .run, kind, ro⟩, cs, h⟩
def condC (k : List BItem) (thn els : Code) (v : BV) : StF :=
  match v with
  | .bool b => (match b with | true => to (.code thn :: k) | false => to (.code els :: k))
  | _ => fun _ _ _ _ _ _ _ _ => none
def condK (k : List BItem) (c : Operand) (thn els : Code) : StF := fun P fn env ds kind ro cs h => condC k thn els (eval env c) P fn env ds kind ro cs h
def exitR (todo : List BItem) (id : Nat) (r : Option (List BItem)) : StF := match r with | some k' => to k' | none => leave todo (some (.exit id))
def regionK (k : List BItem) (id : Nat) (ops : Array Oper) (draw : Bool) : StF := match draw with | false => to (.inRegion ops (List.range ops.size) :: k) | true => slow (.code (.region id ops true) :: k)

def codeK (c : Code) (k : List BItem) : StF :=
  match c with
  | .ret => leave (.code .ret :: k) (some .ret)
  | .skip => to k
  | .label _ => to k
  | .seq a b => to (.code a :: .code b :: k)
  | .cond c a b => condK k c a b
  | .block id b => to (.code b :: .inBlock id :: k)
  | .loop b => to (.code b :: .inLoop b :: k)
  | .scope b => to (.code b :: .inScope b :: k)
  | .exit id => exitR (.code (.exit id) :: k) id (exitToB id k)
  | .region id ops draw => regionK k id ops draw
  | c => slow (.code c :: k)

def valK (o : Oper) (ops : Array Oper) (rest : List Nat) (k : List BItem) (v : BV) : StF := fun _ fn env ds kind ro cs h => some ⟨⟨fn, put env o.dst v, .inRegion ops rest :: k, ds, .run, kind, ro⟩, cs, h⟩
def enterK (ops : Array Oper) (i : Nat) (rest : List Nat) (k : List BItem) (f : FuncId) (args : List BV) : StF := fun P fn env ds kind ro cs h =>
  match enterB P f args .normal with
  | some c => some ⟨c, ⟨fn, env, .inRegion ops (i :: rest) :: k, ds, .run, kind, ro⟩ :: cs, h⟩
  | none => none
def otherK (ops : Array Oper) (i : Nat) (rest : List Nat) (k : List BItem) (n : BNext) : StF := fun P fn env ds kind ro cs h => applyB P ⟨fn, env, .inRegion ops (i :: rest) :: k, ds, .run, kind, ro⟩ cs .normal (n, h)
def nextK (o : Oper) (ops : Array Oper) (i : Nat) (rest : List Nat) (k : List BItem) (n : BNext) : StF :=
  match n with
  | .value v => valK o ops rest k v
  | .skip => valK o ops rest k BV.undef
  | .enter f args => enterK ops i rest k f args
  | n => otherK ops i rest k n
def doneK (o : Oper) (ops : Array Oper) (i : Nat) (rest : List Nat) (k : List BItem) (r : Ret) : Program → FuncId → List BV → List BDef → CallKind → Option Nat → List BFrame → Option BState :=
  match r with
  | some (n, h') => fun P fn env ds kind ro cs => nextK o ops i rest k n P fn env ds kind ro cs h'
  | none => fun _ _ _ _ _ _ _ => none
def isDefer : Op → Bool
  | .defer _ => true
  | _ => false
def doOp (o : Oper) (ops : Array Oper) (i : Nat) (rest : List Nat) (k : List BItem) : StF := fun P fn env ds kind ro cs h =>
  match isDefer o.op with
  | true => slow (.inRegion ops (i :: rest) :: k) P fn env ds kind ro cs h
  | false => doneK o ops i rest k (op o.op P h (eval env) o) P fn env ds kind ro cs
def wantK (o : Oper) (ops : Array Oper) (i : Nat) (rest : List Nat) (k : List BItem) (w : Option Bool) : StF :=
  match w with
  | some true => doOp o ops i rest k
  | some false => valK o ops rest k BV.undef
  | none => fun _ _ _ _ _ _ _ _ => none
def operK (ops : Array Oper) (i : Nat) (rest : List Nat) (k : List BItem) (o : Option Oper) : StF :=
  match o with
  | some o => (match o.guard with
    | none => doOp o ops i rest k
    | some _ => fun P fn env ds kind ro cs h => wantK o ops i rest k (wantedB o ops (fun t => env[t]?)) P fn env ds kind ro cs h)
  | none => to (.inRegion ops rest :: k)
def inRegK (ops : Array Oper) (l : List Nat) (k : List BItem) : StF :=
  match l with
  | [] => to k
  | i :: rest => operK ops i rest k (aget ops i)

def itemK (i : BItem) (k : List BItem) : StF :=
  match i with
  | .code c => codeK c k
  | .inBlock _ => to k
  | .inScope _ => to k
  | .inLoop b => to (.code b :: .inLoop b :: k)
  | .inRegion ops l => inRegK ops l k
  | i => slow (i :: k)

def todoK (todo : List BItem) : StF :=
  match todo with
  | [] => leave [] none
  | i :: k => itemK i k

def step (P : Program) (s : BState) : Option BState :=
  match s with
  | ⟨⟨fn, env, todo, ds, mode, kind, ro⟩, cs, h⟩ =>
    match mode with
    | .run => todoK todo P fn env ds kind ro cs h
    | md => stepB P ⟨⟨fn, env, todo, ds, md, kind, ro⟩, cs, h⟩

theorem doneK_eq {P : Program} {fn : FuncId} {env : List BV} {ds : List BDef} {kind : CallKind} {ro : Option Nat} {cs : List BFrame} {h : BHeap} {ops : Array Oper} {i : Nat} {rest : List Nat} {k : List BItem} {o : Oper} (ho : ops[i]? = some o) :
    doneK o ops i rest k (op o.op P h (eval env) o) P fn env ds kind ro cs = (opB P h (evalB env) o).bind (applyB P ⟨fn, env, .inRegion ops (i :: rest) :: k, ds, .run, kind, ro⟩ cs .normal) := by
  rw [eval_eq, op_eq]
  cases opB P h (evalB env) o with
  | none => rfl
  | some r =>
    obtain ⟨n, h'⟩ := r
    show nextK o ops i rest k n P fn env ds kind ro cs h' = applyB P _ cs .normal (n, h')
    cases n with
    | value v => simp only [nextK, valK, put_eq, applyB, finishB, ho]; rfl
    | skip => simp only [nextK, valK, put_eq, applyB, finishB, ho]; rfl
    | enter f args => simp only [nextK, enterK, applyB]; cases enterB P f args .normal <;> rfl
    | _ => rfl

theorem doOp_eq {P : Program} {fn : FuncId} {env : List BV} {ds : List BDef} {kind : CallKind} {ro : Option Nat} {cs : List BFrame} {h : BHeap} {ops : Array Oper} {i : Nat} {rest : List Nat} {k : List BItem} {o : Oper} (ho : ops[i]? = some o)
    (hw : wantedB o ops (fun t => env[t]?) = some true) :
    doOp o ops i rest k P fn env ds kind ro cs h = stepB P ⟨⟨fn, env, .inRegion ops (i :: rest) :: k, ds, .run, kind, ro⟩, cs, h⟩ := by
  unfold doOp
  cases hd : isDefer o.op with
  | true => rfl
  | false =>
    have hnd : ∀ c, o.op ≠ .defer c := fun c hc => by rw [hc] at hd; cases hd
    simp only [stepB, ho, hw]
    cases ro with
    | none => exact doneK_eq ho
    | some l =>
      split
      · rename_i c _ hc; exact absurd hc (hnd _)
      · exact doneK_eq ho

theorem step_eq (P : Program) (s : BState) : step P s = stepB P s := by
  obtain ⟨⟨fn, env, todo, ds, mode, kind, ro⟩, cs, h⟩ := s
  cases mode with
  | returning => rfl
  | panicking c => rfl
  | run =>
    show todoK todo P fn env ds kind ro cs h = _
    cases todo with
    | nil => rfl
    | cons i k =>
      cases i with
      | code c =>
        cases c with
        | cond c a b =>
          show condC k a b (eval env c) P fn env ds kind ro cs h = _
          rw [eval_eq]
          simp only [stepB]
          cases evalB env c <;> first | rfl | (rename_i b; cases b <;> rfl)
        | exit id =>
          show exitR _ id (exitToB id k) P fn env ds kind ro cs h = _
          simp only [stepB]
          cases exitToB id k <;> rfl
        | region id ops draw =>
          cases draw with
          | true => rfl
          | false => rfl
        | _ => rfl
      | inRegion ops l =>
        cases l with
        | nil => rfl
        | cons i rest =>
          show operK ops i rest k (aget ops i) P fn env ds kind ro cs h = _
          rw [aget_eq]
          cases ho : ops[i]? with
          | none => simp only [stepB, ho]; rfl
          | some o =>
            unfold operK
            dsimp only
            cases hg : o.guard with
            | none =>
              have hw : wantedB o ops (fun t => env[t]?) = some true := by unfold wantedB; rw [hg]
              exact doOp_eq ho hw
            | some gd =>
              dsimp only
              cases hw : wantedB o ops (fun t => env[t]?) with
              | none => simp only [stepB, ho, hw, wantK]
              | some b =>
                cases b with
                | true => exact doOp_eq ho hw
                | false => simp only [stepB, ho, hw, wantK, valK, put_eq]; rfl
      | _ => rfl
end K

/-- the same machine, run by K's steps -/
def runK (P : Program) : Nat → BState → Option BState
  | 0, _ => none
  | n + 1, s => match s.ended with
    | true => some s
    | false => match K.step P s with | some s' => runK P n s' | none => none

theorem runK_eq (P : Program) : ∀ n s, runK P n s = runTo P n s := by
  intro n
  induction n with
  | zero => intro s; rfl
  | succ n ih =>
    intro s
    simp only [runK, runTo]
    cases s.ended with
    | true => rfl
    | false =>
      simp only [Bool.false_eq_true, if_false, K.step_eq]
      cases stepB P s with
      | none => rfl
      | some s' => exact ih s'

def callK (P : Program) (n : Nat) (f : FuncId) (args : List BV) (h : BHeap) : Option (BV × BHeap) :=
  match enterB P f args .normal with
  | none => none
  | some fr =>
    match runK P n { fr, cs := [], h } with
    | some s => (match s.fr.kind, P.funcs[s.fr.fn]? with | .normal, some fn => if Nat.beq s.fr.fn f then (resultsB P s.h fn s.fr.env).map fun v => (v, s.h) else none | _, _ => none)
    | none => none
end
end Go.PB

set_option linter.unusedSimpArgs false
set_option linter.unusedVariables false
namespace Go.PB
open Go Go.ChangeShapes Go.WideShapes Go.RowKit

/-- what is known of an argument by its type alone -/
def shapeB (P : Program) (t : TypeId) : BV :=
  match P.underlying t with
  | some (.struct _) | some (.array _ _) => .agg (List.replicate (P.cellsOf t) .any)
  | _ => .any

section
variable {P : Program} {g : Gh} {w W : World}

theorem rel_cell {r : Reach} {base : Nat} {t : TypeId} {v : Value} (h : Cell.okWide P W r base t v) : VRel P g w .any v := by
  have hn : (∀ cs, v ≠ .agg cs) ∧ ∀ cs, v ≠ .tuple cs := by
    constructor <;> intro cs e <;> subst e
    · unfold Cell.okWide at h
      split at h
      all_goals first
        | (rename_i e; cases e; done)
        | (rename_i _ e; cases e; done)
        | skip
      unfold Cell.ok at h
      split at h
      all_goals first
        | exact h
        | (rename_i e; cases e; done)
        | (rename_i _ e; cases e; done)
    · unfold Cell.okWide at h
      split at h
      all_goals first
        | (rename_i e; cases e; done)
        | (rename_i _ e; cases e; done)
        | skip
      unfold Cell.ok at h
      split at h
      all_goals first
        | exact h
        | (rename_i e; cases e; done)
        | (rename_i _ e; cases e; done)
  simp only [VRel]
  refine ⟨?_, hn⟩
  cases v <;> first
    | rfl
    | (exact absurd rfl (hn.1 _))

theorem rel_shape {r : Reach} {base : Nat} {t : TypeId} {v : Value} (h : Value.okWide P W r base t v) : VRel P g w (shapeB P t) v := by
  have hagg : ∀ {cs : Array Value}, cs.size = P.cellsOf t → Row.okWide P W r base t cs → VRel P g w (.agg (List.replicate (P.cellsOf t) .any)) (.agg cs) := by
    intro cs hs hrow
    simp only [VRel]
    refine ⟨cs, rfl, VRels.of_get (by simp [hs]) fun i b v hb hv => ?_⟩
    obtain ⟨ts, _, _, hc⟩ := hrow
    obtain ⟨u, _, hu⟩ := hc i v (by simpa using hv)
    have : b = .any := by
      have := List.mem_of_getElem? hb
      exact List.eq_of_mem_replicate this
    subst this
    exact rel_cell hu
  unfold Value.okWide at h
  unfold shapeB
  split at h
  · rename_i fs hu
    obtain ⟨cs, rfl, hs, hrow⟩ := h
    simp only [hu]
    exact hagg hs hrow
  · rename_i n e hu
    obtain ⟨cs, rfl, hs, hrow⟩ := h
    simp only [hu]
    exact hagg hs hrow
  · rename_i h1 h2
    split
    · rename_i fs hu; exact absurd hu (h1 fs)
    · rename_i n e hu; exact absurd hu (h2 n e)
    · exact rel_cell h

theorem rel_args {r : Reach} {base : Nat} {ps : Array TypeId} {args : Array Value} (hs : args.size = ps.size) (h : ∀ (j : Nat) t v, ps[j]? = some t → args[j]? = some v → Value.okWide P W r base t v) :
    VRels P g w (ps.toList.map (shapeB P)) args.toList := by
  refine VRels.of_get (by simp [hs]) fun i b v hb hv => ?_
  rw [List.getElem?_map] at hb
  cases hp : ps.toList[i]? with
  | none => rw [hp] at hb; cases hb
  | some t =>
    rw [hp] at hb
    simp only [Option.map_some, Option.some.injEq] at hb
    subst hb
    exact rel_shape (h i t v (by simpa using hp) (by simpa using hv))

/-- a call with arguments that B needs not look into -/
theorem blindX_true (hmix : P.follows .mixedOrders = true) {tbl : List Nat} {fuel n : Nat} {fid : FuncId} {r : Reach} {base : Nat} {ps : Array TypeId} {args : Array Value} (hs : args.size = ps.size)
    (h : ∀ (j : Nat) t v, ps[j]? = some t → args[j]? = some v → Value.okWide P W r base t v)
    (e : okB (callX P tbl fuel n fid (ps.toList.map (shapeB P)) h0) = true) (w : World) :
    Calls P fid args w fun ed w' => ed = .returned (.bool true) ∧ Kept w w' := by
  unfold okB at e
  split at e
  · rename_i h' hc
    refine (sim_callX hmix (hrel0 P w) (rel_args hs h) hc).mono ?_
    rintro ed w' ⟨v', g', h1, h2, h3, h4⟩
    simp only [VRel] at h4
    subst h4
    refine ⟨h1, ⟨h3.size, fun c hc => h3.kept c hc ?_, h3.os.1, h3.os.2.1, h3.os.2.2⟩⟩
    rintro ⟨b, o, base, hb, _⟩
    rw [h0_get] at hb; cases hb
  · cases e
end

section
variable {H : Type} {enc : TypeId × Value → H} {P : Program} {W W' : World}
theorem trodAll_stays (hl : laidOutB P = true) (hb : Below W.heap.size W W') : ∀ {ts : List TypeId} {vs : List Value} {ds : List (DataW H)} {ps : List MemPlace}, (∀ t ∈ ts, P.readableRec t = true ∧ t < P.types.size) →
    DataW.TrodAll enc P W 0 (fun _ => true) true ts vs ds ps → (∀ x ∈ ps, x.block < W.heap.size) → ∀ sp : Nat → Bool, (∀ x ∈ ps, sp x.block = true) → DataW.TrodAll enc P W' 0 sp true ts vs ds ps
  | [], _, _, _, _, h, _, _, _ => by
    obtain ⟨rfl, rfl, rfl⟩ := trodAll_nil h
    exact trodAll_mk0
  | t :: ts, vs, ds, ps, hts, h, hlt, sp, hsp => by
    obtain ⟨v, vr, d, dr, p, q, rfl, rfl, rfl, h1, h2⟩ := trodAll_cons h
    obtain ⟨hr, hrow⟩ := hts t List.mem_cons_self
    refine trodAll_cons_mk (Go.WideElems.Trod_stays hl hr hrow h1 (fun x hx => hb.same (hlt x (List.mem_append_left _ hx))) (fun x hx => hsp x (List.mem_append_left _ hx))) ?_
    exact trodAll_stays hl hb (fun t ht => hts t (List.mem_cons_of_mem _ ht)) h2 (fun x hx => hlt x (List.mem_append_right _ hx)) sp (fun x hx => hsp x (List.mem_append_right _ hx))

/-- the types of a law's arguments can be read -/
def paramsOk (P : Program) (ts : List TypeId) : Bool := ts.all fun t => P.readableRec t && decide (t < P.types.size)

/-- **A LAW's ROW, WHERE EACH CALL RETURNS true AND KEEPS ALL THAT WAS THERE.** -/
theorem law_returns {a : Assume} {C : Checked} {os : Os} {f : FuncId} {fn : Func} {s : ChangeSpec} {conds : List PathCond} {tb : TypeId}
    (own : ownKnob C.prog.godebug = none) (started : os.Started) (noInit : C.prog.inits.idxOf? f = none) (hfn : C.prog.funcs[f]? = some fn)
    (witness : ∃ (w : World) (tape : Tape) (i : Input), w.os = os ∧ (w.forCall tape i).Shaped C.prog ∧ i.vars = [] ∧ Input.okWide C.prog (w.forCall tape i) .any w.heap.size f i ∧
      s.pre6 enc C.prog fn conds false (w.forCall tape i).memory i.args ∧ a.holds C.prog (lone (Frame.enter C.prog f i.args .normal) [] (w.forCall tape i)))
    (hl : laidOutB C.prog = true) (hps : paramsOk C.prog fn.params.toList = true) (hvars : s.vars = [])
    (hspec : ∀ ds : List (DataW H), ds.length = fn.params.toList.length → s.fn H ds = { results := [.lit (.bool true)], args := ds })
    (hres : fn.resultTypes = #[tb]) (htb : C.prog.underlying tb = some .bool)
    (contract : ∀ (W : World) (base : Nat) (args : Array Value) (ds : List (DataW H)) (ps : List MemPlace), args.size = fn.params.size →
      (∀ (j : Nat) t v, fn.params[j]? = some t → args[j]? = some v → Value.okWide C.prog W .any base t v) →
      DataW.TrodAll enc C.prog W 0 (fun _ => true) true fn.params.toList args.toList ds ps →
      Calls C.prog f args W fun e W' => e = .returned (.bool true) ∧ Kept W W') :
    ReturnsInHanded a C os f .any (s.pre6 enc C.prog fn conds false) (s.post enc C.prog fn false true false false) := by
  refine returnsInHanded_of_change own started noInit hfn witness ?_
  intro W base args ds gs before hval hW _ _
  have hW' := hW
  obtain ⟨p, q, hA, hV, hpq, hfz, hnd⟩ := hW
  rw [hvars] at hV
  obtain ⟨hgs, hq⟩ := trodVars_none hV
  have hlen := trodAll_length hA
  have hsz : args.size = fn.params.size := by have := hlen.1; simpa using this
  refine (contract W base args ds p hsz hval hA).mono fun e W' ⟨he, hk⟩ => ?_
  subst he
  have hds : s.fn H (ds ++ gs) = { results := [.lit (.bool true)], args := ds } := by rw [hgs, List.append_nil]; exact hspec ds hlen.2
  have hbp : before = p := by rw [hpq, hq, List.append_nil]
  have hlt : ∀ x ∈ p, x.block < W.heap.size := fun x hx => hW'.lt x (by rw [hbp]; exact hx)
  have hparams : ∀ t ∈ fn.params.toList, C.prog.readableRec t = true ∧ t < C.prog.types.size := fun t ht => by
    have := List.all_eq_true.1 hps t ht
    simpa using this
  refine ⟨_, rfl, post_of_kept (pa := p) (pv := []) hW' (fun _ _ _ => ?_) (fun sp hsp => ?_) (fun sp hsp => ?_) (by rw [hbp, List.append_nil]) hk ?_⟩
  · rw [hds, hres]
    exact trodAll_cons_mk (shut_bool htb _) trodAll_mk0
  · rw [hds]
    exact trodAll_stays hl hk.below hparams hA hlt sp (fun x hx => hsp x (by rw [hbp]; exact hx))
  · rw [hds, hvars]; rfl
  · exact ok_one hres rfl (okWide_bool_mk htb _)
/-- the same, under a premise on the world -/
theorem law_returns_and {X : World → Array Value → Prop} (hX : ∀ (w w' : World) (args : Array Value), w.heap = w'.heap → X w args → X w' args) {a : Assume} {C : Checked} {os : Os} {f : FuncId} {fn : Func} {s : ChangeSpec} {conds : List PathCond} {tb : TypeId}
    (own : ownKnob C.prog.godebug = none) (started : os.Started) (noInit : C.prog.inits.idxOf? f = none) (hfn : C.prog.funcs[f]? = some fn)
    (witness : ∃ (w : World) (tape : Tape) (i : Input), w.os = os ∧ (w.forCall tape i).Shaped C.prog ∧ i.vars = [] ∧ Input.okWide C.prog (w.forCall tape i) .any w.heap.size f i ∧
      ((s.pre enc C.prog fn conds false (w.forCall tape i).memory i.args ∧ X (w.forCall tape i).memory i.args) ∧ sizedMet enc C.prog fn (OpenSpec.ofChange s) false (w.forCall tape i).memory i.args) ∧ a.holds C.prog (lone (Frame.enter C.prog f i.args .normal) [] (w.forCall tape i)))
    (hl : laidOutB C.prog = true) (hps : paramsOk C.prog fn.params.toList = true) (hvars : s.vars = [])
    (hspec : ∀ ds : List (DataW H), ds.length = fn.params.toList.length → s.fn H ds = { results := [.lit (.bool true)], args := ds })
    (hres : fn.resultTypes = #[tb]) (htb : C.prog.underlying tb = some .bool)
    (contract : ∀ (W : World) (base : Nat) (args : Array Value) (ds : List (DataW H)) (ps : List MemPlace), args.size = fn.params.size →
      (∀ (j : Nat) t v, fn.params[j]? = some t → args[j]? = some v → Value.okWide C.prog W .any base t v) →
      DataW.TrodAll enc C.prog W 0 (fun _ => true) true fn.params.toList args.toList ds ps →
      Calls C.prog f args W fun e W' => e = .returned (.bool true) ∧ Kept W W') :
    ReturnsInHanded a C os f .any (fun w args => (s.pre enc C.prog fn conds false w args ∧ X w args) ∧ sizedMet enc C.prog fn (OpenSpec.ofChange s) false w args) (s.post enc C.prog fn false true false false) := by
  refine returnsInHanded_of_change_and hX own started noInit hfn witness ?_
  intro W base args ds gs before hval hW _ _ _ _
  have hW' := hW
  obtain ⟨p, q, hA, hV, hpq, hfz, hnd⟩ := hW
  rw [hvars] at hV
  obtain ⟨hgs, hq⟩ := trodVars_none hV
  have hlen := trodAll_length hA
  have hsz : args.size = fn.params.size := by have := hlen.1; simpa using this
  refine (contract W base args ds p hsz hval hA).mono fun e W' ⟨he, hk⟩ => ?_
  subst he
  have hds : s.fn H (ds ++ gs) = { results := [.lit (.bool true)], args := ds } := by rw [hgs, List.append_nil]; exact hspec ds hlen.2
  have hbp : before = p := by rw [hpq, hq, List.append_nil]
  have hlt : ∀ x ∈ p, x.block < W.heap.size := fun x hx => hW'.lt x (by rw [hbp]; exact hx)
  have hparams : ∀ t ∈ fn.params.toList, C.prog.readableRec t = true ∧ t < C.prog.types.size := fun t ht => by
    have := List.all_eq_true.1 hps t ht
    simpa using this
  refine ⟨_, rfl, post_of_kept (pa := p) (pv := []) hW' (fun _ _ _ => ?_) (fun sp hsp => ?_) (fun sp hsp => ?_) (by rw [hbp, List.append_nil]) hk ?_⟩
  · rw [hds, hres]
    exact trodAll_cons_mk (shut_bool htb _) trodAll_mk0
  · rw [hds]
    exact trodAll_stays hl hk.below hparams hA hlt sp (fun x hx => hsp x (by rw [hbp]; exact hx))
  · rw [hds, hvars]; rfl
  · exact ok_one hres rfl (okWide_bool_mk htb _)
end
end Go.PB

