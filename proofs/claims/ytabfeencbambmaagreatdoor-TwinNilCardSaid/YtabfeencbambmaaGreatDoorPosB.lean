/- A deterministic machine B over values with block names of its own, mirroring the model's machine for a fragment. Definitions only. -/
import GoSem.Claims
set_option linter.unusedSimpArgs false
set_option linter.unusedVariables false
namespace Go.PB
open Go
noncomputable section

inductive BV where
  | junk
  | any      -- some value of one cell
  | bool (b : Bool)
  | int (k : IntKind) (n : Int)
  | str (s : List UInt8)
  | nilp
  | ptr (b off : Nat)
  | rptr (cs : List BV)
  | nils
  | eslice
  | slice (b off len : Nat) (cap : Option Nat)
  | rslice (cs : List BV) (len : Nat) (cap : Option Nat)
  | nilm
  | map (b : Nat)
  | func (fn : Fn) (first captured : List BV)
  | yield (l : Nat)
  | nilf
  | iface (t : TypeId) (v : BV)
  | nili
  | agg (cs : List BV)
  | tuple (vs : List BV)
  deriving Inhabited

def BV.undef : BV := .tuple []

/-- one cell of memory may bear it -/
def BV.one : BV → Bool
  | .junk | .agg _ | .tuple _ => false
  | _ => true

/-- neither junk nor some value -/
def BV.known : BV → Bool
  | .junk | .any => false
  | _ => true

/-- not junk -/
def BV.solid : BV → Bool
  | .junk => false
  | _ => true

def BV.cells : BV → List BV
  | .agg cs => cs
  | v => [v]

/-- a constant's value; what names memory is junk -/
def BV.of : Nat → Value → BV
  | 0, _ => .junk
  | n + 1, v =>
    match v with
    | .bool b => .bool b
    | .int k m => .int k m
    | .string s => .str s.data.toList
    | .pointer none => .nilp
    | .slice none 0 0 => .nils
    | .map none => .nilm
    | .nilFunc => .nilf
    | .nilIface => .nili
    | .iface t x => .iface t (BV.of n x)
    | .agg cs => .agg (cs.toList.map (BV.of n))
    | .tuple cs => .tuple (cs.toList.map (BV.of n))
    | _ => .junk

def BV.ofv (v : Value) : BV := BV.of 6 v

mutual
def BV.beq : Nat → BV → BV → Bool
  | 0, _, _ => false
  | n + 1, a, b =>
    match a, b with
    | .bool x, .bool y => x == y
    | .int k x, .int j y => k == j && x == y
    | .str x, .str y => x == y
    | .nilp, .nilp => true
    | .ptr x o, .ptr y p => x == y && o == p
    | .rptr x, .rptr y => BV.beqs n x y
    | .nils, .nils => true
    | .slice x o l c, .slice y p m d => x == y && o == p && l == m && c == d
    | .rslice x l c, .rslice y m d => BV.beqs n x y && l == m && c == d
    | .nilm, .nilm => true
    | .map x, .map y => x == y
    | .func f x y, .func g z w => f == g && BV.beqs n x z && BV.beqs n y w
    | .yield x, .yield y => x == y
    | .nilf, .nilf => true
    | .iface t x, .iface u y => t == u && BV.beq n x y
    | .nili, .nili => true
    | .any, .any => true
    | .agg x, .agg y => BV.beqs n x y
    | .tuple x, .tuple y => BV.beqs n x y
    | _, _ => false
def BV.beqs : Nat → List BV → List BV → Bool
  | 0, _, _ => false
  | n + 1, a, b =>
    match a, b with
    | [], [] => true
    | x :: r, y :: s => BV.beq n x y && BV.beqs n r s
    | _, _ => false
end

inductive BTarget where
  | fn (fn : Fn) (captured : List BV)
  | yield (l : Nat)
  | nil
  | builtin (b : Builtin) (argTypes : Array TypeId) (type : TypeId) (consts : Array Bool)
  | collected (r : Nat)
  deriving Inhabited

structure BDef where
  target : BTarget
  args : List BV
  deriving Inhabited

structure BEntry where
  key : BV
  val : BV
  born : Nat
  deriving Inhabited

structure BLoop where
  state : LoopState
  pending : Option Code
  fn : FuncId
  tmps : List BV
  params : Array Tmp
  assign : Code
  body : Code
  defers : Nat
  deriving Inhabited

inductive BObj where
  | cells (cs : List BV) (elem : TypeId) (sish : Bool)
  | map (es : List BEntry) (clock : Nat)
  | mapIter (map : Option Nat) (since : Nat) (seen : List Nat) (stepped : Nat)
  | strIter (s : List UInt8) (pos : Nat)
  | loop (l : BLoop)
  | deferred (calls : Option (List BDef))
  deriving Inhabited

inductive Tr (α : Type) where
  | leaf
  | node (v : Option α) (l r : Tr α)
  deriving Inhabited

def Tr.get {α : Type} (t : Tr α) : Nat → Option α :=
  Tr.rec (fun _ => none) (fun v _ _ ihl ihr n => cond (Nat.beq n 0) v (cond (Nat.beq (Nat.mod n 2) 1) (ihl (Nat.div n 2)) (ihr (Nat.sub (Nat.div n 2) 1)))) t

def Tr.setF {α : Type} : Nat → Tr α → Nat → Option α → Tr α
  | 0, t, _, _ => t
  | f + 1, t, n, x =>
    match t with
    | .leaf => cond (Nat.beq n 0) (.node x .leaf .leaf) (cond (Nat.beq (Nat.mod n 2) 1) (.node none (Tr.setF f .leaf (Nat.div n 2) x) .leaf) (.node none .leaf (Tr.setF f .leaf (Nat.sub (Nat.div n 2) 1) x)))
    | .node v l r => cond (Nat.beq n 0) (.node x l r) (cond (Nat.beq (Nat.mod n 2) 1) (.node v (Tr.setF f l (Nat.div n 2) x) r) (.node v l (Tr.setF f r (Nat.sub (Nat.div n 2) 1) x)))

structure BHeap where
  next : Nat
  tr : Tr BObj
  log : List Nat      -- the blocks that were written, the youngest first
  deriving Inhabited

def BHeap.get (h : BHeap) (b : Nat) : Option BObj := Tr.get h.tr b
def BHeap.put (h : BHeap) (b : Nat) (o : Option BObj) : BHeap :=
  match h with
  | ⟨next, tr, log⟩ => ⟨next, Tr.setF (b + 1) tr b o, b :: log⟩
def BHeap.new (h : BHeap) (o : BObj) : BHeap :=
  match h with
  | ⟨next, tr, log⟩ => ⟨Nat.succ next, Tr.setF (Nat.succ next) tr next (some o), log⟩

/-! ### types -/
section
variable (P : Program)
def szOf (t : TypeId) : Option Nat := (P.info? t).map (·.size)
def isAggB (t : TypeId) : Option Bool := (P.underlying t).map fun | .struct _ | .array _ _ => true | _ => false
def zeroB (t : TypeId) : Option BV := (P.info? t).bind fun i => i.zero.map BV.ofv
end

/-- the cells from off on, n of them -/
def takeCells (cs : List BV) (off n : Nat) : Option (List BV) :=
  let r := (cs.drop off).take n
  if r.length = n then some r else none

def putCells (cs : List BV) (off : Nat) (vs : List BV) : Option (List BV) :=
  if off + vs.length ≤ cs.length then some (cs.take off ++ (vs ++ cs.drop (off + vs.length))) else none

def loadB (P : Program) (h : BHeap) (t : TypeId) (a : BV) : Option BV :=
  match isAggB P t, szOf P t with
  | some ag, some n =>
    match a with
    | .ptr b off =>
      match h.get b with
      | some (.cells cs _ _) => if ag then (takeCells cs off n).map .agg else cs[off]?
      | _ => none
    | .rptr cs => if ag then (takeCells cs 0 n).map .agg else cs[0]?
    | _ => none
  | _, _ => none

def storeB (P : Program) (h : BHeap) (t : TypeId) (a v : BV) : Option BHeap :=
  match szOf P t, a with
  | some n, .ptr b off =>
    match h.get b with
    | some (.cells cs e s) =>
      if v.cells.length = n && v.cells.all BV.one then (putCells cs off v.cells).map fun cs' => h.put b (some (.cells cs' e s)) else none
    | _ => none
  | _, _ => none

def allocB (P : Program) (h : BHeap) (t : TypeId) (v : BV) : Option (BV × BHeap) :=
  if v.cells.all BV.one then some (.ptr h.next 0, h.new (.cells v.cells t false)) else none

def partB (P : Program) (t : TypeId) (cs : List BV) (off : Nat) : Option BV :=
  match isAggB P t, szOf P t with
  | some true, some n => (takeCells cs off n).map .agg
  | some false, _ => cs[off]?
  | _, _ => none

/-! ### equality -/
def eqFields (P : Program) (E : TypeId → BV → BV → Option Bool) : List Field → List BV → List BV → Option Bool
  | [], _, _ => some true
  | f :: r, xs, ys =>
    if f.name ≠ "_" then
      match partB P f.type xs f.offset, partB P f.type ys f.offset with
      | some a, some b => (match E f.type a b with | some true => eqFields P E r xs ys | some false => some false | none => none)
      | _, _ => none
    else eqFields P E r xs ys

def eqElems (P : Program) (E : TypeId → BV → BV → Option Bool) (e : TypeId) (n : Nat) : List Nat → List BV → List BV → Option Bool
  | [], _, _ => some true
  | i :: r, xs, ys =>
    match partB P e xs (i * n), partB P e ys (i * n) with
    | some a, some b => (match E e a b with | some true => eqElems P E e n r xs ys | some false => some false | none => none)
    | _, _ => none

def eqB (P : Program) (h : BHeap) : Nat → TypeId → BV → BV → Option Bool
  | 0, _, _, _ => none
  | d + 1, t, x, y =>
    match P.underlying t, x, y with
    | some .bool, .bool a, .bool b => some (a == b)
    | some (.int _), .int k a, .int k' b => if k = k' then some (a == b) else none
    | some .string, .str a, .str b => some (a == b)
    | some (.pointer _), .nilp, .nilp => some true
    | some (.pointer _), .nilp, .ptr _ _ => some false
    | some (.pointer _), .nilp, .rptr _ => some false
    | some (.pointer _), .ptr _ _, .nilp => some false
    | some (.pointer _), .rptr _, .nilp => some false
    | some (.pointer e), .ptr a i, .ptr b j =>
      match h.get a, h.get b, szOf P e with
      | some (.cells _ _ false), some (.cells _ _ false), some (_ + 1) => some (if a = b then i == j else false)
      | _, _, _ => none
    | some (.interface _), .nili, .nili => some true
    | some (.interface _), .nili, .iface _ _ => some false
    | some (.interface _), .iface _ _, .nili => some false
    | some (.interface _), .iface tx vx, .iface ty vy =>
      if tx ≠ ty then some false else
      match P.info? tx with
      | some i => if i.comparable then eqB P h d tx vx vy else none
      | none => none
    | some (.struct fields), .agg xs, .agg ys =>
      if P.stoodInHeld t then none else eqFields P (eqB P h d) fields.toList xs ys
    | some (.array len e), .agg xs, .agg ys =>
      (match szOf P e with
      | some n => eqElems P (eqB P h d) e n (List.range' 0 len 1) xs ys
      | none => none)
    | some (.slice _), .nils, .nils => some true
    | some (.slice _), .nils, .eslice => some false
    | some (.slice _), .nils, .slice _ _ _ _ => some false
    | some (.slice _), .nils, .rslice _ _ _ => some false
    | some (.slice _), .eslice, .nils => some false
    | some (.slice _), .slice _ _ _ _, .nils => some false
    | some (.slice _), .rslice _ _ _, .nils => some false
    | some (.map _ _), .nilm, .nilm => some true
    | some (.map _ _), .nilm, .map _ => some false
    | some (.map _ _), .map _, .nilm => some false
    | some (.func _ _ _), .nilf, .nilf => some true
    | some (.func _ _ _), .nilf, .func _ _ _ => some false
    | some (.func _ _ _), .func _ _ _, .nilf => some false
    | some (.func _ _ _), .nilf, .yield _ => some false
    | some (.func _ _ _), .yield _, .nilf => some false
    | _, _, _ => none

/-- may == go ahead? (the model's guard on nil interfaces) -/
def eqGuardB (P : Program) (op : BinOp) (t : TypeId) (x y : Operand) (a b : BV) : Bool :=
  match op with
  | .eql | .neq =>
    match a, b with
    | .nili, .nili => (x matches .const _) || (y matches .const _)
    | .agg _, .agg _ => !P.eqGuardType P.depth t
    | _, _ => true
  | _ => true

def bytesLt : List UInt8 → List UInt8 → Bool := Op.bytesLess

def binB (P : Program) (h : BHeap) (op : BinOp) (t : TypeId) (x y : BV) : Option BV :=
  match op, x, y with
  | .shl, .int k a, .int _ b => if b < 0 then none else some (.int k (k.wrap (a * 2 ^ (min b.toNat k.bits))))
  | .shr, .int k a, .int _ b => if b < 0 then none else some (.int k (a.fdiv (2 ^ (min b.toNat k.bits))))
  | _, .int k a, .int k' b =>
    if k ≠ k' then none else
    match op with
    | .add => some (.int k (k.wrap (a + b)))
    | .sub => some (.int k (k.wrap (a - b)))
    | .mul => some (.int k (k.wrap (a * b)))
    | .quo => if b = 0 then none else some (.int k (k.wrap (a.tdiv b)))
    | .rem => if b = 0 then none else some (.int k (a.tmod b))
    | .and => some (.int k (k.wrap (BitVec.ofInt k.bits a &&& BitVec.ofInt k.bits b).toNat))
    | .or => some (.int k (k.wrap (BitVec.ofInt k.bits a ||| BitVec.ofInt k.bits b).toNat))
    | .xor => some (.int k (k.wrap (BitVec.ofInt k.bits a ^^^ BitVec.ofInt k.bits b).toNat))
    | .andNot => some (.int k (k.wrap (BitVec.ofInt k.bits a &&& ~~~(BitVec.ofInt k.bits b)).toNat))
    | .eql => some (.bool (a == b))
    | .neq => some (.bool (a != b))
    | .lss => some (.bool (decide (a < b)))
    | .leq => some (.bool (decide (a ≤ b)))
    | .gtr => some (.bool (decide (a > b)))
    | .geq => some (.bool (decide (a ≥ b)))
    | _ => none
  | _, .str a, .str b =>
    match op with
    | .add => if a.length + b.length < 2 ^ 62 then some (.str (a ++ b)) else none
    | .eql => some (.bool (a == b))
    | .neq => some (.bool (!(a == b)))
    | .lss => some (.bool (bytesLt a b))
    | .leq => some (.bool (bytesLt a b || a == b))
    | .gtr => some (.bool (!(bytesLt a b || a == b)))
    | .geq => some (.bool (!bytesLt a b))
    | _ => none
  | .eql, x, y => (eqB P h 12 t x y).map .bool
  | .neq, x, y => (eqB P h 12 t x y).map fun b => .bool (!b)
  | _, _, _ => none

def unB (op : UnOp) (x : BV) : Option BV :=
  match op, x with
  | .neg, .int k n => some (.int k (k.wrap (0 - n)))
  | .xor, .int k n => some (.int k (k.wrap (BitVec.ofInt k.bits (if k.signed then -1 else k.max) ^^^ BitVec.ofInt k.bits n).toNat))
  | .not, .bool b => some (.bool !b)
  | _, _ => none

def goI (n : Nat) : BV := .int .i64 n

/-- elements of a slice or bytes of a string, as cells -/
def elemsB (P : Program) (h : BHeap) (size : Nat) : BV → Option (List BV × Nat)
  | .nils => some ([], 0)
  | .eslice => some ([], 0)
  | .slice b off len _ =>
    match h.get b with
    | some (.cells cs _ _) => (takeCells cs off (len * size)).map fun l => (l, len)
    | _ => none
  | .rslice cs len _ => (takeCells cs 0 (len * size)).map fun l => (l, len)
  | .str s => if size = 1 then some (s.map fun c => .int .u8 c.toNat, s.length) else none
  | _ => none

def intT : TypeDesc → Bool
  | .int _ => true
  | _ => false
def roomB (bytes m : Nat) : Bool := decide ((2 * m + 1024) * bytes ≤ 2 ^ 47)
def capGe : Option Nat → Nat → Bool
  | some c, n => decide (n ≤ c)
  | none, _ => true

def zeroOk (P : Program) (e : TypeId) (size : Nat) : Bool :=
  match zeroB P e with
  | some z => z.solid && z.cells.length == size
  | none => false

def appendNone (h : BHeap) (s : BV) : Option (BV × BHeap) :=
  match s with
  | .nils => some (.nils, h)
  | .eslice => some (.eslice, h)
  | .slice b off len cap => if capGe cap len then some (.slice b off len cap, h) else none
  | .rslice cs len cap => if capGe cap len then some (.rslice cs len cap, h) else none
  | _ => none

def appendSome (h : BHeap) (e : TypeId) (size bytes : Nat) (s : BV) (xs : List BV) (n : Nat) : Option (BV × BHeap) :=
  match s with
  | .nils => if roomB bytes n then some (.slice h.next 0 n none, h.new (.cells xs e false)) else none
  | .slice b off len (some c) =>
    match h.get b with
    | some (.cells cs e' sh) =>
      if len + n ≤ c then (putCells cs (off + len * size) xs).map fun cs' => (.slice b off (len + n) (some c), h.put b (some (.cells cs' e' sh)))
      else if roomB bytes (len + n) then (takeCells cs off (len * size)).map fun old => (.slice h.next 0 (len + n) none, h.new (.cells (old ++ xs) e false)) else none
    | _ => none
  | .slice b off len none =>
    match h.get b with
    | some (.cells cs e' sh) =>
      if off + len * size = cs.length ∧ roomB bytes (len + n) = true ∧ e' = e then some (.slice h.next 0 (len + n) none, (h.put b none).new (.cells (cs.drop off ++ xs) e sh)) else none
    | _ => none
  | .rslice cs len (some c) =>
    if len + n ≤ c then none else
    if roomB bytes (len + n) then (takeCells cs 0 (len * size)).map fun old => (.slice h.next 0 (len + n) none, h.new (.cells (old ++ xs) e false)) else none
  | _ => none

def appendB (P : Program) (h : BHeap) (argTypes : Array TypeId) (args : List BV) : Option (BV × BHeap) :=
  match argTypes[0]?, argTypes[1]?, args with
  | some st, some xt0, [s, x] =>
    match P.underlying st, P.underlying xt0 with
    | some (.slice e), some xt =>
      match P.info? e with
      | some i =>
        match elemsB P h i.size x with
        | some (xs, n) =>
          if intT xt || i.size == 0 || i.bytes == 0 || !(xs.all BV.one) || !zeroOk P e i.size then none else
          if n = 0 then appendNone h s else appendSome h e i.size i.bytes s xs n
        | none => none
      | none => none
    | _, _ => none
  | _, _, _ => none

def copyB (P : Program) (h : BHeap) (argTypes : Array TypeId) (args : List BV) : Option (BV × BHeap) :=
  match argTypes[0]?, args with
  | some dt, [d, s] =>
    match P.underlying dt with
    | some (.slice e) =>
      match szOf P e with
      | some size =>
        match elemsB P h size s with
        | some (xs, n) =>
          match d with
          | .nils => some (goI 0, h)
          | .eslice => some (goI 0, h)
          | .slice b off len _ =>
            let k := Nat.min n len
            let ys := xs.take (k * size)
            if !(ys.all BV.one) then none else
            match h.get b with
            | some (.cells cs e' sh) => (putCells cs off ys).map fun cs' => (goI k, h.put b (some (.cells cs' e' sh)))
            | _ => none
          | _ => none
        | none => none
      | none => none
    | _ => none
  | _, _ => none

/-! ### maps -/
def keyFields (P : Program) (K : TypeId → BV → Bool) : List Field → List BV → Bool
  | [], _ => true
  | f :: r, cs => (if f.name ≠ "_" then (match partB P f.type cs f.offset with | some x => K f.type x | none => false) else true) && keyFields P K r cs

def keyOk (P : Program) : Nat → TypeId → BV → Bool
  | 0, _, _ => false
  | n + 1, t, v =>
    match P.underlying t, v with
    | some (.struct fs), .agg cs => keyFields P (keyOk P n) fs.toList cs
    | some (.int _), .int _ _ => true
    | some .string, .str _ => true
    | some .bool, .bool _ => true
    | _, _ => false

/-- a key that is one with itself to the bit -/
def plainKeyB : BV → Bool
  | .int .. | .str _ | .bool _ => true
  | .agg cs => cs.all fun c => match c with | .int .. | .str _ | .bool _ => true | _ => false
  | _ => false

def sameKeyB (es : List BEntry) (i : Nat) (k : BV) : Bool :=
  match es[i]? with
  | some e => plainKeyB k && BV.beq 20 e.key k
  | none => false

/-- two keys, fully known scalars or structs of these -/
def keyEq (P : Program) (h : BHeap) (t : TypeId) (a b : BV) : Option Bool := eqB P h 12 t a b

def findB (P : Program) (h : BHeap) (kt : TypeId) (k : BV) : List BEntry → Nat → Option (Option (Nat × BV))
  | [], _ => some none
  | e :: es, i =>
    match keyEq P h kt k e.key with
    | some true => some (some (i, e.val))
    | some false => findB P h kt k es (i + 1)
    | none => none

def lookupB (P : Program) (h : BHeap) (t : TypeId) (x k : BV) (ok : Bool) : Option BV :=
  match P.underlying t with
  | some (.map kt et) =>
    if !keyOk P 4 kt k then none else
    let es : Option (List BEntry) := match x with
      | .nilm => some []
      | .map r => (match h.get r with | some (.map es _) => some es | _ => none)
      | _ => none
    match es with
    | none => none
    | some es =>
      match findB P h kt k es 0 with
      | some (some (_, v)) => some (if ok then .tuple [v, .bool true] else v)
      | some none => (zeroB P et).map fun z => if ok then .tuple [z, .bool false] else z
      | none => none
  | _ => none

def mapUpdateB (P : Program) (h : BHeap) (t : TypeId) (m k v : BV) : Option BHeap :=
  match P.underlying t, m with
  | some (.map kt _), .map r =>
    if !keyOk P 4 kt k then none else
    match h.get r with
    | some (.map es clock) =>
      match findB P h kt k es 0 with
      | some (some (i, _)) => if sameKeyB es i k then some (h.put r (some (.map (es.modify i fun e => { e with key := k, val := v }) clock))) else none
      | some none => some (h.put r (some (.map (es ++ [{ key := k, val := v, born := clock }]) (clock + 1))))
      | none => none
    | _ => none
  | _, _ => none

def mapEntryB (P : Program) (h : BHeap) (t : TypeId) (m k : BV) : Option (BV × BHeap) :=
  match P.underlying t, m with
  | some (.map kt et), .map r =>
    if !keyOk P 4 kt k then none else
    match h.get r with
    | some (.map es clock) =>
      match findB P h kt k es 0 with
      | some (some (i, v)) => if sameKeyB es i k then some (.tuple [v, goI (((es[i]?).map (·.born)).getD 0)], h.put r (some (.map (es.modify i fun e => { e with key := k }) clock))) else none
      | some none => (zeroB P et).map fun z => (.tuple [z, goI clock], h.put r (some (.map (es ++ [{ key := k, val := z, born := clock }]) (clock + 1))))
      | none => none
    | _ => none
  | _, _ => none

def entryStoreB (h : BHeap) (m stamp v : BV) : Option BHeap :=
  match m, stamp with
  | .map r, .int _ born =>
    match h.get r with
    | some (.map es clock) =>
      match es.findIdx? (fun e => (e.born : Int) == born) with
      | some i => some (h.put r (some (.map (es.modify i fun e => { e with val := v }) clock)))
      | none => none
    | _ => none
  | _, _ => none

def deleteB (P : Program) (h : BHeap) (argTypes : Array TypeId) (args : List BV) : Option (BV × BHeap) :=
  match argTypes[0]?, args with
  | some t, [m, k] =>
    match P.underlying t with
    | some (.map kt _) =>
      if !keyOk P 4 kt k then none else
      match m with
      | .nilm => some (.tuple [], h)
      | .map r =>
        match h.get r with
        | some (.map es clock) =>
          match findB P h kt k es 0 with
          | some (some (i, _)) => some (.tuple [], h.put r (some (.map (es.eraseIdx i) clock)))
          | some none => some (.tuple [], h.put r (some (.map es clock)))
          | none => none
        | _ => none
      | _ => none
    | _ => none
  | _, _ => none

def clearB (P : Program) (h : BHeap) (argTypes : Array TypeId) (args : List BV) : Option (BV × BHeap) :=
  match argTypes[0]?, args with
  | some t, [x] =>
    match P.underlying t, x with
    | some _, .nilm => some (.tuple [], h)
    | some _, .nils => some (.tuple [], h)
    | some _, .eslice => some (.tuple [], h)
    | some (.map _ _), .map r =>
      match h.get r with
      | some (.map _ clock) => some (.tuple [], h.put r (some (.map [] clock)))
      | _ => none
    | _, _ => none
  | _, _ => none

def rangeB (P : Program) (h : BHeap) (t : TypeId) (x : BV) : Option (BV × BHeap) :=
  match P.underlying t, x with
  | some .string, .str s => some (.ptr h.next 0, h.new (.strIter s 0))
  | some (.map _ _), .nilm => some (.ptr h.next 0, h.new (.mapIter none 0 [] 0))
  | some (.map _ _), .map m =>
    match h.get m with
    | some (.map _ clock) => some (.ptr h.next 0, h.new (.mapIter (some m) clock [] clock))
    | _ => none
  | _, _ => none

def nextB (h : BHeap) (it : BV) (isString : Bool) : Option (BV × BHeap) :=
  match it with
  | .ptr r 0 =>
    match h.get r, isString with
    | some (.strIter s pos), true =>
      if pos < s.length then
        let (c, width) := Utf8.decode ⟨s.toArray⟩ pos
        some (.tuple [.bool true, goI pos, .int .i32 c], h.put r (some (.strIter s (pos + width))))
      else some (.tuple [.bool false], h)
    | some (.mapIter none _ _ _), false => some (.tuple [.bool false], h)
    | some (.mapIter (some m) since seen last), false =>
      match h.get m with
      | some (.map es clock) =>
        if !seen.isEmpty && !es.isEmpty && es.all (fun e => decide (e.born ≥ last)) then none else
        let left := es.filter fun e => !seen.contains e.born
        let old := left.filter fun e => decide (e.born < since)
        let new := left.filter fun e => decide (e.born ≥ since)
        match old, new with
        | [], [] => some (.tuple [.bool false], h)
        | [e], [] => some (.tuple [.bool true, e.key, e.val], h.put r (some (.mapIter (some m) since (seen ++ [e.born]) clock)))
        | _, _ => none
      | _ => none
    | _, _ => none
  | _ => none

def entryB (h : BHeap) (it : BV) : Option BV :=
  match it with
  | .ptr r 0 =>
    match h.get r with
    | some (.mapIter (some m) _ seen stepped) =>
      match seen.getLast?, h.get m with
      | some stamp, some (.map es clock) =>
        if clock != stepped then none else
        match es.find? (fun e => e.born == stamp) with
        | some e => some (.tuple [e.key, e.val])
        | none => none
      | _, _ => none
    | _ => none
  | _ => none

/-! ### addresses, slices -/
def fieldAddrB (P : Program) (t : TypeId) (x : BV) (i : Nat) : Option BV :=
  match P.underlying t with
  | some (.struct fs) =>
    match fs[i]? with
    | some f =>
      match szOf P f.type with
      | some (_ + 1) =>
        match x with
        | .ptr b off => some (.ptr b (off + f.offset))
        | .rptr cs => some (.rptr (cs.drop f.offset))
        | _ => none
      | _ => none
    | none => none
  | _ => none

def indexAddrB (P : Program) (t : TypeId) (x ix : BV) : Option BV :=
  match ix with
  | .int _ i =>
    if i < 0 then none else
    let i := i.toNat
    match P.underlying t with
    | some (.array len e) =>
      match szOf P e with
      | some size =>
        if i < len then (match x with
          | .ptr b off => some (.ptr b (off + i * size))
          | .rptr cs => some (.rptr (cs.drop (i * size)))
          | _ => none) else none
      | none => none
    | some (.slice e) =>
      match szOf P e with
      | some size =>
        match x with
        | .slice b off len _ => if i < len then some (.ptr b (off + i * size)) else none
        | .rslice cs len _ => if i < len then some (.rptr (cs.drop (i * size))) else none
        | _ => none
      | none => none
    | _ => none
  | _ => none

def indexB (P : Program) (t : TypeId) (x ix : BV) : Option BV :=
  match ix with
  | .int _ i =>
    if i < 0 then none else
    let i := i.toNat
    match P.underlying t, x with
    | some (.array len e), .agg cs =>
      (match szOf P e with
      | some size => if i < len then partB P e cs (i * size) else none
      | none => none)
    | some .string, .str s => (match s[i]? with | some b => some (.int .u8 b.toNat) | none => none)
    | _, _ => none
  | _ => none

def fieldB (P : Program) (t : TypeId) (x : BV) (i : Nat) : Option BV :=
  match P.underlying t, x with
  | some (.struct fs), .agg cs => (match fs[i]? with | some f => partB P f.type cs f.offset | none => none)
  | _, _ => none

def arrayAtB (P : Program) (t : TypeId) (x : BV) : Option BV :=
  match P.underlying t, x with
  | some (.array n _), .slice b off len _ => if n ≤ len then some (.ptr b off) else none
  | some (.array n _), .rslice cs len _ => if n ≤ len then some (.rptr cs) else none
  | _, _ => none

/-- an optional bound: absent; present and a natural number; else none -/
def bound? : Option BV → Option (Option Nat)
  | none => some none
  | some (.int _ i) => if i < 0 then none else some (some i.toNat)
  | _ => none

def capLe (m cap : Option Nat) (len : Nat) : Bool := match m, cap with | some m, some c => decide (m ≤ c) | some m, none => decide (m ≤ len) | none, _ => true
def hiLe (hh : Nat) (lim : Option Nat) (len : Nat) : Bool := match lim with | some m => decide (hh ≤ m) | none => decide (hh ≤ len)
def limOf (m cap : Option Nat) : Option Nat := match m with | some m => some m | none => cap

def sliceB (P : Program) (h : BHeap) (t : TypeId) (x : BV) (lo hi mx : Option BV) : Option BV :=
  match bound? lo, bound? hi, bound? mx with
  | some lo, some hi, some mx =>
    let l := lo.getD 0
    match P.underlying t, x with
    | some .string, .str s =>
      let hh := hi.getD s.length
      if mx.isNone && l ≤ hh && hh ≤ s.length then some (.str ((s.take hh).drop l)) else none
    | some (.slice e), .nils => if l = 0 && hi.getD 0 = 0 && mx.getD 0 = 0 && ((szOf P e).isSome && (mx.isNone || hi.isSome)) then some .nils else none
    | some (.slice e), .slice b off len cap =>
      match szOf P e with
      | some size =>
        let hh := hi.getD len
        if capLe mx cap len && hiLe hh (limOf mx cap) len && decide (l ≤ hh) && (mx.isNone || hi.isSome) then
          match limOf mx cap with
          | some m => some (.slice b (if m = l then off else off + l * size) (hh - l) (some (m - l)))
          | none => if l = 0 then some (.slice b off hh none) else if l < len then (match h.get b with
              | some (.cells _ e' _) => if szOf P e' = some size then some (.slice b (off + l * size) (hh - l) none) else none
              | _ => none) else some .eslice
        else none
      | none => none
    | some (.slice e), .rslice cs len cap =>
      match szOf P e with
      | some size =>
        let hh := hi.getD len
        if capLe mx cap len && hiLe hh (limOf mx cap) len && decide (hh ≤ len) && decide (l ≤ hh) && (mx.isNone || hi.isSome) then
          match limOf mx cap with
          | some m => some (.rslice (if m = l then [] else cs.drop (l * size)) (hh - l) (some (m - l)))
          | none => if l = 0 then some (.rslice cs hh none) else if l < len then some (.rslice (cs.drop (l * size)) (hh - l) none) else some .eslice
        else none
      | none => none
    | some (.array n e), .ptr b off =>
      match szOf P e with
      | some size =>
        let hh := hi.getD n
        let m := mx.getD n
        if m ≤ n && hh ≤ m && l ≤ hh && (mx.isNone || hi.isSome) then some (.slice b (if m = l then off else off + l * size) (hh - l) (some (m - l))) else none
      | none => none
    | _, _ => none
  | _, _, _ => none

/-! ### building -/
def fillB (place : Nat → Option (Nat × Nat)) (cells : List BV) : List (Nat × BV) → Option (List BV)
  | [] => some cells
  | (i, v) :: rest =>
    match place i with
    | none => none
    | some (off, size) =>
      if v.cells.length = size && v.solid then (match putCells cells off v.cells with | some cells' => fillB place cells' rest | none => none) else none

def places (P : Program) (fs : Array Field) : Option (List (Nat × Nat)) :=
  fs.toList.mapM fun f => (szOf P f.type).map fun s => (f.offset, s)

def buildB (P : Program) (t : TypeId) (parts : List (Nat × BV)) : Option BV :=
  match zeroB P t, P.underlying t with
  | some (.agg zc), some (.struct fs) =>
    match places P fs with
    | some ps => (fillB (fun i => ps[i]?) zc parts).map .agg
    | none => none
  | some (.agg zc), some (.array _ e) =>
    match szOf P e with
    | some size => (fillB (fun i => some (i * size, size)) zc parts).map .agg
    | none => none
  | _, _ => none

def repl (z : List BV) : Nat → List BV
  | 0 => []
  | n + 1 => z ++ repl z n

def buildSliceB (P : Program) (h : BHeap) (t : TypeId) (len : Nat) (parts : List (Nat × BV)) : Option (BV × BHeap) :=
  match P.underlying t with
  | some (.slice e) =>
    match szOf P e, zeroB P e with
    | some (size' + 1), some z =>
      let size := size' + 1
      if len * size > 2 ^ 24 ∨ z.cells.length ≠ size ∨ ¬ z.cells.all BV.one then none else
      match fillB (fun i => some (i * size, size)) (repl z.cells len) parts with
      | some cs => if cs.all BV.one then some (.slice h.next 0 len (some len), h.new (.cells cs e false)) else none
      | none => none
    | _, _ => none
  | _ => none

def makeSliceB (P : Program) (h : BHeap) (t : TypeId) (len cap : BV) : Option (BV × BHeap) :=
  match P.underlying t, len, cap with
  | some (.slice e), .int _ l, .int _ c =>
    match P.info? e, zeroB P e with
    | some i, some z =>
      if 0 ≤ l ∧ l ≤ c ∧ c < 2 ^ 40 ∧ i.bytes * c ≤ 2 ^ 47 ∧ i.size ≠ 0 ∧ z.cells.length = i.size ∧ z.cells.all BV.one then
        some (.slice h.next 0 l.toNat (some c.toNat), h.new (.cells (repl z.cells c.toNat) e false))
      else none
    | _, _ => none
  | _, _, _ => none

/-! ### conversions, interfaces -/
def byteB : BV → Option UInt8
  | .int .u8 n => some (UInt8.ofNat n.toNat)
  | _ => none

def convertB (P : Program) (h : BHeap) (src dst : TypeId) (x : BV) : Option (BV × BHeap) :=
  match P.underlying src, P.underlying dst, x with
  | some _, some (.int k), .int _ n => some (.int k (k.wrap n), h)
  | some _, some .string, .int _ n => some (.str (Utf8.encode n).data.toList, h)
  | some _, some .string, .str s => some (.str s, h)
  | some _, some (.slice e), .str s =>
    match P.underlying e, szOf P e with
    | some (.int .u8), some 1 => some (.slice h.next 0 s.length none, h.new (.cells (s.map fun c => .int .u8 c.toNat) e true))
    | _, _ => none
  | some (.slice e), some .string, x =>
    match P.underlying e with
    | some (.int .u8) =>
      match elemsB P h 1 x with
      | some (xs, _) =>
        (xs.mapM byteB).map fun l => (.str l, h)
      | none => none
    | _ => none
  | _, _, _ => none

/-- a conversion to the very same type: of a slice of bytes it leaves a mark -/
def markB (P : Program) (h : BHeap) (t : TypeId) (x : BV) : Option (BV × BHeap) :=
  match P.underlying t with
  | some (.slice e) =>
    match x, P.underlying e with
    | .slice b off len cap, some (.int .u8) =>
      match h.get b with
      | some (.cells cs e' false) => some (.slice b off len cap, h.put b (some (.cells cs e' true)))
      | _ => none
    | _, _ => none
  | some _ => convertB P h t t x
  | none => none

def assertB (P : Program) (x : BV) (asserted : TypeId) (ok : Bool) : Option BV :=
  let holds (v : BV) : BV := if ok then .tuple [v, .bool true] else v
  let fails : Option BV := if ok then (zeroB P asserted).map fun z => .tuple [z, .bool false] else none
  match P.underlying asserted, x with
  | some (.interface _), .nili => fails
  | some (.interface want), .iface t _ =>
    match P.info? t with
    | some i => if (Instr.missingMethod want i.methods).isNone then some (holds x) else fails
    | none => none
  | some _, .nili => fails
  | some _, .iface t v => if t = asserted then some (holds v) else fails
  | _, _ => none

inductive BNext where
  | value (v : BV)
  | skip
  | enter (f : FuncId) (args : List BV)
  | round (l : Nat) (f : FuncId) (tmps : List BV) (assign body : Code)
  | defer (d : BDef)
  | recover
  | panic (v : BV)
  deriving Inhabited

def minB : BV → BV → Option BV
  | .int k x, .int _ y => some (.int k (if y < x then y else x))
  | _, _ => none
def maxB : BV → BV → Option BV
  | .int k x, .int _ y => some (.int k (if y > x then y else x))
  | _, _ => none

def lenB (P : Program) (h : BHeap) (argTypes : Array TypeId) (args : List BV) : Option BV :=
  match argTypes[0]?, args with
  | some t, [x] =>
    match P.underlying t, x with
    | some .string, .str s => some (goI s.length)
    | some (.array n _), _ => some (goI n)
    | some (.slice _), .nils => some (goI 0)
    | some (.slice _), .eslice => some (goI 0)
    | some (.slice _), .slice _ _ n _ => some (goI n)
    | some (.slice _), .rslice _ n _ => some (goI n)
    | some (.map _ _), .nilm => some (goI 0)
    | some (.map _ _), .map r => (match h.get r with | some (.map es _) => some (goI es.length) | _ => none)
    | _, _ => none
  | _, _ => none

def builtinB (P : Program) (h : BHeap) (b : Builtin) (argTypes : Array TypeId) (args : List BV) : Option (BNext × BHeap) :=
  let v (r : Option (BV × BHeap)) : Option (BNext × BHeap) := r.map fun (x, h) => (.value x, h)
  match b with
  | .append => v (appendB P h argTypes args)
  | .copy => v (copyB P h argTypes args)
  | .delete => v (deleteB P h argTypes args)
  | .clear => v (clearB P h argTypes args)
  | .len => (lenB P h argTypes args).map fun x => (.value x, h)
  | .min => (match args with | [] => none | x :: r => (r.foldlM minB x).map fun x => (.value x, h))
  | .max => (match args with | [] => none | x :: r => (r.foldlM maxB x).map fun x => (.value x, h))
  | .panic => (match args with | [.iface t x] => some (.panic (.iface t x), h) | _ => none)
  | .recover => some (.recover, h)
  | _ => none

def hasBody (P : Program) (f : FuncId) : Bool :=
  match P.funcs[f]? with
  | some fn => fn.body.isSome && !(fn.name == "runtime.NumGoroutine")
  | none => false

def callFuncB (P : Program) (f : FuncId) (args : List BV) : Option BNext :=
  if hasBody P f then some (.enter f args) else none

/-- a method row without a path: the receiver, as the method's function takes it -/
def methodB (P : Program) (t : TypeId) (v : BV) (name : String) : Option (FuncId × BV) :=
  match P.info? t with
  | some i =>
    match i.methods.find? (·.name == name) with
    | some m =>
      if !m.path.isEmpty then none else
      match m.func, P.underlying t with
      | some (f, true), some (.pointer _) => some (f, v)
      | some (_, false), some (.pointer _) => none
      | some (f, false), some _ => some (f, v)
      | _, _ => none
    | none => none
  | none => none

def invokeB (P : Program) (h : BHeap) (t : BTarget) (args : List BV) : Option (BNext × BHeap) :=
  match t with
  | .builtin b argTypes _ _ => builtinB P h b argTypes args
  | .fn (.func f) captured => (callFuncB P f (args ++ captured)).map fun n => (n, h)
  | .fn (.method name) _ =>
    match args with
    | .iface t v :: rest => (methodB P t v name).bind fun (f, r) => (callFuncB P f (r :: rest)).map fun n => (n, h)
    | _ => none
  | .fn (.methodOf t name) _ =>
    match args with
    | x :: rest =>
      (match P.underlying t with
      | some (.interface _) => (match x with
        | .iface t v => (methodB P t v name).bind fun (f, r) => (callFuncB P f (r :: rest)).map fun n => (n, h)
        | _ => none)
      | some _ => (methodB P t x name).bind fun (f, r) => (callFuncB P f (r :: rest)).map fun n => (n, h)
      | none => none)
    | _ => none
  | .yield l =>
    match h.get l with
    | some (.loop r) =>
      if args.length ≠ r.params.size then none else
      some (.round l r.fn ((r.params.toList.zip args).foldl (fun tmps (t, a) => tmps.set t a) r.tmps) r.assign r.body, h)
    | _ => none
  | _ => none

def ofFuncB (f : BV) (args : List BV) : Option BDef :=
  match f with
  | .func fn first captured => some { target := .fn fn captured, args := first ++ args }
  | .yield l => some { target := .yield l, args }
  | .nilf => none
  | _ => none

def resolveB (ρ : Operand → BV) (c : Call) (type : TypeId) : Option BDef :=
  let args := c.args.toList.map ρ
  match c.callee with
  | .builtin b => some { target := .builtin b c.argTypes type (c.args.map fun | .const _ => true | _ => false), args }
  | .invoke recv name => some { target := .fn (.method name) [], args := ρ recv :: args }
  | .value f => ofFuncB (ρ f) args

def opB (P : Program) (h : BHeap) (ρ : Operand → BV) (o : Oper) : Option (BNext × BHeap) :=
  let v (r : Option BV) : Option (BNext × BHeap) := r.map fun x => (.value x, h)
  let vh (r : Option (BV × BHeap)) : Option (BNext × BHeap) := r.map fun (x, h) => (.value x, h)
  let u (r : Option BHeap) : Option (BNext × BHeap) := r.map fun h => (.skip, h)
  match o.op with
  | .move x | .assign x => some (.value (ρ x), h)
  | .pick c a b => (match ρ c with | .bool c => some (.value (if c then ρ a else ρ b), h) | _ => none)
  | .alloc elem => vh ((zeroB P elem).bind (allocB P h elem))
  | .box elem x => vh (allocB P h elem (ρ x))
  | .build t parts => v (buildB P t (parts.toList.map fun (i, x) => (i, ρ x)))
  | .buildSlice t len parts => vh (buildSliceB P h t len (parts.toList.map fun (i, x) => (i, ρ x)))
  | .load t a => v (loadB P h t (ρ a))
  | .store t a x => u (storeB P h t (ρ a) (ρ x))
  | .nilCheck x =>
    (match ρ x with
    | .ptr b o => some (.value (.ptr b o), h)
    | .rptr cs => some (.value (.rptr cs), h)
    | .iface t w => some (.value (.iface t w), h)
    | .func fn a b => (match fn with | .method _ => none | _ => some (.value (.func fn a b), h))
    | .yield l => some (.value (.yield l), h)
    | _ => none)
  | .binOp op t x y _ => if eqGuardB P op t x y (ρ x) (ρ y) then v (binB P h op t (ρ x) (ρ y)) else none
  | .unOp op _ x => v (unB op (ρ x))
  | .convert src dst x => if src == dst then vh (markB P h dst (ρ x)) else vh (convertB P h src dst (ρ x))
  | .sliceToArrayPointer t x => v (arrayAtB P t (ρ x))
  | .makeInterface t x => (match P.underlying t with | some (.interface _) => none | some _ => some (.value (.iface t (ρ x)), h) | none => none)
  | .makeFunc fn first captured => (match fn with | .yield _ => none | _ => some (.value (.func fn (first.toList.map ρ) (captured.toList.map ρ)), h))
  | .makeMap t r => (match r.map ρ with | none | some (.int _ _) => (match P.underlying t with | some (.map _ _) => some (.value (.map h.next), h.new (.map [] 0)) | _ => none) | _ => none)
  | .makeSlice t l c => vh (makeSliceB P h t (ρ l) (ρ c))
  | .slice t x lo hi mx => v (sliceB P h t (ρ x) (lo.map ρ) (hi.map ρ) (mx.map ρ))
  | .fieldAddr t x i => v (fieldAddrB P t (ρ x) i)
  | .field t x i => v (fieldB P t (ρ x) i)
  | .indexAddr t x ix => v (indexAddrB P t (ρ x) (ρ ix))
  | .index t x ix => v (indexB P t (ρ x) (ρ ix))
  | .lookup t x ix ok => v (lookupB P h t (ρ x) (ρ ix) ok)
  | .mapUpdate t m k x | .insert t m k x => u (mapUpdateB P h t (ρ m) (ρ k) (ρ x))
  | .mapEntry t m k => vh (mapEntryB P h t (ρ m) (ρ k))
  | .entryStore _ m s x => u (entryStoreB h (ρ m) (ρ s) (ρ x))
  | .range t x => vh (rangeB P h t (ρ x))
  | .next it s => vh (nextB h (ρ it) s)
  | .entry it => v (entryB h (ρ it))
  | .typeAssert x _ asserted ok => v (assertB P (ρ x) asserted ok)
  | .extract t i => (match ρ t with | .tuple vs => v vs[i]? | _ => none)
  | .call c => (resolveB ρ c o.type).bind fun d => invokeB P h d.target d.args
  | .defer c => (resolveB ρ c o.type).map fun d => (.defer d, h)
  | .panic x => (match ρ x with | .iface t v => some (.panic (.iface t v), h) | _ => none)
  | _ => none

/-! ### the machine -/
/-- a region whose order is drawn, under way -/
structure Draw where
  ops : Array Oper
  env0 : List BV
  vals : List (Option BV)    -- per operation: what it put into its slot
  effs : List Nat            -- the operations with an effect that are still to come, in order
  deriving Inhabited

inductive BItem where
  | code (c : Code)
  | inBlock (id : Nat)
  | inLoop (body : Code)
  | inScope (body : Code)
  | inRegion (ops : Array Oper) (todo : List Nat)
  | inDraw (d : Draw)
  | inRangeFunc (l : Nat)
  | endRangeFunc (l : Nat)
  | beginRound
  deriving Inhabited

structure BPanic where
  v : BV
  recovered : Bool
  deriving Inhabited

inductive BMode where
  | run
  | returning
  | panicking (chain : List BPanic)
  deriving Inhabited

structure BFrame where
  fn : FuncId
  env : List BV
  todo : List BItem
  defers : List BDef
  mode : BMode
  kind : CallKind
  roundOf : Option Nat
  deriving Inhabited

structure BState where
  fr : BFrame
  cs : List BFrame
  h : BHeap
  deriving Inhabited

def evalB (env : List BV) : Operand → BV
  | .tmp t => env.getD t BV.undef
  | .const v => BV.ofv v
  | .global _ => .junk
  | .func f => .func (.func f) [] []

def putTmp (env : List BV) (dst : Option Nat) (v : BV) : List BV :=
  match dst with
  | some d => env.set d v
  | none => env

def yieldedB (ops : Array Oper) (env : Nat → Option BV) (j : Nat) : Option (Option Bool) :=
  match (ops[j]?).bind (·.dst) with
  | some d => (match env d with | some (.bool b) => some (some b) | some .junk => none | some .any => none | _ => some none)
  | none => some none

/-- is the operation carried out? none: cannot be said -/
def wantedB (o : Oper) (ops : Array Oper) (env : Nat → Option BV) : Option Bool :=
  match o.guard with
  | none => some true
  | some (j, want) => (yieldedB ops env j).map fun r => r == some want

def exitToB (id : Nat) : List BItem → Option (List BItem)
  | .inBlock id' :: k => if id' == id then some k else exitToB id k
  | _ :: k => exitToB id k
  | [] => none

def gotoInB (l : Nat) : List BItem → Option (List BItem)
  | .inScope body :: k =>
    match findLabel body l with
    | some rest => some (.code rest :: .inScope body :: k)
    | none => gotoInB l k
  | _ :: k => gotoInB l k
  | [] => none

def enterB (P : Program) (f : FuncId) (args : List BV) (kind : CallKind) : Option BFrame :=
  match P.funcs[f]? with
  | some fn =>
    match fn.body with
    | some c => some { fn := f, env := args ++ List.replicate (fn.ntmps - args.length) BV.undef, todo := [.code c], defers := [], mode := .run, kind, roundOf := none }
    | none => none
  | none => none

/-! drawn regions -/
def effOp (o : Oper) : Bool :=
  match o.op with
  | .move _ | .assign _ | .pick .. | .alloc _ | .box .. | .build .. | .buildSlice .. | .load .. | .nilCheck _ | .binOp .. | .unOp ..
  | .makeInterface .. | .makeFunc .. | .makeMap .. | .makeSlice .. | .slice .. | .fieldAddr .. | .field .. | .indexAddr .. | .index .. | .lookup .. | .entry _
  | .typeAssert .. | .extract .. => false
  | .convert s d _ => s == d
  | .call c => (match c.callee with | .builtin .len | .builtin .min | .builtin .max => false | _ => true)
  | _ => true

def allocOp (P : Program) (o : Oper) : Bool :=
  match o.op with
  | .alloc _ | .box .. | .buildSlice .. | .makeMap .. | .makeSlice .. => true
  | .convert src dst _ => !(src == dst) && (match P.underlying dst with | some (.slice _) => true | _ => false)
  | _ => false

def loadOp (o : Oper) : Bool :=
  match o.op with
  | .load .. | .lookup .. | .binOp .. | .entry .. | .convert .. | .slice .. | .call .. => true
  | _ => false

/-- the operations that come ahead of each one, as bits, with what these come behind -/
def aheadGo : List Oper → List Nat → List Nat
  | [], acc => acc
  | o :: r, acc => aheadGo r (acc ++ [o.after.toList.foldl (fun s e => if Region.binds .any e then s ||| 2 ^ e.on ||| acc.getD e.on 0 else s) 0])
def aheadBits (ops : Array Oper) : List Nat := aheadGo ops.toList []

def testB (bits : List Nat) (i j : Nat) : Bool := (bits.getD i 0).testBit j

def writerGo (t : Nat) : List Oper → Nat → Option Nat
  | [], _ => none
  | o :: r, k => if o.dst == some t then some k else writerGo t r (k + 1)
/-- the operation that writes a slot -/
def writerOf (ops : Array Oper) (t : Nat) : Option Nat := writerGo t ops.toList 0

def namesOf (o : Oper) : List Nat := o.op.operands.toList.filterMap fun | .tmp t => some t | _ => none

def pairsOk (bits : List Nat) : List Nat → Bool
  | [] => true
  | a :: r => r.all (fun b => testB bits b a) && pairsOk bits r

/-- all edges lead back; what has an effect is totally ordered; a slot is written once; who names a slot is ordered with its writer -/
def drawOk (ops : Array Oper) : Bool :=
  let bits := aheadBits ops
  let l := ops.toList
  let n := l.length
  let effs := (List.range n).filter fun i => (l[i]?).any effOp
  ((List.range n).all fun i => match l[i]? with
    | some o => (o.after.toList.all fun e => !Region.binds .any e || decide (e.on < i)) &&
        (match o.dst with | some t => writerOf ops t == some i | none => true) &&
        ((namesOf o).all fun t => match writerOf ops t with | some k => testB bits i k || testB bits k i || k == i | none => true) &&
        (match o.guard with | some (j, _) => testB bits i j | none => true)
    | none => true) &&
  pairsOk bits effs

def dstsOk (ops : Array Oper) (n : Nat) : Bool := ops.toList.all fun o => match o.dst with | some t => Nat.blt t n | none => true

def drawEffs (ops : Array Oper) : List Nat := (List.range ops.size).filter fun i => (ops[i]?).any effOp

/-- what operation i sees in a slot -/
def slotAt (ops : Array Oper) (bits : List Nat) (env0 : List BV) (vals : List (Option BV)) (i t : Nat) : BV :=
  match writerOf ops t with
  | some k => if testB bits i k then (vals.getD k none).getD .junk else env0.getD t BV.undef
  | none => env0.getD t BV.undef

def evalAt (ops : Array Oper) (bits : List Nat) (env0 : List BV) (vals : List (Option BV)) (i : Nat) : Operand → BV
  | .tmp t => slotAt ops bits env0 vals i t
  | .const v => BV.ofv v
  | .global _ => .junk
  | .func f => .func (.func f) [] []

/-- carry out the operations that have no effect and wait for no effect still to come -/
def floats (P : Program) (ops : Array Oper) (bits : List Nat) (env0 : List BV) (effs : List Nat) : List Nat → BHeap → List (Option BV) → Option (BHeap × List (Option BV))
  | [], h, vals => some (h, vals)
  | i :: rest, h, vals =>
    match ops[i]?, vals.getD i none with
    | some o, none =>
      if effOp o || effs.any (testB bits i) then floats P ops bits env0 effs rest h vals else
      match wantedB o ops (fun t => some (slotAt ops bits env0 vals i t)) with
      | some true =>
        match opB P h (evalAt ops bits env0 vals i) o with
        | some (.value v, h') => floats P ops bits env0 effs rest h' (vals.set i (some v))
        | _ => none
      | some false => floats P ops bits env0 effs rest h (vals.set i (some BV.undef))
      | none => none
    | _, _ => floats P ops bits env0 effs rest h vals

/-- what was read is asked again -/
def recheck (P : Program) (ops : Array Oper) (bits : List Nat) (env0 : List BV) (vals : List (Option BV)) (x : Nat) (h : BHeap) : List Nat → Bool
  | [] => true
  | i :: rest =>
    (match ops[i]?, vals.getD i none with
    | some o, some v =>
      if effOp o || allocOp P o || !loadOp o || testB bits x i then true else
      match wantedB o ops (fun t => some (slotAt ops bits env0 vals i t)) with
      | some true => (match opB P h (evalAt ops bits env0 vals i) o with | some (.value u, _) => BV.beq 40 u v | _ => false)
      | some false => true
      | none => false
    | _, _ => true) && recheck P ops bits env0 vals x h rest

def finalEnv (ops : Array Oper) (vals : List (Option BV)) : Nat → List BV → List BV
  | _, [] => []
  | t, x :: r => (match writerOf ops t with | some k => (vals.getD k none).getD .junk | none => x) :: finalEnv ops vals (t + 1) r

/-- behind an effect's end: its value is laid, what was read is asked again, what can be carried out is -/
def drawNext (P : Program) (d : Draw) (x : Nat) (v : BV) (h : BHeap) : Option (Draw × BHeap) :=
  let bits := aheadBits d.ops
  let vals := d.vals.set x (some v)
  let effs := d.effs.tail
  let is := List.range d.ops.size
  if recheck P d.ops bits d.env0 d.vals x h is then
    (floats P d.ops bits d.env0 effs is h vals).map fun (h', vals') => ({ d with vals := vals', effs }, h')
  else none

/-- the frame goes on with a value -/
def finishB (P : Program) (fr : BFrame) (v : BV) (h : BHeap) : Option (BFrame × BHeap) :=
  match fr.mode with
  | .run =>
    (match fr.todo with
    | .inRegion ops (i :: rest) :: k => some ({ fr with env := putTmp fr.env ((ops[i]?).bind (·.dst)) v, todo := .inRegion ops rest :: k }, h)
    | .inDraw d :: k =>
      (match d.effs with
      | x :: _ => (drawNext P d x v h).map fun (d', h') => ({ fr with todo := .inDraw d' :: k }, h')
      | [] => none)
    | .inRangeFunc l :: k => some ({ fr with todo := .endRangeFunc l :: k }, h)
    | _ => none)
  | _ => none

/-- a frame left within a drawn region: its slots are open -/
def settleEnv (fr : BFrame) : List BV :=
  match fr.todo with
  | .inDraw d :: _ => (List.range fr.env.length).map fun t => match writerOf d.ops t with | some _ => .junk | none => fr.env.getD t .junk
  | _ => fr.env

def raiseB (fr : BFrame) (vs : List BPanic) : BFrame :=
  match fr.mode with
  | .panicking chain => { fr with env := settleEnv fr, todo := [], mode := .panicking (vs ++ chain) }
  | _ => { fr with env := settleEnv fr, todo := [], mode := .panicking vs }

def tryRecoverB : BFrame → List BFrame → Option (BV × List BFrame)
  | fr, caller :: rest =>
    match fr.kind with
    | .deferred =>
      (match caller.mode with
      | .panicking ({ v, recovered := false } :: older) => some (v, { caller with mode := .panicking ({ v, recovered := true } :: older) } :: rest)
      | _ => none)
    | _ => none
  | _, [] => none

def resultsB (P : Program) (h : BHeap) (fn : Func) (env : List BV) : Option BV :=
  match fn.results.toList.mapM fun
    | .tmp t => some (env.getD t BV.undef)
    | .cell a t => loadB P h t (env.getD a BV.undef) with
  | some [v] => some v
  | some vs => some (.tuple vs)
  | none => none

/-- what stands behind an operation -/
def applyB (P : Program) (fr : BFrame) (cs : List BFrame) (kind : CallKind) : BNext × BHeap → Option BState
  | (.value v, h) => (finishB P fr v h).map fun (fr, h) => { fr, cs, h }
  | (.skip, h) => (finishB P fr BV.undef h).map fun (fr, h) => { fr, cs, h }
  | (.enter f args, h) => (enterB P f args kind).map fun c => { fr := c, cs := fr :: cs, h }
  | (.round l f tmps assign body, h) => some { fr := { fn := f, env := tmps, todo := [.code assign, .beginRound, .code body], defers := [], mode := .run, kind := .normal, roundOf := some l }, cs := fr :: cs, h }
  | (.defer d, h) => (finishB P { fr with defers := d :: fr.defers } BV.undef h).map fun (fr, h) => { fr, cs, h }
  | (.recover, h) =>
    if fr.roundOf.isSome then none else
    match tryRecoverB fr cs with
    | some (v, cs) => (finishB P fr v h).map fun (fr, h) => { fr, cs, h }
    | none => if fr.kind == .normal || (fr.kind == .deferred && !cs.isEmpty) then (finishB P fr .nili h).map fun (fr, h) => { fr, cs, h } else none
  | (.panic v, h) => some { fr := raiseB fr [{ v, recovered := false }], cs, h }

def doReturnB (P : Program) (fr : BFrame) (cs : List BFrame) (v : BV) (h : BHeap) : Option BState :=
  match cs with
  | caller :: rest =>
    match fr.kind with
    | .normal => (finishB P caller v h).map fun (c, h) => { fr := c, cs := rest, h }
    | .deferred =>
      (match caller.mode with
      | .run => none
      | .panicking ({ recovered := true, .. } :: _) => some { fr := { caller with mode := .returning }, cs := rest, h }
      | _ => some { fr := caller, cs := rest, h })
    | _ => none
  | [] => none

def leaveB (P : Program) (fr : BFrame) (cs : List BFrame) (h : BHeap) (jump : Option Code) : Option BState :=
  match fr.roundOf with
  | none => (match jump with | none | some .ret => some { fr := { fr with mode := .returning }, cs, h } | _ => none)
  | some l =>
    match h.get l with
    | some (.loop r) => doReturnB P fr cs (.bool jump.isNone) (h.put l (some (.loop { r with state := if jump.isNone then .ready else .done, pending := jump })))
    | _ => none

def callDeferredB (P : Program) (fr : BFrame) (cs : List BFrame) (d : BDef) (h : BHeap) : Option BState :=
  match d.target with
  | .nil => none
  | _ =>
    match invokeB P h d.target d.args with
    | some (.enter f args, h) => (enterB P f args .deferred).map fun c => { fr := c, cs := fr :: cs, h }
    | some (.value _, h) => some { fr, cs, h }
    | _ => none

def unwindB (P : Program) (fr : BFrame) (cs : List BFrame) (h : BHeap) : Option BState :=
  match fr.defers with
  | d :: ds =>
    match d.target with
    | .collected block =>
      (match h.get block with
      | some (.deferred (some calls)) => some { fr := { fr with defers := calls ++ ds }, cs, h := h.put block (some (.deferred none)) }
      | _ => none)
    | _ => callDeferredB P { fr with defers := ds } cs d h
  | [] =>
    match fr.mode with
    | .run => none
    | .panicking chain =>
      (match P.funcs[fr.fn]?, cs with
      | some _, caller :: rest => some { fr := raiseB caller chain, cs := rest, h }
      | _, _ => none)
    | .returning =>
      match P.funcs[fr.fn]? with
      | none => none
      | some fn =>
        match resultsB P h fn fr.env with
        | some v => doReturnB P fr cs v h
        | none => none

def stepB (P : Program) (s : BState) : Option BState :=
  let { fr, cs, h } := s
  match fr.mode with
  | .run =>
    let to (todo : List BItem) : Option BState := some { fr := { fr with todo }, cs, h }
    match fr.todo with
    | [] => leaveB P fr cs h none
    | .code .ret :: _ => leaveB P fr cs h (some .ret)
    | .code .skip :: k | .code (.label _) :: k | .inBlock _ :: k | .inScope _ :: k => to k
    | .code (.seq a b) :: k => to (.code a :: .code b :: k)
    | .code (.cond c thn els) :: k =>
      (match evalB fr.env c with
      | .bool b => to (.code (if b then thn else els) :: k)
      | _ => none)
    | .code (.block id body) :: k => to (.code body :: .inBlock id :: k)
    | .code (.loop body) :: k | .inLoop body :: k => to (.code body :: .inLoop body :: k)
    | .code (.scope body) :: k => to (.code body :: .inScope body :: k)
    | .code (.exit id) :: k => (match exitToB id k with | some k' => to k' | none => leaveB P fr cs h (some (.exit id)))
    | .code (.goto l) :: k => (match gotoInB l k with | some k' => to k' | none => leaveB P fr cs h (some (.goto l)))
    | .code (.rangeFunc f params assign body) :: k =>
      let (block, mark, h1) := match fr.roundOf with
        | some l => (match h.get l with | some (.loop r) => (some r.defers, [], h) | _ => (none, [], h))
        | none => (some h.next, [({ target := .collected h.next, args := [] } : BDef)], h.new (.deferred (some [])))
      (match block with
      | none => none
      | some blk =>
        let l := h1.next
        let h2 := h1.new (.loop { state := .ready, pending := none, fn := fr.fn, tmps := fr.env, params, assign, body, defers := blk })
        let fr' := { fr with todo := .inRangeFunc l :: k, defers := mark ++ fr.defers }
        (ofFuncB (evalB fr.env f) [.yield l]).bind fun d =>
          (invokeB P h2 d.target d.args).bind fun r => match r with | (.enter g args, h3) => applyB P fr' cs .normal (.enter g args, h3) | _ => none)
    | .inRangeFunc _ :: _ => none
    | .beginRound :: k =>
      (match fr.roundOf with
      | some l =>
        (match h.get l with
        | some (.loop r) => if r.state = .ready then some { fr := { fr with todo := k }, cs, h := h.put l (some (.loop { r with state := .busy })) } else none
        | _ => none)
      | none => none)
    | .endRangeFunc l :: k =>
      (match h.get l with
      | some (.loop r) => if r.state = .busy then none else
          some { fr := { fr with todo := (r.pending.map BItem.code).toList ++ k }, cs, h := h.put l (some (.loop { r with state := .exhausted })) }
      | _ => none)
    | .code (.refuse _) :: _ => none
    | .code (.region _ ops draw) :: k =>
      if !draw then to (.inRegion ops (List.range ops.size) :: k) else
      if !(drawOk ops && dstsOk ops fr.env.length) then none else
      let effs := drawEffs ops
      (floats P ops (aheadBits ops) fr.env effs (List.range ops.size) h (List.replicate ops.size none)).map fun (h', vals) =>
        { fr := { fr with todo := .inDraw { ops, env0 := fr.env, vals, effs } :: k }, cs, h := h' }
    | .inRegion _ [] :: k => to k
    | .inRegion ops (i :: rest) :: k =>
      (match ops[i]? with
      | none => to (.inRegion ops rest :: k)
      | some o =>
        match wantedB o ops (fun t => fr.env[t]?) with
        | some true => (match fr.roundOf, o.op with
            | some _, .defer _ => none
            | _, _ => (opB P h (evalB fr.env) o).bind (applyB P fr cs .normal))
        | some false => to (.inRegion ops rest :: k) |>.map fun s => { s with fr := { s.fr with env := putTmp fr.env o.dst BV.undef } }
        | none => none)
    | .inDraw d :: k =>
      (match d.effs with
      | [] => some { fr := { fr with env := finalEnv d.ops d.vals 0 d.env0, todo := k }, cs, h }
      | x :: _ =>
        match d.ops[x]? with
        | none => none
        | some o =>
          let bits := aheadBits d.ops
          match wantedB o d.ops (fun t => some (slotAt d.ops bits d.env0 d.vals x t)) with
          | some true => (match fr.roundOf, o.op with
              | some _, .defer _ => none
              | _, _ => (opB P h (evalAt d.ops bits d.env0 d.vals x) o).bind (applyB P fr cs .normal))
          | some false => (finishB P fr BV.undef h).map fun (fr, h) => { fr, cs, h }
          | none => none)
  | _ => unwindB P fr cs h

def runB (P : Program) : Nat → BState → Option BState
  | 0, s => some s
  | n + 1, s => match stepB P s with | some s' => runB P n s' | none => none

/-- has the call ended? -/
def BState.ended (s : BState) : Bool := s.cs.isEmpty && (s.fr.mode matches .returning) && s.fr.defers.isEmpty

def runTo (P : Program) : Nat → BState → Option BState
  | 0, _ => none
  | n + 1, s => if s.ended then some s else match stepB P s with | some s' => runTo P n s' | none => none

def callB (P : Program) (n : Nat) (f : FuncId) (args : List BV) (h : BHeap) : Option (BV × BHeap) :=
  match enterB P f args .normal with
  | none => none
  | some fr =>
    match runTo P n { fr, cs := [], h } with
    | some s => (match s.fr.kind, P.funcs[s.fr.fn]? with | .normal, some fn => if Nat.beq s.fr.fn f then (resultsB P s.h fn s.fr.env).map fun v => (v, s.h) else none | _, _ => none)
    | none => none

def h0 : BHeap := { next := 0, tr := .leaf, log := [] }

end
end Go.PB

