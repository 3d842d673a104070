/- The relation of B's machine and the model's: items, frames, drawn regions; how it is kept. Single steps of the model's machine, of a frame given field by field. The orders that a drawn region may come in. Drawn regions: what 'drawOk' says; operations without an effect. Operations without an effect: what they ask of B's memory. An operation that makes a block, carried out by the model behind B. -/
import Derived.Test.YtabfeencbambmaaGreatDoorPosU
import Derived.Orders
set_option linter.unusedSimpArgs false
set_option linter.unusedVariables false
namespace Go.PB
open Go

def ItemRel (g : Gh) : BItem → Item → Prop
  | .code c, i => i = .code c
  | .inBlock id, i => i = .inBlock id
  | .inLoop c, i => i = .inLoop c
  | .inScope c, i => i = .inScope c
  | .inRegion ops todo, i => i = .inRegion ops todo
  | .inDraw _, _ => False
  | .inRangeFunc l, i => ∃ blk, g.m l = some (blk, 0) ∧ i = .inRangeFunc blk
  | .endRangeFunc l, i => ∃ blk, g.m l = some (blk, 0) ∧ i = .endRangeFunc blk
  | .beginRound, i => i = .beginRound

def ItemsRel (g : Gh) : List BItem → List Item → Prop
  | [], is => is = []
  | b :: bs, is => ∃ i ir, is = i :: ir ∧ ItemRel g b i ∧ ItemsRel g bs ir

def PanicRel (P : Program) (g : Gh) (w : World) (b : BPanic) (e : PanicEntry) : Prop := VRel P g w b.v e.v ∧ b.recovered = e.recovered ∧ e.goexit = false

def PanicsRel (P : Program) (g : Gh) (w : World) : List BPanic → List PanicEntry → Prop
  | [], es => es = []
  | b :: bs, es => ∃ e er, es = e :: er ∧ PanicRel P g w b e ∧ PanicsRel P g w bs er

def ModeRel (P : Program) (g : Gh) (w : World) : BMode → FrameMode → Prop
  | .run, m => m = .run
  | .returning, m => m = .returning
  | .panicking c, m => ∃ c', m = .panicking c' ∧ PanicsRel P g w c c'

def RoundRel (g : Gh) : Option Nat → Option Nat → Prop
  | none, r => r = none
  | some l, r => ∃ blk, g.m l = some (blk, 0) ∧ r = some blk

/-! ### a drawn region under way -/
def effB (ops : Array Oper) (i : Nat) : Prop := ∃ o, ops[i]? = some o ∧ effOp o = true

/-- what stands in a slot, where the operations 'rest' are still to come -/
def curSlot (ops : Array Oper) (env0 : List BV) (vals : List (Option BV)) (rest : List Nat) (t : Nat) : BV :=
  match writerOf ops t with
  | some k => if k ∈ rest then env0.getD t BV.undef else (vals.getD k none).getD .junk
  | none => env0.getD t BV.undef

/-- each one has what comes ahead of it behind it -/
def Ordered (bits : List Nat) : List Nat → Prop
  | [] => True
  | i :: r => (∀ k ∈ i :: r, testB bits i k = false) ∧ Ordered bits r

/-- what B has carried out ahead of the model: still so; 'b': the block that it made -/
def Open (P : Program) (g : Gh) (h hp : BHeap) (ops : Array Oper) (env0 : List BV) (vals : List (Option BV)) (b : Option Nat) (i : Nat) (o : Oper) (v : BV) : Prop :=
  (wantedB o ops (fun t => some (slotAt ops (aheadBits ops) env0 vals i t)) = some false ∧ v = BV.undef) ∨
  (wantedB o ops (fun t => some (slotAt ops (aheadBits ops) env0 vals i t)) = some true ∧
    ((allocOp P o = false ∧ opB P hp (evalAt ops (aheadBits ops) env0 vals i) o = some (.value v, hp)) ∨
     (allocOp P o = true ∧ ∃ h1 h2, b = some h1.next ∧ opB P h1 (evalAt ops (aheadBits ops) env0 vals i) o = some (.value v, h2) ∧ g.m h1.next = none ∧ h.get h1.next = h2.get h1.next)))

def Valued (vals : List (Option BV)) (i : Nat) : Prop := ∃ v, vals[i]? = some (some v)
def NoWait (ops : Array Oper) (effs : List Nat) (i : Nat) : Prop := ∀ e ∈ effs, testB (aheadBits ops) i e = false

structure DrawIn (P : Program) (g : Gh) (h : BHeap) (w : World) (lb ub : Nat) (hp : BHeap) (ph : Nat → Option Nat) (d : Draw) (tmps : Array Value) (rest : List Nat) : Prop where
  ok : drawOk d.ops = true
  dsts : dstsOk d.ops d.env0.length = true
  size : tmps.size = d.env0.length
  vlen : d.vals.length = d.ops.size
  nodup : rest.Nodup
  lt : ∀ i ∈ rest, i < d.ops.size
  ord : Ordered (aheadBits d.ops) rest
  dc : ∀ i, i < d.ops.size → i ∉ rest → ∀ k, testB (aheadBits d.ops) i k = true → k ∉ rest
  effs : ∀ e, e ∈ d.effs ↔ (e ∈ rest ∧ effB d.ops e)
  effsOrd : d.effs.Pairwise fun a b => testB (aheadBits d.ops) b a = true
  vals : ∀ i, i < d.ops.size → i ∉ rest → Valued d.vals i
  slots : ∀ (t : Nat) v, tmps[t]? = some v → VRel P g w (curSlot d.ops d.env0 d.vals rest t) v
  ready : ∀ i ∈ rest, ∀ o, d.ops[i]? = some o → effOp o = false → NoWait d.ops d.effs i → Valued d.vals i
  opened : ∀ i ∈ rest, ∀ o v, d.ops[i]? = some o → effOp o = false → d.vals[i]? = some (some v) → NoWait d.ops d.effs i ∧ Open P g h hp d.ops d.env0 d.vals (ph i) i o v
  phinj : ∀ i j b, ph i = some b → ph j = some b → i = j
  phlt : ∀ i b, ph i = some b → lb ≤ b ∧ b < ub

def DrawRel (P : Program) (g : Gh) (h : BHeap) (w : World) (lb ub : Nat) (hp : BHeap) (d : Draw) (tmps : Array Value) (rest : List Nat) : Prop := ∃ ph, DrawIn P g h w lb ub hp ph d tmps rest

def RunRel (P : Program) (g : Gh) (h : BHeap) (w : World) (lb ub : Nat) (top : Bool) (b : BFrame) (f : Frame) : Prop :=
  match b.todo with
  | .inDraw d :: k => b.env = d.env0 ∧ ∃ rest k', f.todo = .inRegion d.ops rest :: k' ∧ ItemsRel g k k' ∧ ∃ hp, (top = true → hp = h) ∧ DrawRel P g h w lb ub hp d f.tmps rest ∧
      (top = false → ∃ x r, rest = x :: r ∧ d.effs.head? = some x)
  | _ => VRels P g w b.env f.tmps.toList ∧ ItemsRel g b.todo f.todo

structure FRel (P : Program) (g : Gh) (h : BHeap) (w : World) (lb ub : Nat) (top : Bool) (b : BFrame) (f : Frame) : Prop where
  fn : b.fn = f.fn
  kind : b.kind = f.kind
  kinds : b.kind = .normal ∨ b.kind = .deferred
  defers : DRels P g w b.defers f.defers
  mode : ModeRel P g w b.mode f.mode
  round : RoundRel g b.roundOf f.roundOf
  run : b.mode = .run → RunRel P g h w lb ub top b f
  env : b.mode ≠ .run → VRels P g w b.env f.tmps.toList

/-- what is asked of the frames below the machine's own: it is kept while no block below lb that is not made is touched -/
structure Base where
  K : Gh → BHeap → Nat → List Frame → Prop
  mono : ∀ {g g' : Gh} {h h' : BHeap} {lb : Nat} {cs : List Frame}, (∀ b, b < lb → g.m b = none → g'.m b = none ∧ h'.get b = h.get b) → K g h lb cs → K g' h' lb cs

/-- the frames below are these -/
def Base.of (cs : List Frame) : Base := ⟨fun _ _ _ c => c = cs, fun _ h => h⟩

/-- the callers: each one's blocks that are not made yet lie below those of the frames above it -/
def CRel (P : Program) (g : Gh) (h : BHeap) (w : World) (base : Base) : Nat → List BFrame → List Frame → Prop
  | lb, [], cs => base.K g h lb cs
  | lb, b :: bs, cs => ∃ c cr lb', cs = c :: cr ∧ lb' ≤ lb ∧ FRel P g h w lb' lb false b c ∧ CRel P g h w base lb' bs cr

def SRel (P : Program) (base : Base) (g : Gh) (w : World) (lb : Nat) (s : BState) (f : Frame) (cs : List Frame) : Prop :=
  HRel P g s.h w ∧ lb ≤ s.h.next ∧ FRel P g s.h w lb s.h.next true s.fr f ∧ CRel P g s.h w base lb s.cs cs

/-- blocks below lb that are not made are left alone -/
def PhLt (lb : Nat) (g : Gh) (h : BHeap) (g' : Gh) (h' : BHeap) : Prop := ∀ b, b < lb → g.m b = none → g'.m b = none ∧ h'.get b = h.get b

section
variable {P : Program} {g g' : Gh} {h h' : BHeap} {w w' : World}

theorem Ph.lt (hp : Ph g h g' h') {lb : Nat} (hl : lb ≤ h.next) : PhLt lb g h g' h' := fun b hb hm => hp b (by omega) hm
theorem PhLt.refl (lb : Nat) (g : Gh) (h : BHeap) : PhLt lb g h g h := fun _ _ hm => ⟨hm, rfl⟩
theorem PhLt.mono {lb lb' : Nat} (hp : PhLt lb g h g' h') (hl : lb' ≤ lb) : PhLt lb' g h g' h' := fun b hb hm => hp b (by omega) hm
theorem PhLt.trans {g'' : Gh} {h'' : BHeap} {lb : Nat} (a : PhLt lb g h g' h') (b : PhLt lb g' h' g'' h'') : PhLt lb g h g'' h'' := fun x hx hm => by
  obtain ⟨m1, h1⟩ := a x hx hm
  obtain ⟨m2, h2⟩ := b x hx m1
  exact ⟨m2, h2.trans h1⟩

theorem ItemRel.mono (hm : Mono g w g' w') {b : BItem} {i : Item} (h : ItemRel g b i) : ItemRel g' b i := by
  cases b <;> simp only [ItemRel] at h ⊢
  case inRangeFunc => obtain ⟨blk, hb, rfl⟩ := h; exact ⟨blk, hm.mm _ _ hb, rfl⟩
  case endRangeFunc => obtain ⟨blk, hb, rfl⟩ := h; exact ⟨blk, hm.mm _ _ hb, rfl⟩
  all_goals exact h

theorem ItemsRel.mono (hm : Mono g w g' w') {bs : List BItem} : ∀ {is : List Item}, ItemsRel g bs is → ItemsRel g' bs is := by
  induction bs with
  | nil => intro is h; exact h
  | cons b bs ih => intro is h; simp only [ItemsRel] at h ⊢; obtain ⟨i, ir, rfl, h1, h2⟩ := h; exact ⟨i, ir, rfl, h1.mono hm, ih h2⟩

theorem PanicsRel.mono (hm : Mono g w g' w') {bs : List BPanic} : ∀ {es : List PanicEntry}, PanicsRel P g w bs es → PanicsRel P g' w' bs es := by
  induction bs with
  | nil => intro es h; exact h
  | cons b bs ih => intro es h; simp only [PanicsRel] at h ⊢; obtain ⟨i, ir, rfl, h1, h2⟩ := h; exact ⟨i, ir, rfl, ⟨VRel.mono hm _ _ h1.1, h1.2⟩, ih h2⟩

theorem PanicsRel.append {as bs : List BPanic} {us vs : List PanicEntry} (h : PanicsRel P g w as us) (k : PanicsRel P g w bs vs) : PanicsRel P g w (as ++ bs) (us ++ vs) := by
  induction as generalizing us with
  | nil => simp only [PanicsRel] at h; subst h; simpa using k
  | cons b bs ih => simp only [PanicsRel] at h; obtain ⟨d, dr, rfl, hd, hr⟩ := h; exact ⟨d, dr ++ vs, rfl, hd, ih hr⟩

theorem ModeRel.mono (hm : Mono g w g' w') {b : BMode} {m : FrameMode} (h : ModeRel P g w b m) : ModeRel P g' w' b m := by
  cases b <;> simp only [ModeRel] at h ⊢
  case panicking c => obtain ⟨c', rfl, hc⟩ := h; exact ⟨c', rfl, hc.mono hm⟩
  all_goals exact h

theorem RoundRel.mono (hm : Mono g w g' w') {b r : Option Nat} (h : RoundRel g b r) : RoundRel g' b r := by
  cases b <;> simp only [RoundRel] at h ⊢
  case some l => obtain ⟨blk, hb, rfl⟩ := h; exact ⟨blk, hm.mm _ _ hb, rfl⟩
  all_goals exact h

theorem Open.mono {hp : BHeap} {ops : Array Oper} {env0 : List BV} {vals : List (Option BV)} {b : Option Nat} {i : Nat} {o : Oper} {v : BV}
    (hph : ∀ x, b = some x → g.m x = none → g'.m x = none ∧ h'.get x = h.get x) (ho : Open P g h hp ops env0 vals b i o v) : Open P g' h' hp ops env0 vals b i o v := by
  rcases ho with h1 | ⟨h1, h2 | ⟨h2, h3, h4, k1, k2, k4, k5⟩⟩
  · exact .inl h1
  · exact .inr ⟨h1, .inl h2⟩
  · obtain ⟨m1, m2⟩ := hph _ k1 k4
    exact .inr ⟨h1, .inr ⟨h2, h3, h4, k1, k2, m1, m2.trans k5⟩⟩

theorem DrawIn.mono (hm : Mono g w g' w') {hp : BHeap} {lb ub : Nat} (hph : PhLt ub g h g' h') {ph : Nat → Option Nat} {d : Draw} {tmps : Array Value} {rest : List Nat} (hd : DrawIn P g h w lb ub hp ph d tmps rest) :
    DrawIn P g' h' w' lb ub hp ph d tmps rest :=
  { hd with
    slots := fun t v ht => VRel.mono hm _ _ (hd.slots t v ht)
    opened := fun i hi o v h1 h2 h3 => ⟨(hd.opened i hi o v h1 h2 h3).1, (hd.opened i hi o v h1 h2 h3).2.mono fun x hx hx' => hph x (hd.phlt i x hx).2 hx'⟩ }

theorem DrawRel.mono (hm : Mono g w g' w') {hp : BHeap} {lb ub : Nat} (hph : PhLt ub g h g' h') {d : Draw} {tmps : Array Value} {rest : List Nat} (hd : DrawRel P g h w lb ub hp d tmps rest) :
    DrawRel P g' h' w' lb ub hp d tmps rest := by
  obtain ⟨ph, hd⟩ := hd
  exact ⟨ph, hd.mono hm hph⟩

/-- a caller's frame is kept -/
theorem FRel.mono (hm : Mono g w g' w') {lb ub : Nat} (hph : PhLt ub g h g' h') {b : BFrame} {f : Frame} (hf : FRel P g h w lb ub false b f) : FRel P g' h' w' lb ub false b f where
  fn := hf.fn
  kind := hf.kind
  kinds := hf.kinds
  defers := hf.defers.mono hm
  mode := hf.mode.mono hm
  round := hf.round.mono hm
  env := fun e => VRels.mono hm _ _ (hf.env e)
  run := fun e => by
    have := hf.run e
    unfold RunRel at this ⊢
    split
    · rename_i d k ht
      simp only [ht] at this
      obtain ⟨h1, rest, k', h2, h3, hp, h4, h5, h6⟩ := this
      exact ⟨h1, rest, k', h2, h3.mono hm, hp, (fun e => by cases e), h5.mono hm hph, by simpa using h6⟩
    · rename_i hno
      split at this
      · rename_i d k ht; exact absurd ht (hno d k)
      · exact ⟨VRels.mono hm _ _ this.1, this.2.mono hm⟩

theorem CRel.mono (hm : Mono g w g' w') {base : Base} {bs : List BFrame} : ∀ {lb : Nat} {cs : List Frame}, PhLt lb g h g' h' → CRel P g h w base lb bs cs → CRel P g' h' w' base lb bs cs := by
  induction bs with
  | nil => intro lb cs hph h; exact base.mono hph h
  | cons b bs ih =>
    intro lb cs hph h
    simp only [CRel] at h ⊢
    obtain ⟨c, cr, lb', rfl, h1, h2, h3⟩ := h
    exact ⟨c, cr, lb', rfl, h1, h2.mono hm hph, ih (hph.mono h1) h3⟩

/-- a frame's slots stand in the model as in B, out of a drawn region -/
theorem evalRel {env : List BV} {tmps : Array Value} (hv : VRels P g w env tmps.toList) (f : Frame) (hf : f.tmps = tmps) (x : Operand) : VRel P g w (evalB env x) (f.eval x) := by
  subst hf
  cases x with
  | tmp t =>
    simp only [evalB, Frame.eval]
    cases hb : env[t]? with
    | none =>
      have : f.tmps.toList[t]? = none := by rw [List.getElem?_eq_none]; have := hv.length; have := List.getElem?_eq_none_iff.1 hb; omega
      simp only [List.getD, hb, Option.getD_none, Array.getD_eq_getD_getElem?]
      rw [← Array.getElem?_toList, this]
      exact VRel.undef
    | some b =>
      obtain ⟨v, h1, h2⟩ := hv.get hb
      simp only [List.getD, hb, Option.getD_some, Array.getD_eq_getD_getElem?]
      rw [← Array.getElem?_toList, h1]
      exact h2
  | const v => exact VRel.ofv P g w v
  | global a => simp [evalB, VRel]
  | func f' => simp only [evalB, Frame.eval, VRel]; exact ⟨#[], #[], rfl, VRels.nil, VRels.nil⟩

theorem putRel {env : List BV} {tmps : Array Value} (hv : VRels P g w env tmps.toList) {b : BV} {v : Value} (hb : VRel P g w b v) (d : Option Nat) :
    VRels P g w (putTmp env d b) (match d with | some d => tmps.setIfInBounds d v | none => tmps).toList := by
  cases d with
  | none => exact hv
  | some d => simpa [putTmp] using hv.set d hb

theorem exitRel {id : Nat} : ∀ {bs : List BItem} {is : List Item}, ItemsRel g bs is →
    (∀ k, exitToB id bs = some k → ∃ k', exitTo id is = some k' ∧ ItemsRel g k k') ∧ (exitToB id bs = none → exitTo id is = none) := by
  intro bs
  induction bs with
  | nil => intro is h; simp only [ItemsRel] at h; subst h; exact ⟨fun k hk => by simp [exitToB] at hk, fun _ => rfl⟩
  | cons b bs ih =>
    intro is h
    simp only [ItemsRel] at h
    obtain ⟨i, ir, rfl, h1, h2⟩ := h
    have := ih h2
    cases b <;> simp only [ItemRel] at h1
    case inBlock id' =>
      subst h1
      simp only [exitToB, exitTo]
      by_cases hc : (id' == id) = true
      · rw [if_pos hc, if_pos hc]; exact ⟨fun k hk => by cases hk; exact ⟨ir, rfl, h2⟩, fun hk => by cases hk⟩
      · rw [if_neg hc, if_neg hc]; exact this
    case inRangeFunc l => obtain ⟨blk, _, rfl⟩ := h1; simpa only [exitToB, exitTo] using this
    case endRangeFunc l => obtain ⟨blk, _, rfl⟩ := h1; simpa only [exitToB, exitTo] using this
    all_goals (subst h1; simpa only [exitToB, exitTo] using this)

theorem gotoRel {l : Nat} : ∀ {bs : List BItem} {is : List Item}, ItemsRel g bs is →
    (∀ k, gotoInB l bs = some k → ∃ k', gotoIn l is = some k' ∧ ItemsRel g k k') ∧ (gotoInB l bs = none → gotoIn l is = none) := by
  intro bs
  induction bs with
  | nil => intro is h; simp only [ItemsRel] at h; subst h; exact ⟨fun k hk => by simp [gotoInB] at hk, fun _ => rfl⟩
  | cons b bs ih =>
    intro is h
    simp only [ItemsRel] at h
    obtain ⟨i, ir, rfl, h1, h2⟩ := h
    have := ih h2
    cases b <;> simp only [ItemRel] at h1
    case inScope body =>
      subst h1
      simp only [gotoInB, gotoIn]
      cases hf : findLabel body l with
      | none => exact this
      | some rest => exact ⟨fun k hk => by cases hk; exact ⟨_, rfl, _, _, rfl, rfl, _, _, rfl, rfl, h2⟩, fun hk => by cases hk⟩
    case inRangeFunc l => obtain ⟨blk, _, rfl⟩ := h1; simpa only [gotoInB, gotoIn] using this
    case endRangeFunc l => obtain ⟨blk, _, rfl⟩ := h1; simpa only [gotoInB, gotoIn] using this
    all_goals (subst h1; simpa only [gotoInB, gotoIn] using this)
end
end Go.PB

set_option linter.unusedSimpArgs false
set_option linter.unusedVariables false
namespace Go.PB
open Go

section
variable {P : Program} {w w' : World} {cs cs' : List Frame} {fn : FuncId} {tmps : Array Value} {ds : List Deferred} {kd : CallKind} {ro : Option Nat} {k : List Item}

/-- a frame that runs -/
abbrev rf (fn : FuncId) (tmps : Array Value) (todo : List Item) (ds : List Deferred) (kd : CallKind) (ro : Option Nat) : Frame :=
  { fn := fn, tmps := tmps, todo := todo, defers := ds, mode := .run, kind := kd, roundOf := ro }

theorem a_skip : step P (lone (rf fn tmps (.code .skip :: k) ds kd ro) cs w) = .next (lone (rf fn tmps k ds kd ro) cs w) := step_lone_go (by simp [stepG, stepG.exec])
theorem a_label {l : Nat} : step P (lone (rf fn tmps (.code (.label l) :: k) ds kd ro) cs w) = .next (lone (rf fn tmps k ds kd ro) cs w) := step_lone_go (by simp [stepG, stepG.exec])
theorem a_inBlock {l : Nat} : step P (lone (rf fn tmps (.inBlock l :: k) ds kd ro) cs w) = .next (lone (rf fn tmps k ds kd ro) cs w) := step_lone_go (by simp [stepG, stepG.exec])
theorem a_inScope {c : Code} : step P (lone (rf fn tmps (.inScope c :: k) ds kd ro) cs w) = .next (lone (rf fn tmps k ds kd ro) cs w) := step_lone_go (by simp [stepG, stepG.exec])
theorem a_seq {a b : Code} : step P (lone (rf fn tmps (.code (.seq a b) :: k) ds kd ro) cs w) = .next (lone (rf fn tmps (.code a :: .code b :: k) ds kd ro) cs w) := step_lone_go (by simp [stepG, stepG.exec])
theorem a_block {l : Nat} {c : Code} : step P (lone (rf fn tmps (.code (.block l c) :: k) ds kd ro) cs w) = .next (lone (rf fn tmps (.code c :: .inBlock l :: k) ds kd ro) cs w) := step_lone_go (by simp [stepG, stepG.exec])
theorem a_loop {c : Code} : step P (lone (rf fn tmps (.code (.loop c) :: k) ds kd ro) cs w) = .next (lone (rf fn tmps (.code c :: .inLoop c :: k) ds kd ro) cs w) := step_lone_go (by simp [stepG, stepG.exec])
theorem a_inLoop {c : Code} : step P (lone (rf fn tmps (.inLoop c :: k) ds kd ro) cs w) = .next (lone (rf fn tmps (.code c :: .inLoop c :: k) ds kd ro) cs w) := step_lone_go (by simp [stepG, stepG.exec])
theorem a_scope {c : Code} : step P (lone (rf fn tmps (.code (.scope c) :: k) ds kd ro) cs w) = .next (lone (rf fn tmps (.code c :: .inScope c :: k) ds kd ro) cs w) := step_lone_go (by simp [stepG, stepG.exec])
theorem a_cond {x : Operand} {a b : Code} {t : Bool} (h : (rf fn tmps (.code (.cond x a b) :: k) ds kd ro).eval x = .bool t) :
    step P (lone (rf fn tmps (.code (.cond x a b) :: k) ds kd ro) cs w) = .next (lone (rf fn tmps (.code (if t then a else b) :: k) ds kd ro) cs w) := step_lone_go (by simp [stepG, stepG.exec, h])
theorem a_exit {id : Nat} {k' : List Item} (h : exitTo id k = some k') : step P (lone (rf fn tmps (.code (.exit id) :: k) ds kd ro) cs w) = .next (lone (rf fn tmps k' ds kd ro) cs w) := step_lone_go (by simp [stepG, stepG.exec, h])
theorem a_goto {l : Nat} {k' : List Item} (h : gotoIn l k = some k') : step P (lone (rf fn tmps (.code (.goto l) :: k) ds kd ro) cs w) = .next (lone (rf fn tmps k' ds kd ro) cs w) := step_lone_go (by simp [stepG, stepG.exec, h])

/-- leaving a function's frame -/
theorem a_end : step P (lone (rf fn tmps [] ds kd none) cs w) = .next (lone { rf fn tmps [] ds kd none with mode := .returning } cs w) := step_lone_go (by simp [stepG, stepG.exec])
theorem a_ret : step P (lone (rf fn tmps (.code .ret :: k) ds kd none) cs w) = .next (lone { rf fn tmps (.code .ret :: k) ds kd none with mode := .returning } cs w) := step_lone_go (by simp [stepG, stepG.exec])

/-- regions -/
theorem a_region {id : Nat} {ops : Array Oper} : step P (lone (rf fn tmps (.code (.region id ops false) :: k) ds kd ro) cs w) = .next (lone (rf fn tmps (.inRegion ops (List.range ops.size) :: k) ds kd ro) cs w) := step_lone_go (by simp [stepG, stepG.exec])
theorem a_draw {id : Nat} {ops : Array Oper} (hm : P.follows .mixedOrders = true) : ∃ t, step P (lone (rf fn tmps (.code (.region id ops true) :: k) ds kd ro) cs w) =
    .next (lone (rf fn tmps (.inRegion ops (Region.linearise .any ops t) :: k) ds kd ro) cs { w with drawn := w.drawn + 1 }) :=
  ⟨w.tape w.drawn (.order fn id), step_lone_go (by simp [stepG, stepG.exec, choose, Sem.run, Question.forced, Question.cut, Region.schedule, hm])⟩
theorem a_regionEnd {ops : Array Oper} : step P (lone (rf fn tmps (.inRegion ops [] :: k) ds kd ro) cs w) = .next (lone (rf fn tmps k ds kd ro) cs w) := step_lone_go (by simp [stepG, stepG.exec])

/-- an operation that is not carried out -/
theorem a_opSkip {ops : Array Oper} {i : Nat} {r : List Nat} (h : ((ops[i]?).map (Region.wanted · (yielded ops tmps))).getD false = false) :
    step P (lone (rf fn tmps (.inRegion ops (i :: r) :: k) ds kd ro) cs w) = .next (lone ((rf fn tmps (.inRegion ops (i :: r) :: k) ds kd ro).finish undef) cs w) := step_lone_go (by
  have h' := h
  simp [stepG, stepG.exec, h'])

theorem a_oper {ops : Array Oper} {i : Nat} {r : List Nat} {o : Oper} (ho : ops[i]? = some o) (hw : Region.wanted o (yielded ops tmps) = true) (hd : ro = none ∨ ∀ c, o.op ≠ .defer c) :
    stepG P true { frame := rf fn tmps (.inRegion ops (i :: r) :: k) ds kd ro, callers := cs, status := .running, dying := none } w =
      stepG.apply P true (rf fn tmps (.inRegion ops (i :: r) :: k) ds kd ro) cs none (execOp (rf fn tmps (.inRegion ops (i :: r) :: k) ds kd ro).eval o) w := by
  simp only [stepG, stepG.exec, ho, Option.map_some, hw, Option.getD_some, if_true]
  simp only [stepG.oper, Frame.oper?, ho]
  rcases hd with rfl | hd
  · rfl
  · cases ro with
    | none => rfl
    | some l =>
      obtain ⟨dst, op, ty, pos, after, guard⟩ := o
      cases op <;> first
        | rfl
        | (exact absurd rfl (hd _))

/-- what the machine does with what an operation comes to -/
theorem a_value {f : Frame} {s : Sem Next} {v : Value} (hr : s.run P w = .ok (.value v) w') : (stepG.apply P true f cs none s w).bare = .go { frame := f.finish v, callers := cs, status := .running, dying := none } w' := by
  simp [stepG.apply, Sem.runT_eq, hr]
theorem a_skipNext {f : Frame} {s : Sem Next} (hr : s.run P w = .ok .skip w') : (stepG.apply P true f cs none s w).bare = .go { frame := f.finish undef, callers := cs, status := .running, dying := none } w' := by
  simp [stepG.apply, Sem.runT_eq, hr]
theorem a_defer {f : Frame} {s : Sem Next} {d : Deferred} (hr : s.run P w = .ok (.defer d) w') : (stepG.apply P true f cs none s w).bare = .go { frame := ({ f with defers := d :: f.defers } : Frame).finish undef, callers := cs, status := .running, dying := none } w' := by
  simp [stepG.apply, Sem.runT_eq, hr]
theorem a_enter {f : Frame} {s : Sem Next} {g : FuncId} {args : Array Value} (hr : s.run P w = .ok (.enter g args) w') (hk : ∀ d r sv rest b, f.todo ≠ .call d b r sv :: rest) :
    (stepG.apply P true f cs none s w).bare = .go { frame := Frame.enter P g args .normal, callers := f :: cs, status := .running, dying := none } w' := by
  simp only [stepG.apply, Sem.runT_eq, hr, if_true, GStep.bare_after]
  simp only [GStep.bare]
  congr 2
  split
  · rename_i ht; exact absurd ht (hk _ _ _ _ _)
  · rfl
theorem a_round {f : Frame} {s : Sem Next} {l : Nat} {g : FuncId} {ts : Array Value} {a b : Code} (hr : s.run P w = .ok (.round l g ts a b) w') :
    (stepG.apply P true f cs none s w).bare = .go { frame := Frame.round l g ts a b .normal, callers := f :: cs, status := .running, dying := none } w' := by
  simp [stepG.apply, Sem.runT_eq, hr]
theorem a_panic {f : Frame} {s : Sem Next} {v : Value} (hr : s.run P w = .halt (.panic v) w') : (stepG.apply P true f cs none s w).bare = .go { frame := f.raise [{ v, recovered := false }], callers := cs, status := .running, dying := none } w' := by
  simp [stepG.apply, Sem.runT_eq, hr]
theorem a_recover {f : Frame} {s : Sem Next} (hro : f.roundOf = none) (hr : s.run P w = .ok .recover w') :
    (stepG.apply P true f cs none s w).bare = (match tryRecover f cs with
      | some (v, cs') => .go { frame := f.finish v, callers := cs', status := .running, dying := none } w'
      | none => .go { frame := f.finish .nilIface, callers := cs, status := .running, dying := none } w') := by
  simp only [stepG.apply, Sem.runT_eq, hr, if_true, GStep.bare_after, hro]
  cases tryRecover f cs with
  | none => rfl
  | some x => rfl
end
end Go.PB

set_option linter.unusedSimpArgs false
set_option linter.unusedVariables false
namespace Go.PB
open Go

theorem leastFalse {l : Array Bool} {i : Nat} (hi : l[i]? = some false) : ∃ (m : Nat), l[m]? = some false ∧ ∀ (j : Nat), j < m → l[j]? = some true := by
  induction i using Nat.strongRecOn with
  | _ i ih =>
    by_cases hall : ∀ (j : Nat), j < i → l[j]? = some true
    · exact ⟨i, hi, hall⟩
    · have : ∃ (j : Nat), j < i ∧ l[j]? ≠ some true := by
        apply Classical.byContradiction
        intro hn
        exact hall fun j hj => Classical.byContradiction fun hne => hn ⟨j, hj, hne⟩
      obtain ⟨j, hj, hne⟩ := this
      have hlt : j < l.size := by
        have := (Array.getElem?_eq_some_iff.1 hi).1; omega
      refine ih j hj ?_
      rw [Array.getElem?_eq_getElem hlt] at hne ⊢
      cases hb : l[j] with
      | true => rw [hb] at hne; exact absurd rfl hne
      | false => rfl

theorem foldBits (acc : List Nat) : ∀ (es : List Edge) (s k : Nat), (es.foldl (fun s e => if Region.binds .any e then s ||| 2 ^ e.on ||| acc.getD e.on 0 else s) s).testBit k = true →
    s.testBit k = true ∨ ∃ e ∈ es, Region.binds .any e = true ∧ (k = e.on ∨ (acc.getD e.on 0).testBit k = true) := by
  intro es
  induction es with
  | nil => intro s k h; exact .inl h
  | cons e es ih =>
    intro s k h
    simp only [List.foldl_cons] at h
    rcases ih _ k h with h1 | ⟨e', h1, h2, h3⟩
    · by_cases hb : Region.binds .any e = true
      · rw [if_pos hb] at h1
        rw [Nat.testBit_or, Nat.testBit_or, Bool.or_eq_true, Bool.or_eq_true] at h1
        rcases h1 with (h1 | h1) | h1
        · exact .inl h1
        · rw [Nat.testBit_two_pow] at h1
          have h2 : e.on = k := by simpa using h1
          exact .inr ⟨e, by simp, hb, .inl h2.symm⟩
        · exact .inr ⟨e, by simp, hb, .inr h1⟩
      · rw [if_neg hb] at h1; exact .inl h1
    · exact .inr ⟨e', by simp [h1], h2, h3⟩

theorem aheadGo_spec : ∀ (l : List Oper) (acc : List Nat), (aheadGo l acc).take acc.length = acc ∧
    ∀ (j : Nat) (o : Oper), l[j]? = some o → ∀ k, ((aheadGo l acc).getD (acc.length + j) 0).testBit k = true →
      ∃ e ∈ o.after.toList, Region.binds .any e = true ∧ (k = e.on ∨ (((aheadGo l acc).take (acc.length + j)).getD e.on 0).testBit k = true) := by
  intro l
  induction l with
  | nil => intro acc; exact ⟨by simp [aheadGo], fun j o h => by simp at h⟩
  | cons x l ih =>
    intro acc
    simp only [aheadGo]
    generalize hx : (x.after.toList.foldl (fun s e => if Region.binds .any e then s ||| 2 ^ e.on ||| acc.getD e.on 0 else s) 0) = b
    obtain ⟨h1, h2⟩ := ih (acc ++ [b])
    have hacc : (aheadGo l (acc ++ [b])).take acc.length = acc := by
      have := congrArg (List.take acc.length) h1
      simpa [List.take_take] using this
    have hb : (aheadGo l (acc ++ [b])).getD acc.length 0 = b := by
      have := congrArg (fun l => l.getD acc.length 0) h1
      simp only [List.getD, List.getElem?_take, List.length_append, List.length_cons, List.length_nil] at this
      rw [if_pos (by omega)] at this
      simpa [List.getD] using this
    refine ⟨hacc, fun j o hj k hk => ?_⟩
    cases j with
    | zero =>
      simp at hj; subst hj
      simp only [Nat.add_zero] at hk ⊢
      rw [hb, ← hx] at hk
      rw [hacc]
      rcases foldBits acc _ _ _ hk with h0 | h0
      · simp at h0
      · exact h0
    | succ j =>
      simp at hj
      have := h2 j o hj k (by simpa [Nat.add_assoc, Nat.add_comm 1 j] using hk)
      simpa [Nat.add_assoc, Nat.add_comm 1 j] using this

theorem bits_spec {ops : Array Oper} {i k : Nat} (h : testB (aheadBits ops) i k = true) : ∃ o, ops[i]? = some o ∧ ∃ e ∈ o.after.toList, Region.binds .any e = true ∧ (k = e.on ∨ (e.on < i ∧ testB (aheadBits ops) e.on k = true)) := by
  unfold testB aheadBits at *
  cases ho : ops.toList[i]? with
  | none =>
    exfalso
    have hlen : ∀ (l : List Oper) (acc : List Nat), (aheadGo l acc).length = acc.length + l.length := by
      intro l
      induction l with
      | nil => intro acc; simp [aheadGo]
      | cons x l ih => intro acc; simp only [aheadGo, ih]; simp; omega
    have : (aheadGo ops.toList []).getD i 0 = 0 := by
      rw [List.getElem?_eq_none_iff] at ho
      simp only [List.getD]
      rw [List.getElem?_eq_none (by rw [hlen]; simpa using ho)]
      rfl
    rw [this] at h; simp at h
  | some o =>
    obtain ⟨e, h1, h2, h3⟩ := (aheadGo_spec ops.toList []).2 i o ho k (by simpa using h)
    refine ⟨o, by simpa using ho, e, h1, h2, ?_⟩
    rcases h3 with h3 | h3
    · exact .inl h3
    · right
      simp only [List.length_nil, Nat.zero_add, List.getD, List.getElem?_take] at h3
      split at h3
      · rename_i hlt; exact ⟨hlt, by simpa [List.getD] using h3⟩
      · simp at h3

theorem bits_lt {ops : Array Oper} (hlow : ∀ i o, ops[i]? = some o → ∀ e ∈ o.after.toList, Region.binds .any e = true → e.on < i) : ∀ (i k : Nat), testB (aheadBits ops) i k = true → k < i := by
  intro i
  induction i using Nat.strongRecOn with
  | _ i ih =>
    intro k h
    obtain ⟨o, ho, e, he, hb, hk⟩ := bits_spec h
    have := hlow i o ho e he hb
    rcases hk with rfl | ⟨h1, h2⟩
    · exact this
    · have := ih e.on h1 k h2; omega

/-- the list that the model makes of a region's operations -/
theorem linear_spec {ops : Array Oper} (hlow : ∀ i o, ops[i]? = some o → ∀ e ∈ o.after.toList, Region.binds .any e = true → e.on < i) :
    ∀ (fuel t : Nat) (listed : Array Bool), listed.size = ops.size → (∀ i, listed[i]? = some true → ∀ k, testB (aheadBits ops) i k = true → listed[k]? = some true) →
      let S := Region.linearise.go .any ops fuel t listed []
      S.Nodup ∧ (∀ i ∈ S, listed[i]? = some false) ∧ Ordered (aheadBits ops) S ∧ ((listed.toList.filter (!·)).length ≤ fuel → ∀ i, listed[i]? = some false → i ∈ S) := by
  intro fuel
  induction fuel with
  | zero =>
    intro t listed hsz hcl
    simp only [Region.linearise.go]
    refine ⟨by simp, by simp, by simp [Ordered], fun hle i hi => ?_⟩
    exfalso
    have : false ∈ listed.toList.filter (!·) := by
      rw [List.mem_filter]; exact ⟨by rw [← Array.getElem?_toList] at hi; exact List.mem_of_getElem? hi, rfl⟩
    have := List.length_pos_of_mem this
    omega
  | succ fuel ih =>
    intro t listed hsz hcl
    simp only [Region.linearise.go]
    generalize hrs : (List.range ops.size).filter (fun i => !listed.getD i true && ((ops[i]?).map (·.after.all fun e => !Region.binds .any e || listed.getD e.on false)).getD false) = rs
    have hmem : ∀ i, i ∈ rs ↔ (i < ops.size ∧ listed[i]? = some false ∧ ∃ o, ops[i]? = some o ∧ ∀ e ∈ o.after.toList, Region.binds .any e = true → listed[e.on]? = some true) := by
      intro i
      rw [← hrs, List.mem_filter, List.mem_range, Bool.and_eq_true]
      constructor
      · rintro ⟨h1, h2, h3⟩
        refine ⟨h1, ?_, ?_⟩
        · simp only [Array.getD_eq_getD_getElem?, Bool.not_eq_true'] at h2
          cases hl : listed[i]? with
          | none => simp [hl] at h2
          | some b => simp [hl] at h2; rw [h2]
        · cases ho : ops[i]? with
          | none => simp [ho] at h3
          | some o =>
            simp only [ho, Option.map_some, Option.getD_some] at h3
            refine ⟨o, rfl, fun e he hb => ?_⟩
            have := Array.all_eq_true_iff_forall_mem.1 h3 e (by simpa using he)
            simp only [hb, Bool.not_true, Bool.false_or, Array.getD_eq_getD_getElem?] at this
            cases hl : listed[e.on]? with
            | none => simp [hl] at this
            | some b => simp [hl] at this; rw [this]
      · rintro ⟨h1, h2, o, h3, h4⟩
        refine ⟨h1, by simp [Array.getD_eq_getD_getElem?, h2], ?_⟩
        simp only [h3, Option.map_some, Option.getD_some]
        rw [Array.all_eq_true_iff_forall_mem]
        intro e he
        by_cases hb : Region.binds .any e = true
        · simp [hb, Array.getD_eq_getD_getElem?, h4 e (by simpa using he) hb]
        · simp [hb]
    cases hr : rs[t % rs.length]? with
    | none =>
      simp only [List.reverse_nil]
      refine ⟨by simp, by simp, by simp [Ordered], fun _ i hi => ?_⟩
      exfalso
      -- the least one that is not listed is ready
      have hne : rs ≠ [] := by
        obtain ⟨m, hmin, hleast⟩ := leastFalse hi
        have hlt : m < ops.size := by
          have := (Array.getElem?_eq_some_iff.1 hmin).1; omega
        have : m ∈ rs := (hmem _).2 ⟨hlt, hmin, _, Array.getElem?_eq_getElem hlt, fun e he hb => hleast _ (hlow _ _ (Array.getElem?_eq_getElem hlt) e he hb)⟩
        intro h0; rw [h0] at this; simp at this
      have : t % rs.length < rs.length := Nat.mod_lt _ (List.length_pos_iff.2 hne)
      rw [List.getElem?_eq_none_iff] at hr
      omega
    | some i =>
      dsimp only
      rw [linearise_go_acc]
      simp only [List.reverse_cons, List.reverse_nil, List.nil_append, List.singleton_append]
      have hi := (hmem i).1 (List.mem_of_getElem? hr)
      obtain ⟨hlt, hfalse, o, ho, hedges⟩ := hi
      -- all that comes ahead of i is listed
      have hahead : ∀ k, testB (aheadBits ops) i k = true → listed[k]? = some true := by
        intro k hk
        obtain ⟨o', ho', e, he, hb, hc⟩ := bits_spec hk
        rw [ho] at ho'; cases ho'
        have h1 := hedges e he hb
        rcases hc with rfl | ⟨_, h2⟩
        · exact h1
        · exact hcl _ h1 _ h2
      have hltl : i < listed.size := by omega
      have hset : ∀ k, (listed.setIfInBounds i true)[k]? = if k = i then some true else listed[k]? := fun k => by
        by_cases hk : k = i
        · subst hk; rw [if_pos rfl, Array.getElem?_setIfInBounds_self_of_lt hltl]
        · rw [if_neg hk, Array.getElem?_setIfInBounds_ne (by omega)]
      obtain ⟨n1, n2, n3, n4⟩ := ih (t / rs.length) (listed.setIfInBounds i true) (by simpa using hsz) (by
        intro j hj k hk
        rw [hset] at hj ⊢
        by_cases hki : k = i
        · rw [if_pos hki]
        · rw [if_neg hki]
          by_cases hji : j = i
          · subst hji; exact hahead k hk
          · rw [if_neg hji] at hj; exact hcl j hj k hk)
      have hnot : i ∉ Region.linearise.go .any ops fuel (t / rs.length) (listed.setIfInBounds i true) [] := fun hm => by
        have := n2 i hm; rw [hset, if_pos rfl] at this; cases this
      refine ⟨List.nodup_cons.2 ⟨hnot, n1⟩, ?_, ?_, ?_⟩
      · intro j hj
        rcases List.mem_cons.1 hj with rfl | hj
        · exact hfalse
        · have := n2 j hj
          rw [hset] at this
          by_cases hji : j = i
          · rw [if_pos hji] at this; cases this
          · rwa [if_neg hji] at this
      · refine ⟨fun k hk => ?_, n3⟩
        cases ht : testB (aheadBits ops) i k with
        | false => rfl
        | true =>
          exfalso
          have h1 := hahead k ht
          rcases List.mem_cons.1 hk with rfl | hk
          · rw [hfalse] at h1; cases h1
          · have := n2 k hk
            rw [hset] at this
            by_cases hki : k = i
            · rw [if_pos hki] at this; cases this
            · rw [if_neg hki, h1] at this; cases this
      · intro hle j hj
        by_cases hji : j = i
        · subst hji; simp
        · refine List.mem_cons_of_mem _ (n4 ?_ j (by rw [hset, if_neg hji]; exact hj))
          -- one fewer is not listed
          have hcount : ∀ (l : List Bool) (i : Nat), l[i]? = some false → ((l.set i true).filter (!·)).length + 1 = (l.filter (!·)).length := by
            intro l
            induction l with
            | nil => intro i h; simp at h
            | cons b l ihl =>
              intro i h
              cases i with
              | zero => simp at h; subst h; simp
              | succ i =>
                simp at h
                have := ihl i h
                cases b <;> simp [List.set] <;> omega
          have := hcount listed.toList i (by simpa using hfalse)
          rw [Array.toList_setIfInBounds]
          omega
end Go.PB

set_option linter.unusedSimpArgs false
set_option linter.unusedVariables false
namespace Go.PB
open Go

theorem foldBits_of (acc : List Nat) : ∀ (es : List Edge) (s k : Nat), (s.testBit k = true ∨ ∃ e ∈ es, Region.binds .any e = true ∧ (k = e.on ∨ (acc.getD e.on 0).testBit k = true)) →
    (es.foldl (fun s e => if Region.binds .any e then s ||| 2 ^ e.on ||| acc.getD e.on 0 else s) s).testBit k = true := by
  intro es
  induction es with
  | nil => intro s k h; rcases h with h | ⟨e, he, _⟩; · exact h
           · simp at he
  | cons e es ih =>
    intro s k h
    simp only [List.foldl_cons]
    apply ih
    rcases h with h | ⟨e', he, hb, hc⟩
    · left
      by_cases hb : Region.binds .any e = true
      · rw [if_pos hb, Nat.testBit_or, Nat.testBit_or, h]; rfl
      · rw [if_neg hb]; exact h
    · rcases List.mem_cons.1 he with rfl | he
      · left
        rw [if_pos hb, Nat.testBit_or, Nat.testBit_or]
        rcases hc with rfl | hc
        · rw [Nat.testBit_two_pow_self]; simp
        · rw [hc]; simp
      · exact .inr ⟨e', he, hb, hc⟩

theorem aheadGo_at : ∀ (l : List Oper) (acc : List Nat) (j : Nat) (o : Oper), l[j]? = some o →
    (aheadGo l acc).getD (acc.length + j) 0 = o.after.toList.foldl (fun s e => if Region.binds .any e then s ||| 2 ^ e.on ||| ((aheadGo l acc).take (acc.length + j)).getD e.on 0 else s) 0 := by
  intro l
  induction l with
  | nil => intro acc j o h; simp at h
  | cons x l ih =>
    intro acc j o hj
    cases j with
    | zero =>
      simp at hj; subst hj
      simp only [aheadGo, Nat.add_zero]
      generalize hx : (x.after.toList.foldl (fun s e => if Region.binds .any e then s ||| 2 ^ e.on ||| acc.getD e.on 0 else s) 0) = b
      have h1 := (aheadGo_spec l (acc ++ [b])).1
      have hacc : (aheadGo l (acc ++ [b])).take acc.length = acc := by
        have := congrArg (List.take acc.length) h1
        simpa [List.take_take] using this
      have hb : (aheadGo l (acc ++ [b])).getD acc.length 0 = b := by
        have := congrArg (fun l => l.getD acc.length 0) h1
        simp only [List.getD, List.getElem?_take, List.length_append, List.length_cons, List.length_nil] at this
        rw [if_pos (by omega)] at this
        simpa [List.getD] using this
      rw [hb, hacc, hx]
    | succ j =>
      simp at hj
      simp only [aheadGo]
      have := ih (acc ++ [(x.after.toList.foldl (fun s e => if Region.binds .any e then s ||| 2 ^ e.on ||| acc.getD e.on 0 else s) 0)]) j o hj
      simpa [Nat.add_assoc, Nat.add_comm 1 j] using this

theorem bits_of {ops : Array Oper} {i k : Nat} {o : Oper} {e : Edge} (ho : ops[i]? = some o) (he : e ∈ o.after.toList) (hb : Region.binds .any e = true)
    (hk : k = e.on ∨ (e.on < i ∧ testB (aheadBits ops) e.on k = true)) : testB (aheadBits ops) i k = true := by
  unfold testB aheadBits at *
  have := aheadGo_at ops.toList [] i o (by simpa using ho)
  simp only [List.length_nil, Nat.zero_add] at this
  rw [this]
  refine foldBits_of _ _ _ _ (.inr ⟨e, he, hb, ?_⟩)
  rcases hk with hk | ⟨h1, h2⟩
  · exact .inl hk
  · right
    simp only [List.getD, List.getElem?_take, if_pos h1]
    simpa [List.getD] using h2

theorem bits_trans {ops : Array Oper} (hlow : ∀ (i : Nat) o, ops[i]? = some o → ∀ e ∈ o.after.toList, Region.binds .any e = true → e.on < i) : ∀ (i k j : Nat), testB (aheadBits ops) i k = true → testB (aheadBits ops) k j = true → testB (aheadBits ops) i j = true := by
  intro i
  induction i using Nat.strongRecOn with
  | _ i ih =>
    intro k j h1 h2
    obtain ⟨o, ho, e, he, hb, hc⟩ := bits_spec h1
    rcases hc with rfl | ⟨hlt, hc⟩
    · exact bits_of ho he hb (.inr ⟨hlow i o ho e he hb, h2⟩)
    · exact bits_of ho he hb (.inr ⟨hlt, ih _ hlt _ _ hc h2⟩)

theorem pairsOk_spec {bits : List Nat} : ∀ {l : List Nat}, pairsOk bits l = true → l.Pairwise fun a b => testB bits b a = true := by
  intro l
  induction l with
  | nil => intro _; exact List.Pairwise.nil
  | cons a l ih =>
    intro h
    simp only [pairsOk, Bool.and_eq_true, List.all_eq_true] at h
    exact List.pairwise_cons.2 ⟨fun b hb => h.1 b hb, ih h.2⟩

structure OkAt (ops : Array Oper) (i : Nat) (o : Oper) : Prop where
  low : ∀ e ∈ o.after.toList, Region.binds .any e = true → e.on < i
  dst : ∀ t, o.dst = some t → writerOf ops t = some i
  names : ∀ t, t ∈ namesOf o → ∀ k, writerOf ops t = some k → testB (aheadBits ops) i k = true ∨ testB (aheadBits ops) k i = true ∨ k = i
  guard : ∀ j b, o.guard = some (j, b) → testB (aheadBits ops) i j = true

theorem drawOk_spec {ops : Array Oper} (h : drawOk ops = true) : (∀ (i : Nat) o, ops[i]? = some o → OkAt ops i o) ∧ (drawEffs ops).Pairwise fun a b => testB (aheadBits ops) b a = true := by
  unfold drawOk at h
  simp only [Bool.and_eq_true] at h
  obtain ⟨h1, h2⟩ := h
  constructor
  · intro i o ho
    have hlt : i < ops.toList.length := by have := (Array.getElem?_eq_some_iff.1 ho).1; simpa using this
    rw [List.all_eq_true] at h1
    have := h1 i (List.mem_range.2 hlt)
    have hol : ops.toList[i]? = some o := by simpa using ho
    rw [hol] at this
    simp only [Bool.and_eq_true, List.all_eq_true] at this
    obtain ⟨⟨⟨a, b⟩, c⟩, d⟩ := this
    refine ⟨fun e he hb => ?_, fun t ht => ?_, fun t ht k hk => ?_, fun j b' hg => ?_⟩
    · have := a e he; simpa [hb] using this
    · rw [ht] at b; simpa using b
    · have := c t ht
      rw [hk] at this
      simp only [Bool.or_eq_true, beq_iff_eq] at this
      rcases this with (h | h) | h
      · exact .inl h
      · exact .inr (.inl h)
      · exact .inr (.inr h)
    · rw [hg] at d; exact d
  · have := pairsOk_spec h2
    unfold drawEffs
    simpa using this
end Go.PB

set_option linter.unusedSimpArgs false
set_option linter.unusedVariables false
namespace Go.PB
open Go

def HLe (h h' : BHeap) : Prop := ∀ b o, h.get b = some o → h'.get b = some o

section
variable {P : Program} {h h' : BHeap}

theorem eqFields_le {E E' : TypeId → BV → BV → Option Bool} (hE : ∀ t x y r, E t x y = some r → E' t x y = some r) : ∀ (fs : List Field) (xs ys : List BV) (r : Bool), eqFields P E fs xs ys = some r → eqFields P E' fs xs ys = some r := by
  intro fs
  induction fs with
  | nil => intro xs ys r e; simpa [eqFields] using e
  | cons f fs ih =>
    intro xs ys r e
    simp only [eqFields] at e ⊢
    split at e
    · rename_i hn
      rw [if_pos hn]
      split at e
      · rename_i a b ha hb
        try simp only [ha, hb]
        split at e
        · rename_i hh; rw [hE _ _ _ _ hh]; exact ih _ _ _ e
        · rename_i hh; rw [hE _ _ _ _ hh]; exact e
        · cases e
      · cases e
    · rename_i hn
      rw [if_neg hn]
      exact ih _ _ _ e

theorem eqElems_le {E E' : TypeId → BV → BV → Option Bool} (hE : ∀ t x y r, E t x y = some r → E' t x y = some r) (el : TypeId) (n : Nat) : ∀ (is : List Nat) (xs ys : List BV) (r : Bool), eqElems P E el n is xs ys = some r → eqElems P E' el n is xs ys = some r := by
  intro is
  induction is with
  | nil => intro xs ys r e; simpa [eqElems] using e
  | cons f fs ih =>
    intro xs ys r e
    simp only [eqElems] at e ⊢
    split at e
    · rename_i a b ha hb
      try simp only [ha, hb]
      split at e
      · rename_i hh; rw [hE _ _ _ _ hh]; exact ih _ _ _ e
      · rename_i hh; rw [hE _ _ _ _ hh]; exact e
      · cases e
    · cases e

theorem eqB_le (hl : HLe h h') : ∀ (d : Nat) (t : TypeId) (x y : BV) (r : Bool), eqB P h d t x y = some r → eqB P h' d t x y = some r := by
  intro d
  induction d with
  | zero => intro t x y r e; simp [eqB] at e
  | succ d ih =>
    intro t x y r e
    simp only [eqB] at e ⊢
    split at e
    case h_9 =>
      rename_i hu
      try simp only [hu]
      split at e
      · rename_i h1 h2 h3
        simp only [hl _ _ h1, hl _ _ h2, h3]; exact e
      · cases e
    case h_13 =>
      rename_i hu
      try simp only [hu]
      split at e
      · rename_i hc; rw [if_pos hc]; exact e
      · rename_i hc
        rw [if_neg hc]
        split at e
        · rename_i hi
          try simp only [hi]
          split at e
          · rename_i hcc; rw [if_pos hcc]; exact ih _ _ _ _ e
          · cases e
        · cases e
    case h_14 =>
      rename_i hu
      try simp only [hu]
      split at e
      · cases e
      · rename_i hs
        rw [if_neg hs]
        exact eqFields_le (fun t x y r => ih t x y r) _ _ _ _ e
    case h_15 =>
      rename_i hu
      try simp only [hu]
      split at e
      · rename_i hs
        try simp only [hs]
        exact eqElems_le (fun t x y r => ih t x y r) _ _ _ _ _ _ e
      · cases e
    all_goals first | exact e | cases e

theorem loadB_le (hl : HLe h h') {t : TypeId} {a v : BV} (e : loadB P h t a = some v) : loadB P h' t a = some v := by
  unfold loadB at e ⊢
  split at e
  · rename_i ag n h1 h2
    try simp only [h1, h2]
    split at e
    · rename_i b off
      split at e
      · rename_i hb
        simp only [hl _ _ hb]; exact e
      · cases e
    · exact e
    · cases e
  · cases e

theorem findB_le (hl : HLe h h') {kt : TypeId} {k : BV} : ∀ (es : List BEntry) (i : Nat) (r : Option (Nat × BV)), findB P h kt k es i = some r → findB P h' kt k es i = some r := by
  intro es
  induction es with
  | nil => intro i r e; simpa [findB] using e
  | cons x es ih =>
    intro i r e
    simp only [findB] at e ⊢
    split at e
    · rename_i hk; unfold keyEq at hk ⊢; rw [eqB_le hl _ _ _ _ _ hk]; exact e
    · rename_i hk; unfold keyEq at hk ⊢; rw [eqB_le hl _ _ _ _ _ hk]; exact ih _ _ e
    · cases e

theorem lookupB_le (hl : HLe h h') {t : TypeId} {x k : BV} {ok : Bool} {v : BV} (e : lookupB P h t x k ok = some v) : lookupB P h' t x k ok = some v := by
  unfold lookupB at e ⊢
  split at e
  · rename_i kt et hu
    try simp only [hu]
    split at e
    · cases e
    · rename_i hk
      rw [if_neg hk]
      have key : ∀ (es : List BEntry), (match findB P h kt k es 0 with
          | some (some (_, v)) => some (if ok then .tuple [v, .bool true] else v)
          | some none => (zeroB P et).map fun z => if ok then .tuple [z, .bool false] else z
          | none => none) = some v → (match findB P h' kt k es 0 with
          | some (some (_, v)) => some (if ok then .tuple [v, .bool true] else v)
          | some none => (zeroB P et).map fun z => if ok then .tuple [z, .bool false] else z
          | none => none) = some v := by
        intro es e
        cases hf : findB P h kt k es 0 with
        | none => simp [hf] at e
        | some r => rw [findB_le hl _ _ _ hf]; rw [hf] at e; exact e
      cases x <;> try (simp at e; done)
      case nilm => exact key [] e
      case map r =>
        dsimp only at e ⊢
        cases hb : h.get r with
        | none => simp [hb] at e
        | some o =>
          rw [hl _ _ hb]
          rw [hb] at e
          cases o <;> try (simp at e; done)
          exact key _ e
  · cases e

theorem binB_le (hl : HLe h h') {op : BinOp} {t : TypeId} {x y v : BV} (e : binB P h op t x y = some v) : binB P h' op t x y = some v := by
  unfold binB at e ⊢
  split at e
  case h_5 =>
    cases he : eqB P h 12 t x y with
    | none => simp [he] at e
    | some r => rw [eqB_le hl _ _ _ _ _ he]; rw [he] at e; exact e
  case h_6 =>
    cases he : eqB P h 12 t x y with
    | none => simp [he] at e
    | some r => rw [eqB_le hl _ _ _ _ _ he]; rw [he] at e; exact e
  all_goals first | exact e | cases e | skip

theorem entryB_le (hl : HLe h h') {it v : BV} (e : entryB h it = some v) : entryB h' it = some v := by
  unfold entryB at e ⊢
  split at e
  · rename_i r
    split at e
    · rename_i hb
      try simp only [hl _ _ hb]
      split at e
      · rename_i h1 h2
        simp only [h1, hl _ _ h2]; exact e
      · cases e
    · cases e
  · cases e

theorem elemsB_le (hl : HLe h h') {n : Nat} {x : BV} {r : List BV × Nat} (e : elemsB P h n x = some r) : elemsB P h' n x = some r := by
  unfold elemsB at e ⊢
  split at e
  case h_3 =>
    split at e
    · rename_i hb; simp only [hl _ _ hb]; exact e
    · cases e
  all_goals exact e

theorem lenB_le (hl : HLe h h') {ts : Array TypeId} {args : List BV} {v : BV} (e : lenB P h ts args = some v) : lenB P h' ts args = some v := by
  unfold lenB at e ⊢
  split at e
  · rename_i t x ht
    try simp only [ht]
    split at e
    case h_8 =>
      rename_i hu
      try simp only [hu]
      split at e
      · rename_i hb; simp only [hl _ _ hb]; exact e
      · cases e
    all_goals first | exact e | cases e
  · cases e

theorem sliceB_le (hl : HLe h h') {t : TypeId} {x v : BV} {lo hi mx : Option BV} (e : sliceB P h t x lo hi mx = some v) : sliceB P h' t x lo hi mx = some v := by
  unfold sliceB at e ⊢
  split at e
  · dsimp only at e ⊢
    split at e
    case h_3 =>
      split at e
      · split at e
        · rename_i hc
          rw [if_pos hc]
          split at e
          · exact e
          · split at e
            · rename_i hc1; rw [if_pos hc1]; exact e
            · rename_i hc1
              rw [if_neg hc1]
              split at e
              · rename_i hc2
                rw [if_pos hc2]
                split at e
                · rename_i hb
                  simp only [hl _ _ hb]; exact e
                · cases e
              · rename_i hc2; rw [if_neg hc2]; exact e
        · cases e
      · cases e
    all_goals exact e
  · cases e

theorem convertB_le (hl : HLe h h') {s d : TypeId} {x v : BV} (ha : (match P.underlying d with | some (.slice _) => true | _ => false) = false) (e : convertB P h s d x = some (v, h)) : convertB P h' s d x = some (v, h') := by
  unfold convertB at e ⊢
  split at e
  case h_4 => rename_i hu; simp [hu] at ha
  case h_5 =>
    split at e
    · split at e
      · rename_i he
        simp only [elemsB_le hl he]
        simp only [Option.map_eq_some_iff] at e ⊢
        obtain ⟨l, h1, h2⟩ := e
        exact ⟨l, h1, by simpa using h2⟩
      · cases e
    · cases e
  case h_6 => cases e
  all_goals (cases e; rfl)

/-- an operation without an effect that makes no block leaves the memory alone, and answers so in any larger one -/
theorem opB_le (hl : HLe h h') {ρ : Operand → BV} {o : Oper} {v : BV} {h1 : BHeap} (he : effOp o = false) (ha : allocOp P o = false) (e : opB P h ρ o = some (.value v, h1)) : h1 = h ∧ opB P h' ρ o = some (.value v, h') := by
  obtain ⟨dst, op, ty, pos, after, guard⟩ := o
  have hv : ∀ {r r' : Option BV}, (∀ v, r = some v → r' = some v) → (r.map fun x => (BNext.value x, h)) = some (.value v, h1) → h1 = h ∧ (r'.map fun x => (BNext.value x, h')) = some (.value v, h') := by
    intro r r' hr e
    cases r with
    | none => cases e
    | some x => simp at e; obtain ⟨rfl, rfl⟩ := e; exact ⟨rfl, by rw [hr _ rfl]; rfl⟩
  have hs : ∀ {u : BV}, some (BNext.value u, h) = some (BNext.value v, h1) → h1 = h ∧ some (BNext.value u, h') = some (BNext.value v, h') := by
    intro u e; cases e; exact ⟨rfl, rfl⟩
  cases op <;> simp only [opB, effOp, allocOp, Bool.true_eq_false, Bool.false_eq_true, reduceCtorEq] at e he ha ⊢
  case move => exact hs e
  case assign => exact hs e
  case pick => split at e; · exact hs e
               · cases e
  case build => exact hv (fun v e => e) e
  case load => exact hv (fun v e => loadB_le hl e) e
  case nilCheck => split at e
                   case h_4 => split at e <;> first | cases e; done | exact hs e
                   all_goals first | cases e; done | exact hs e
  case binOp => split at e
                · rename_i hg; rw [if_pos hg]; exact hv (fun v e => binB_le hl e) e
                · cases e
  case unOp => exact hv (fun v e => e) e
  case convert s d x =>
    rw [he] at e ha ⊢
    simp only [Bool.false_eq_true, if_false, Bool.not_false, Bool.true_and] at e ha ⊢
    cases hc : convertB P h s d (ρ x) with
    | none => simp [hc] at e
    | some r =>
      obtain ⟨u, h2⟩ := r
      have h2h : h2 = h := by
        unfold convertB at hc
        split at hc
        case h_4 => rename_i hu _; rw [hu] at ha; cases ha
        case h_5 =>
          split at hc
          · split at hc
            · simp only [Option.map_eq_some_iff] at hc
              obtain ⟨l, _, hc⟩ := hc
              cases hc; rfl
            · cases hc
          · cases hc
        case h_6 => cases hc
        all_goals (cases hc; rfl)
      subst h2h
      rw [hc] at e
      simp at e
      obtain ⟨rfl, rfl⟩ := e
      exact ⟨rfl, by rw [convertB_le hl ha hc]; rfl⟩
  case makeInterface => split at e <;> first | cases e; done | exact hs e
  case makeFunc => split at e <;> first | cases e; done | exact hs e
  case slice => exact hv (fun v e => sliceB_le hl e) e
  case fieldAddr => exact hv (fun v e => e) e
  case field => exact hv (fun v e => e) e
  case indexAddr => exact hv (fun v e => e) e
  case index => exact hv (fun v e => e) e
  case lookup => exact hv (fun v e => lookupB_le hl e) e
  case entry => exact hv (fun v e => entryB_le hl e) e
  case typeAssert => exact hv (fun v e => e) e
  case extract => split at e
                  · exact hv (fun v e => e) e
                  · cases e
  case call c =>
    split at he
    case h_4 => cases he
    all_goals
      rename_i hc
      simp only [resolveB, hc, Option.bind_some, invokeB, builtinB] at e ⊢
    · exact hv (fun v e => lenB_le hl e) e
    · split at e
      · cases e
      · exact hv (fun v e => e) e
    · split at e
      · cases e
      · exact hv (fun v e => e) e

/-- ... and an operation that asks nothing of the memory answers so in any -/
theorem opB_pure {ρ : Operand → BV} {o : Oper} {v : BV} {h1 : BHeap} (he : effOp o = false) (ha : allocOp P o = false) (hlo : loadOp o = false) (e : opB P h ρ o = some (.value v, h1)) (h' : BHeap) : opB P h' ρ o = some (.value v, h') := by
  obtain ⟨dst, op, ty, pos, after, guard⟩ := o
  have hv : ∀ {r : Option BV}, (r.map fun x => (BNext.value x, h)) = some (.value v, h1) → (r.map fun x => (BNext.value x, h')) = some (.value v, h') := by
    intro r e
    cases r with
    | none => cases e
    | some x => simp at e; obtain ⟨rfl, rfl⟩ := e; rfl
  have hs : ∀ {u : BV}, some (BNext.value u, h) = some (BNext.value v, h1) → some (BNext.value u, h') = some (BNext.value v, h') := by
    intro u e; cases e; rfl
  cases op <;> simp only [opB, effOp, allocOp, loadOp, Bool.true_eq_false, Bool.false_eq_true, reduceCtorEq] at e he ha hlo ⊢
  case pick => split at e; · exact hs e
               · cases e
  case nilCheck => split at e
                   case h_4 => split at e <;> first | cases e; done | exact hs e
                   all_goals first | cases e; done | exact hs e
  case makeInterface => split at e <;> first | cases e; done | exact hs e
  case makeFunc => split at e <;> first | cases e; done | exact hs e
  case extract => split at e
                  · exact hv e
                  · cases e
  case move => exact hs e
  case assign => exact hs e
  all_goals exact hv e

/-- an operation that makes a block: one, at the end -/
theorem opB_alloc {ρ : Operand → BV} {o : Oper} {v : BV} {h1 : BHeap} (ha : allocOp P o = true) (e : opB P h ρ o = some (.value v, h1)) : ∃ ob, h1 = h.new ob := by
  obtain ⟨dst, op, ty, pos, after, guard⟩ := o
  have hvh : ∀ {r : Option (BV × BHeap)}, (∀ v h1, r = some (v, h1) → ∃ ob, h1 = h.new ob) → (r.map fun (x : BV × BHeap) => (BNext.value x.1, x.2)) = some (.value v, h1) → ∃ ob, h1 = h.new ob := by
    intro r hr e
    cases r with
    | none => cases e
    | some x => obtain ⟨u, h2⟩ := x; simp at e; obtain ⟨rfl, rfl⟩ := e; exact hr _ _ rfl
  have hal : ∀ {t : TypeId} {x u : BV} {h2 : BHeap}, allocB P h t x = some (u, h2) → ∃ ob, h2 = h.new ob := by
    intro t x u h2 e
    unfold allocB at e
    split at e
    · cases e; exact ⟨_, rfl⟩
    · cases e
  cases op <;> simp only [opB, allocOp, Bool.true_eq_false, Bool.false_eq_true, reduceCtorEq] at e ha
  case alloc t =>
    refine hvh (fun v h1 e => ?_) e
    cases hz : zeroB P t with
    | none => simp [hz] at e
    | some z => simp only [hz, Option.bind_some] at e; exact hal e
  case box => exact hvh (fun v h1 e => hal e) e
  case buildSlice =>
    refine hvh (fun v h1 e => ?_) e
    unfold buildSliceB at e
    split at e
    · split at e
      · dsimp only at e
        split at e
        · cases e
        · split at e
          · split at e
            · cases e; exact ⟨_, rfl⟩
            · cases e
          · cases e
      · cases e
    · cases e
  case convert =>
    simp only [Bool.and_eq_true, Bool.not_eq_true'] at ha
    obtain ⟨hne, ha⟩ := ha
    rw [hne] at e
    simp only [Bool.false_eq_true, if_false] at e
    refine hvh (fun v h1 e => ?_) e
    unfold convertB at e
    split at e
    case h_4 => split at e; · cases e; exact ⟨_, rfl⟩
                · cases e
    case h_6 => cases e
    all_goals first
      | (rename_i hu2; rw [hu2] at ha; cases ha; done)
      | (rename_i hu2 _; rw [hu2] at ha; cases ha; done)
      | (rename_i hu2 _ _; rw [hu2] at ha; cases ha; done)
      | (rename_i hu2 _ _ _; rw [hu2] at ha; cases ha; done)
      | (rename_i hu2 _ _ _ _; rw [hu2] at ha; cases ha; done)
  case makeMap =>
    split at e
    · split at e
      · cases e; exact ⟨_, rfl⟩
      · cases e
    · split at e
      · cases e; exact ⟨_, rfl⟩
      · cases e
    · cases e
  case makeSlice =>
    refine hvh (fun v h1 e => ?_) e
    unfold makeSliceB at e
    split at e
    · split at e
      · split at e
        · cases e; exact ⟨_, rfl⟩
        · cases e
      · cases e
    · cases e
end
end Go.PB

set_option linter.unusedSimpArgs false
set_option linter.unusedVariables false
namespace Go.PB
open Go

def RealN (P : Program) (g : Gh) (h : BHeap) (w : World) (b : Nat) (v : BV) (r : Result Next) : Prop :=
  ∃ v' w', r = .ok (.value v') w' ∧ HRel P (g.upd b w.heap.size 0) h w' ∧ Ext g h w (g.upd b w.heap.size 0) h w' ∧ VRel P (g.upd b w.heap.size 0) w' v v'

section
variable {P : Program} {g : Gh} {h : BHeap} {w : World}

theorem RealN.of {b : Nat} {v : BV} {s : Sem Value} (hr : Real P g h w b v (s.run P w)) : RealN P g h w b v ((do pure (.value (← s)) : Sem Next).run P w) := by
  obtain ⟨v', w', e, h1, h2, h3⟩ := hr
  exact ⟨v', w', by simp [e], h1, h2, h3⟩

theorem real_op (hr : HRel P g h w) {o : Oper} {ρ : Operand → BV} {σ : Operand → Value} {v : BV} {h1 h2 : BHeap} (ha : allocOp P o = true)
    (hρ : ∀ x ∈ o.op.operands.toList, VRel P g w (ρ x) (σ x)) (e : opB P h1 ρ o = some (.value v, h2)) (hb : h.get h1.next = h2.get h1.next) (hm : g.m h1.next = none) :
    RealN P g h w h1.next v ((execOp σ o).run P w) := by
  obtain ⟨dst, op, ty, pos, after, guard⟩ := o
  have hvh : ∀ {r : Option (BV × BHeap)} {s : Sem Value}, (∀ v h2', h.get h1.next = h2'.get h1.next → r = some (v, h2') → Real P g h w h1.next v (s.run P w)) → (r.map fun (x : BV × BHeap) => (BNext.value x.1, x.2)) = some (.value v, h2) → RealN P g h w h1.next v ((do pure (.value (← s)) : Sem Next).run P w) := by
    intro r s hs he
    cases r with
    | none => cases he
    | some x => obtain ⟨u, h3⟩ := x; simp at he; obtain ⟨rfl, rfl⟩ := he; exact RealN.of (hs _ _ hb rfl)
  cases op <;> simp only [opB, allocOp, Bool.false_eq_true, reduceCtorEq] at e ha <;> simp only [Op.operands] at hρ
  case alloc t =>
    refine hvh (fun v h2 hb he => ?_) e
    cases hz : zeroB P t with
    | none => simp [hz] at he
    | some z =>
      simp only [hz, Option.bind_some, allocB] at he
      split at he
      · rename_i hone
        cases he
        rw [BHeap.get_new, if_pos rfl] at hb
        exact real_alloc hr hz hb hm hone
      · cases he
  case box t x =>
    refine hvh (fun v h2 hb he => ?_) e
    simp only [allocB] at he
    split at he
    · rename_i hone
      cases he
      rw [BHeap.get_new, if_pos rfl] at hb
      exact real_box hr hb hm (hρ x (by simp)) hone
    · cases he
  case buildSlice t len parts =>
    refine hvh (s := Instr.buildSlice t len (parts.map fun (x : Nat × Operand) => (x.1, σ x.2))) (fun v h2 hb he => ?_) e
    have hp := prel (P := P) (g := g) (w := w) (ps := parts) (ρ := ρ) (σ := σ) (fun x hx => hρ x (by simpa using hx))
    have e1 : (parts.map fun (x : Nat × Operand) => (x.1, σ x.2)) = (parts.toList.map fun (x : Nat × Operand) => (x.1, σ x.2)).toArray := by apply Array.ext'; simp
    rw [e1]
    exact real_buildSlice hr hp he hb rfl hm
  case makeSlice t l c =>
    exact hvh (fun v h2 hb he => real_makeSlice hr (hρ l (by simp)) (hρ c (by simp)) he hb rfl hm) e
  case makeMap t r =>
    have hm' : ∀ (hh : (r.map ρ = none ∧ r.map σ = none) ∨ ∃ q n, r.map ρ = some (.int q n) ∧ r.map σ = some (.int q n)) k el, P.underlying t = some (.map k el) → h.get h1.next = some (.map [] 0) → RealN P g h w h1.next (.map h1.next) ((execOp σ { dst, op := .makeMap t r, type := ty, pos, after, guard }).run P w) := by
      intro hh k el hu2 hb
      exact RealN.of (s := Instr.makeMap t (r.map σ)) (real_map hr hu2 hb hm hh)
    cases r with
    | none =>
      simp only [Option.map_none] at e
      split at e
      · cases e; rw [BHeap.get_new, if_pos rfl] at hb; exact hm' (.inl ⟨rfl, rfl⟩) _ _ (by assumption) hb
      · cases e
    | some x =>
      have hx := hρ x (by simp)
      cases hxx : ρ x <;> simp [hxx] at e
      rename_i q i
      rw [hxx] at hx
      simp only [VRel] at hx
      split at e
      · simp at e; obtain ⟨rfl, rfl⟩ := e; rw [BHeap.get_new, if_pos rfl] at hb; exact hm' (.inr ⟨q, i, by simp [hxx], by simp [hx]⟩) _ _ (by assumption) hb
      · cases e
  case convert src dst x =>
    simp only [Bool.and_eq_true, Bool.not_eq_true'] at ha
    obtain ⟨hne, ha⟩ := ha
    rw [hne] at e
    simp only [Bool.false_eq_true, if_false] at e
    refine hvh (s := convert src dst (σ x)) (fun v h2 hb he => ?_) e
    have hd : ∃ el, P.underlying dst = some (.slice el) := by
      cases hd : P.underlying dst with
      | none => rw [hd] at ha; cases ha
      | some d => cases d <;> rw [hd] at ha <;> first | (cases ha; done) | exact ⟨_, rfl⟩
    obtain ⟨el, hd⟩ := hd
    unfold convertB at he
    split at he
    · rename_i hd2 _; rw [hd] at hd2; cases hd2
    · rename_i hd2 _; rw [hd] at hd2; cases hd2
    · rename_i hd2 _; rw [hd] at hd2; cases hd2
    · rename_i d el2 s hs2 hd2 hx2
      split at he
      · rename_i hel hsz
        cases he
        have hx := hρ x (by simp)
        rw [hx2] at hx
        simp only [VRel] at hx
        have hrun : (convert src dst (σ x)).run P w = (Conv.stringToBytes el2 ⟨s.toArray⟩).run P w := by
          rw [hx]
          refine (Sem.run_bind P w _ _).trans ?_
          rw [r_underlying hs2, Result.andThen_ok]
          refine (Sem.run_bind P w _ _).trans ?_
          rw [r_underlying hd2, Result.andThen_ok]
          cases d <;> (refine (Sem.run_bind P w (underlying el2) _).trans ?_; rw [r_underlying hel, Result.andThen_ok])
        rw [hrun]
        rw [BHeap.get_new, if_pos rfl] at hb
        exact real_bytes hr (szOf_cellsOf hsz) hb hm
      · cases he
    · rename_i hd2 _ _; rw [hd] at hd2; cases hd2
    · cases he
end
end Go.PB

