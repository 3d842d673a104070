/- The relation of B's machine and the model's: items, frames, drawn regions; how it is kept. -/
import Derived.Test.YthjdcddpoihcdaaGreatDoorPosO12
set_option linter.unusedSimpArgs false
set_option linter.unusedVariables false
namespace Go.PB
open Go

def ItemRel (g : Gh) : BItem → Item → Prop
  | .code c, i => i = .code c
  | .inBlock id, i => i = .inBlock id
  | .inLoop c, i => i = .inLoop c
  | .inScope c, i => i = .inScope c
  | .inRegion ops todo, i => i = .inRegion ops todo
  | .inDraw _, _ => False
  | .inRangeFunc l, i => ∃ blk, g.m l = some (blk, 0) ∧ i = .inRangeFunc blk
  | .endRangeFunc l, i => ∃ blk, g.m l = some (blk, 0) ∧ i = .endRangeFunc blk
  | .beginRound, i => i = .beginRound

def ItemsRel (g : Gh) : List BItem → List Item → Prop
  | [], is => is = []
  | b :: bs, is => ∃ i ir, is = i :: ir ∧ ItemRel g b i ∧ ItemsRel g bs ir

def PanicRel (P : Program) (g : Gh) (w : World) (b : BPanic) (e : PanicEntry) : Prop := VRel P g w b.v e.v ∧ b.recovered = e.recovered ∧ e.goexit = false

def PanicsRel (P : Program) (g : Gh) (w : World) : List BPanic → List PanicEntry → Prop
  | [], es => es = []
  | b :: bs, es => ∃ e er, es = e :: er ∧ PanicRel P g w b e ∧ PanicsRel P g w bs er

def ModeRel (P : Program) (g : Gh) (w : World) : BMode → FrameMode → Prop
  | .run, m => m = .run
  | .returning, m => m = .returning
  | .panicking c, m => ∃ c', m = .panicking c' ∧ PanicsRel P g w c c'

def RoundRel (g : Gh) : Option Nat → Option Nat → Prop
  | none, r => r = none
  | some l, r => ∃ blk, g.m l = some (blk, 0) ∧ r = some blk

/-! ### a drawn region under way -/
def effB (ops : Array Oper) (i : Nat) : Prop := ∃ o, ops[i]? = some o ∧ effOp o = true

/-- what stands in a slot, where the operations 'rest' are still to come -/
def curSlot (ops : Array Oper) (env0 : List BV) (vals : List (Option BV)) (rest : List Nat) (t : Nat) : BV :=
  match writerOf ops t with
  | some k => if k ∈ rest then env0.getD t BV.undef else (vals.getD k none).getD .junk
  | none => env0.getD t BV.undef

/-- each one has what comes ahead of it behind it -/
def Ordered (bits : List Nat) : List Nat → Prop
  | [] => True
  | i :: r => (∀ k ∈ i :: r, testB bits i k = false) ∧ Ordered bits r

/-- what B has carried out ahead of the model: still so; 'b': the block that it made -/
def Open (P : Program) (g : Gh) (h hp : BHeap) (ops : Array Oper) (env0 : List BV) (vals : List (Option BV)) (b : Option Nat) (i : Nat) (o : Oper) (v : BV) : Prop :=
  (wantedB o ops (fun t => some (slotAt ops (aheadBits ops) env0 vals i t)) = some false ∧ v = BV.undef) ∨
  (wantedB o ops (fun t => some (slotAt ops (aheadBits ops) env0 vals i t)) = some true ∧
    ((allocOp P o = false ∧ opB P hp (evalAt ops (aheadBits ops) env0 vals i) o = some (.value v, hp)) ∨
     (allocOp P o = true ∧ ∃ h1 h2, b = some h1.next ∧ opB P h1 (evalAt ops (aheadBits ops) env0 vals i) o = some (.value v, h2) ∧ g.m h1.next = none ∧ h.get h1.next = h2.get h1.next)))

def Valued (vals : List (Option BV)) (i : Nat) : Prop := ∃ v, vals[i]? = some (some v)
def NoWait (ops : Array Oper) (effs : List Nat) (i : Nat) : Prop := ∀ e ∈ effs, testB (aheadBits ops) i e = false

structure DrawIn (P : Program) (g : Gh) (h : BHeap) (w : World) (lb ub : Nat) (hp : BHeap) (ph : Nat → Option Nat) (d : Draw) (tmps : Array Value) (rest : List Nat) : Prop where
  ok : drawOk d.ops = true
  dsts : dstsOk d.ops d.env0.length = true
  size : tmps.size = d.env0.length
  vlen : d.vals.length = d.ops.size
  nodup : rest.Nodup
  lt : ∀ i ∈ rest, i < d.ops.size
  ord : Ordered (aheadBits d.ops) rest
  dc : ∀ i, i < d.ops.size → i ∉ rest → ∀ k, testB (aheadBits d.ops) i k = true → k ∉ rest
  effs : ∀ e, e ∈ d.effs ↔ (e ∈ rest ∧ effB d.ops e)
  effsOrd : d.effs.Pairwise fun a b => testB (aheadBits d.ops) b a = true
  vals : ∀ i, i < d.ops.size → i ∉ rest → Valued d.vals i
  slots : ∀ (t : Nat) v, tmps[t]? = some v → VRel P g w (curSlot d.ops d.env0 d.vals rest t) v
  ready : ∀ i ∈ rest, ∀ o, d.ops[i]? = some o → effOp o = false → NoWait d.ops d.effs i → Valued d.vals i
  opened : ∀ i ∈ rest, ∀ o v, d.ops[i]? = some o → effOp o = false → d.vals[i]? = some (some v) → NoWait d.ops d.effs i ∧ Open P g h hp d.ops d.env0 d.vals (ph i) i o v
  phinj : ∀ i j b, ph i = some b → ph j = some b → i = j
  phlt : ∀ i b, ph i = some b → lb ≤ b ∧ b < ub

def DrawRel (P : Program) (g : Gh) (h : BHeap) (w : World) (lb ub : Nat) (hp : BHeap) (d : Draw) (tmps : Array Value) (rest : List Nat) : Prop := ∃ ph, DrawIn P g h w lb ub hp ph d tmps rest

def RunRel (P : Program) (g : Gh) (h : BHeap) (w : World) (lb ub : Nat) (top : Bool) (b : BFrame) (f : Frame) : Prop :=
  match b.todo with
  | .inDraw d :: k => b.env = d.env0 ∧ ∃ rest k', f.todo = .inRegion d.ops rest :: k' ∧ ItemsRel g k k' ∧ ∃ hp, (top = true → hp = h) ∧ DrawRel P g h w lb ub hp d f.tmps rest ∧
      (top = false → ∃ x r, rest = x :: r ∧ d.effs.head? = some x)
  | _ => VRels P g w b.env f.tmps.toList ∧ ItemsRel g b.todo f.todo

structure FRel (P : Program) (g : Gh) (h : BHeap) (w : World) (lb ub : Nat) (top : Bool) (b : BFrame) (f : Frame) : Prop where
  fn : b.fn = f.fn
  kind : b.kind = f.kind
  kinds : b.kind = .normal ∨ b.kind = .deferred
  defers : DRels P g w b.defers f.defers
  mode : ModeRel P g w b.mode f.mode
  round : RoundRel g b.roundOf f.roundOf
  run : b.mode = .run → RunRel P g h w lb ub top b f
  env : b.mode ≠ .run → VRels P g w b.env f.tmps.toList

/-- what is asked of the frames below the machine's own: it is kept while no block below lb that is not made is touched -/
structure Base where
  K : Gh → BHeap → Nat → List Frame → Prop
  mono : ∀ {g g' : Gh} {h h' : BHeap} {lb : Nat} {cs : List Frame}, (∀ b, b < lb → g.m b = none → g'.m b = none ∧ h'.get b = h.get b) → K g h lb cs → K g' h' lb cs

/-- the frames below are these -/
def Base.of (cs : List Frame) : Base := ⟨fun _ _ _ c => c = cs, fun _ h => h⟩

/-- the callers: each one's blocks that are not made yet lie below those of the frames above it -/
def CRel (P : Program) (g : Gh) (h : BHeap) (w : World) (base : Base) : Nat → List BFrame → List Frame → Prop
  | lb, [], cs => base.K g h lb cs
  | lb, b :: bs, cs => ∃ c cr lb', cs = c :: cr ∧ lb' ≤ lb ∧ FRel P g h w lb' lb false b c ∧ CRel P g h w base lb' bs cr

def SRel (P : Program) (base : Base) (g : Gh) (w : World) (lb : Nat) (s : BState) (f : Frame) (cs : List Frame) : Prop :=
  HRel P g s.h w ∧ lb ≤ s.h.next ∧ FRel P g s.h w lb s.h.next true s.fr f ∧ CRel P g s.h w base lb s.cs cs

/-- blocks below lb that are not made are left alone -/
def PhLt (lb : Nat) (g : Gh) (h : BHeap) (g' : Gh) (h' : BHeap) : Prop := ∀ b, b < lb → g.m b = none → g'.m b = none ∧ h'.get b = h.get b

section
variable {P : Program} {g g' : Gh} {h h' : BHeap} {w w' : World}

theorem Ph.lt (hp : Ph g h g' h') {lb : Nat} (hl : lb ≤ h.next) : PhLt lb g h g' h' := fun b hb hm => hp b (by omega) hm
theorem PhLt.refl (lb : Nat) (g : Gh) (h : BHeap) : PhLt lb g h g h := fun _ _ hm => ⟨hm, rfl⟩
theorem PhLt.mono {lb lb' : Nat} (hp : PhLt lb g h g' h') (hl : lb' ≤ lb) : PhLt lb' g h g' h' := fun b hb hm => hp b (by omega) hm
theorem PhLt.trans {g'' : Gh} {h'' : BHeap} {lb : Nat} (a : PhLt lb g h g' h') (b : PhLt lb g' h' g'' h'') : PhLt lb g h g'' h'' := fun x hx hm => by
  obtain ⟨m1, h1⟩ := a x hx hm
  obtain ⟨m2, h2⟩ := b x hx m1
  exact ⟨m2, h2.trans h1⟩

theorem ItemRel.mono (hm : Mono g w g' w') {b : BItem} {i : Item} (h : ItemRel g b i) : ItemRel g' b i := by
  cases b <;> simp only [ItemRel] at h ⊢
  case inRangeFunc => obtain ⟨blk, hb, rfl⟩ := h; exact ⟨blk, hm.mm _ _ hb, rfl⟩
  case endRangeFunc => obtain ⟨blk, hb, rfl⟩ := h; exact ⟨blk, hm.mm _ _ hb, rfl⟩
  all_goals exact h

theorem ItemsRel.mono (hm : Mono g w g' w') {bs : List BItem} : ∀ {is : List Item}, ItemsRel g bs is → ItemsRel g' bs is := by
  induction bs with
  | nil => intro is h; exact h
  | cons b bs ih => intro is h; simp only [ItemsRel] at h ⊢; obtain ⟨i, ir, rfl, h1, h2⟩ := h; exact ⟨i, ir, rfl, h1.mono hm, ih h2⟩

theorem PanicsRel.mono (hm : Mono g w g' w') {bs : List BPanic} : ∀ {es : List PanicEntry}, PanicsRel P g w bs es → PanicsRel P g' w' bs es := by
  induction bs with
  | nil => intro es h; exact h
  | cons b bs ih => intro es h; simp only [PanicsRel] at h ⊢; obtain ⟨i, ir, rfl, h1, h2⟩ := h; exact ⟨i, ir, rfl, ⟨VRel.mono hm _ _ h1.1, h1.2⟩, ih h2⟩

theorem PanicsRel.append {as bs : List BPanic} {us vs : List PanicEntry} (h : PanicsRel P g w as us) (k : PanicsRel P g w bs vs) : PanicsRel P g w (as ++ bs) (us ++ vs) := by
  induction as generalizing us with
  | nil => simp only [PanicsRel] at h; subst h; simpa using k
  | cons b bs ih => simp only [PanicsRel] at h; obtain ⟨d, dr, rfl, hd, hr⟩ := h; exact ⟨d, dr ++ vs, rfl, hd, ih hr⟩

theorem ModeRel.mono (hm : Mono g w g' w') {b : BMode} {m : FrameMode} (h : ModeRel P g w b m) : ModeRel P g' w' b m := by
  cases b <;> simp only [ModeRel] at h ⊢
  case panicking c => obtain ⟨c', rfl, hc⟩ := h; exact ⟨c', rfl, hc.mono hm⟩
  all_goals exact h

theorem RoundRel.mono (hm : Mono g w g' w') {b r : Option Nat} (h : RoundRel g b r) : RoundRel g' b r := by
  cases b <;> simp only [RoundRel] at h ⊢
  case some l => obtain ⟨blk, hb, rfl⟩ := h; exact ⟨blk, hm.mm _ _ hb, rfl⟩
  all_goals exact h

theorem Open.mono {hp : BHeap} {ops : Array Oper} {env0 : List BV} {vals : List (Option BV)} {b : Option Nat} {i : Nat} {o : Oper} {v : BV}
    (hph : ∀ x, b = some x → g.m x = none → g'.m x = none ∧ h'.get x = h.get x) (ho : Open P g h hp ops env0 vals b i o v) : Open P g' h' hp ops env0 vals b i o v := by
  rcases ho with h1 | ⟨h1, h2 | ⟨h2, h3, h4, k1, k2, k4, k5⟩⟩
  · exact .inl h1
  · exact .inr ⟨h1, .inl h2⟩
  · obtain ⟨m1, m2⟩ := hph _ k1 k4
    exact .inr ⟨h1, .inr ⟨h2, h3, h4, k1, k2, m1, m2.trans k5⟩⟩

theorem DrawIn.mono (hm : Mono g w g' w') {hp : BHeap} {lb ub : Nat} (hph : PhLt ub g h g' h') {ph : Nat → Option Nat} {d : Draw} {tmps : Array Value} {rest : List Nat} (hd : DrawIn P g h w lb ub hp ph d tmps rest) :
    DrawIn P g' h' w' lb ub hp ph d tmps rest :=
  { hd with
    slots := fun t v ht => VRel.mono hm _ _ (hd.slots t v ht)
    opened := fun i hi o v h1 h2 h3 => ⟨(hd.opened i hi o v h1 h2 h3).1, (hd.opened i hi o v h1 h2 h3).2.mono fun x hx hx' => hph x (hd.phlt i x hx).2 hx'⟩ }

theorem DrawRel.mono (hm : Mono g w g' w') {hp : BHeap} {lb ub : Nat} (hph : PhLt ub g h g' h') {d : Draw} {tmps : Array Value} {rest : List Nat} (hd : DrawRel P g h w lb ub hp d tmps rest) :
    DrawRel P g' h' w' lb ub hp d tmps rest := by
  obtain ⟨ph, hd⟩ := hd
  exact ⟨ph, hd.mono hm hph⟩

/-- a caller's frame is kept -/
theorem FRel.mono (hm : Mono g w g' w') {lb ub : Nat} (hph : PhLt ub g h g' h') {b : BFrame} {f : Frame} (hf : FRel P g h w lb ub false b f) : FRel P g' h' w' lb ub false b f where
  fn := hf.fn
  kind := hf.kind
  kinds := hf.kinds
  defers := hf.defers.mono hm
  mode := hf.mode.mono hm
  round := hf.round.mono hm
  env := fun e => VRels.mono hm _ _ (hf.env e)
  run := fun e => by
    have := hf.run e
    unfold RunRel at this ⊢
    split
    · rename_i d k ht
      simp only [ht] at this
      obtain ⟨h1, rest, k', h2, h3, hp, h4, h5, h6⟩ := this
      exact ⟨h1, rest, k', h2, h3.mono hm, hp, (fun e => by cases e), h5.mono hm hph, by simpa using h6⟩
    · rename_i hno
      split at this
      · rename_i d k ht; exact absurd ht (hno d k)
      · exact ⟨VRels.mono hm _ _ this.1, this.2.mono hm⟩

theorem CRel.mono (hm : Mono g w g' w') {base : Base} {bs : List BFrame} : ∀ {lb : Nat} {cs : List Frame}, PhLt lb g h g' h' → CRel P g h w base lb bs cs → CRel P g' h' w' base lb bs cs := by
  induction bs with
  | nil => intro lb cs hph h; exact base.mono hph h
  | cons b bs ih =>
    intro lb cs hph h
    simp only [CRel] at h ⊢
    obtain ⟨c, cr, lb', rfl, h1, h2, h3⟩ := h
    exact ⟨c, cr, lb', rfl, h1, h2.mono hm hph, ih (hph.mono h1) h3⟩

/-- a frame's slots stand in the model as in B, out of a drawn region -/
theorem evalRel {env : List BV} {tmps : Array Value} (hv : VRels P g w env tmps.toList) (f : Frame) (hf : f.tmps = tmps) (x : Operand) : VRel P g w (evalB env x) (f.eval x) := by
  subst hf
  cases x with
  | tmp t =>
    simp only [evalB, Frame.eval]
    cases hb : env[t]? with
    | none =>
      have : f.tmps.toList[t]? = none := by rw [List.getElem?_eq_none]; have := hv.length; have := List.getElem?_eq_none_iff.1 hb; omega
      simp only [List.getD, hb, Option.getD_none, Array.getD_eq_getD_getElem?]
      rw [← Array.getElem?_toList, this]
      exact VRel.undef
    | some b =>
      obtain ⟨v, h1, h2⟩ := hv.get hb
      simp only [List.getD, hb, Option.getD_some, Array.getD_eq_getD_getElem?]
      rw [← Array.getElem?_toList, h1]
      exact h2
  | const v => exact VRel.ofv P g w v
  | global a => simp [evalB, VRel]
  | func f' => simp only [evalB, Frame.eval, VRel]; exact ⟨#[], #[], rfl, VRels.nil, VRels.nil⟩

theorem putRel {env : List BV} {tmps : Array Value} (hv : VRels P g w env tmps.toList) {b : BV} {v : Value} (hb : VRel P g w b v) (d : Option Nat) :
    VRels P g w (putTmp env d b) (match d with | some d => tmps.setIfInBounds d v | none => tmps).toList := by
  cases d with
  | none => exact hv
  | some d => simpa [putTmp] using hv.set d hb

theorem exitRel {id : Nat} : ∀ {bs : List BItem} {is : List Item}, ItemsRel g bs is →
    (∀ k, exitToB id bs = some k → ∃ k', exitTo id is = some k' ∧ ItemsRel g k k') ∧ (exitToB id bs = none → exitTo id is = none) := by
  intro bs
  induction bs with
  | nil => intro is h; simp only [ItemsRel] at h; subst h; exact ⟨fun k hk => by simp [exitToB] at hk, fun _ => rfl⟩
  | cons b bs ih =>
    intro is h
    simp only [ItemsRel] at h
    obtain ⟨i, ir, rfl, h1, h2⟩ := h
    have := ih h2
    cases b <;> simp only [ItemRel] at h1
    case inBlock id' =>
      subst h1
      simp only [exitToB, exitTo]
      by_cases hc : (id' == id) = true
      · rw [if_pos hc, if_pos hc]; exact ⟨fun k hk => by cases hk; exact ⟨ir, rfl, h2⟩, fun hk => by cases hk⟩
      · rw [if_neg hc, if_neg hc]; exact this
    case inRangeFunc l => obtain ⟨blk, _, rfl⟩ := h1; simpa only [exitToB, exitTo] using this
    case endRangeFunc l => obtain ⟨blk, _, rfl⟩ := h1; simpa only [exitToB, exitTo] using this
    all_goals (subst h1; simpa only [exitToB, exitTo] using this)

theorem gotoRel {l : Nat} : ∀ {bs : List BItem} {is : List Item}, ItemsRel g bs is →
    (∀ k, gotoInB l bs = some k → ∃ k', gotoIn l is = some k' ∧ ItemsRel g k k') ∧ (gotoInB l bs = none → gotoIn l is = none) := by
  intro bs
  induction bs with
  | nil => intro is h; simp only [ItemsRel] at h; subst h; exact ⟨fun k hk => by simp [gotoInB] at hk, fun _ => rfl⟩
  | cons b bs ih =>
    intro is h
    simp only [ItemsRel] at h
    obtain ⟨i, ir, rfl, h1, h2⟩ := h
    have := ih h2
    cases b <;> simp only [ItemRel] at h1
    case inScope body =>
      subst h1
      simp only [gotoInB, gotoIn]
      cases hf : findLabel body l with
      | none => exact this
      | some rest => exact ⟨fun k hk => by cases hk; exact ⟨_, rfl, _, _, rfl, rfl, _, _, rfl, rfl, h2⟩, fun hk => by cases hk⟩
    case inRangeFunc l => obtain ⟨blk, _, rfl⟩ := h1; simpa only [gotoInB, gotoIn] using this
    case endRangeFunc l => obtain ⟨blk, _, rfl⟩ := h1; simpa only [gotoInB, gotoIn] using this
    all_goals (subst h1; simpa only [gotoInB, gotoIn] using this)
end
end Go.PB
