/- The relation between machine B and the model's machine: values, objects, heaps; how it is kept. How the relation of heaps is kept by a write, a new block, a block that is given up. -/
import Derived.Test.YtabfeencbambmaaGreatDoorPosB
import Derived.Control
import Derived.Lone
import Derived.Laws.Cells
set_option linter.unusedSimpArgs false
set_option linter.unusedVariables false
namespace Go.PB
open Go

structure Gh where
  m : Nat → Option (Nat × Nat)
  fz : Nat → Prop

def capOk : Option Nat → Nat → Nat → Prop
  | some k, _, c => c = k
  | none, len, c => len ≤ c

/-- the cells of block blk from off on are these -/
def CellsAt (w : World) (blk off : Nat) (vs : List Value) : Prop := ∀ i x, vs[i]? = some x → w.cell? ⟨blk, off + i, none⟩ = some x

/-- behind an open slice lies all the rest of its block -/
def Tail (P : Program) (w : World) (blk off c : Nat) : Prop := ∃ e n, w.shape? blk = some (e, n) ∧ off + c * P.cellsOf e = n

mutual
def VRel (P : Program) (g : Gh) (w : World) : BV → Value → Prop
  | .junk, _ => True
  | .any, v => v.cells = #[v] ∧ (∀ cs, v ≠ .agg cs) ∧ ∀ cs, v ≠ .tuple cs
  | .bool b, v => v = .bool b
  | .int k n, v => v = .int k n
  | .str s, v => v = .string ⟨s.toArray⟩
  | .nilp, v => v = .pointer none
  | .ptr b off, v => ∃ blk base, g.m b = some (blk, base) ∧ v = .pointer (some ⟨blk, base + off, none⟩)
  | .rptr cs, v => ∃ blk off, v = .pointer (some ⟨blk, off, none⟩) ∧ g.fz blk ∧ ∃ vs, VRels P g w cs vs ∧ CellsAt w blk off vs
  | .nils, v => v = .slice none 0 0
  | .eslice, v => ∃ a c, v = .slice (some a) 0 c
  | .slice b off len cap, v => ∃ blk base c, g.m b = some (blk, base) ∧ v = .slice (some ⟨blk, base + off, none⟩) len c ∧ capOk cap len c ∧ (cap = none → Tail P w blk (base + off) c)
  | .rslice cs len cap, v => ∃ blk off c, v = .slice (some ⟨blk, off, none⟩) len c ∧ g.fz blk ∧ capOk cap len c ∧ ∃ vs, VRels P g w cs vs ∧ CellsAt w blk off vs
  | .nilm, v => v = .map none
  | .map b, v => ∃ blk, g.m b = some (blk, 0) ∧ v = .map (some blk)
  | .func fn a c, v => ∃ a' c', v = .func fn a' c' ∧ VRels P g w a a'.toList ∧ VRels P g w c c'.toList
  | .yield l, v => ∃ blk, g.m l = some (blk, 0) ∧ v = .func (.yield blk) #[] #[]
  | .nilf, v => v = .nilFunc
  | .iface t x, v => ∃ x', v = .iface t x' ∧ VRel P g w x x'
  | .nili, v => v = .nilIface
  | .agg cs, v => ∃ vs, v = .agg vs ∧ VRels P g w cs vs.toList
  | .tuple cs, v => ∃ vs, v = .tuple vs ∧ VRels P g w cs vs.toList
def VRels (P : Program) (g : Gh) (w : World) : List BV → List Value → Prop
  | [], vs => vs = []
  | b :: bs, vs => ∃ v vr, vs = v :: vr ∧ VRel P g w b v ∧ VRels P g w bs vr
end

section lists
variable {P : Program} {g : Gh} {w : World}

theorem VRels.length {bs : List BV} : ∀ {vs : List Value}, VRels P g w bs vs → vs.length = bs.length := by
  induction bs with
  | nil => intro vs h; simp [VRels] at h; simp [h]
  | cons b bs ih => intro vs h; simp only [VRels] at h; obtain ⟨v, vr, rfl, _, h⟩ := h; simp [ih h]

theorem VRels.get {bs : List BV} : ∀ {vs : List Value}, VRels P g w bs vs → ∀ {i : Nat} {b : BV}, bs[i]? = some b → ∃ v, vs[i]? = some v ∧ VRel P g w b v := by
  induction bs with
  | nil => intro vs _ i b h; simp at h
  | cons x bs ih =>
    intro vs h i b hb
    simp only [VRels] at h
    obtain ⟨v, vr, rfl, hv, hr⟩ := h
    cases i with
    | zero => simp at hb; subst hb; exact ⟨v, by simp, hv⟩
    | succ i => simp at hb; obtain ⟨u, hu, hr'⟩ := ih hr hb; exact ⟨u, by simpa using hu, hr'⟩

theorem VRels.get' {bs : List BV} {vs : List Value} (h : VRels P g w bs vs) {i : Nat} {v : Value} (hv : vs[i]? = some v) : ∃ b, bs[i]? = some b ∧ VRel P g w b v := by
  have hl := h.length
  have hi : i < bs.length := by have := (List.getElem?_eq_some_iff.1 hv).1; omega
  obtain ⟨u, hu, hr⟩ := h.get (List.getElem?_eq_getElem hi)
  rw [hv] at hu; cases hu
  exact ⟨_, List.getElem?_eq_getElem hi, hr⟩

theorem VRels.of_get {bs : List BV} : ∀ {vs : List Value}, vs.length = bs.length → (∀ (i : Nat) b v, bs[i]? = some b → vs[i]? = some v → VRel P g w b v) → VRels P g w bs vs := by
  induction bs with
  | nil => intro vs hl _; simp at hl; simp [VRels, hl]
  | cons b bs ih =>
    intro vs hl h
    cases vs with
    | nil => simp at hl
    | cons v vr =>
      simp only [VRels]
      exact ⟨v, vr, rfl, h 0 b v (by simp) (by simp), ih (by simpa using hl) fun i b' v' hb hv => h (i + 1) b' v' (by simpa using hb) (by simpa using hv)⟩

theorem VRels.append {as bs : List BV} {us vs : List Value} (h : VRels P g w as us) (k : VRels P g w bs vs) : VRels P g w (as ++ bs) (us ++ vs) := by
  refine VRels.of_get (by simp [h.length, k.length]) fun i b v hb hv => ?_
  rw [List.getElem?_append] at hb hv
  rw [h.length] at hv
  split at hb
  · rename_i hlt; rw [if_pos hlt] at hv; obtain ⟨v', h1, h2⟩ := h.get hb; rw [h1] at hv; cases hv; exact h2
  · rename_i hlt; rw [if_neg hlt] at hv; obtain ⟨v', h1, h2⟩ := k.get hb; rw [h1] at hv; cases hv; exact h2

theorem VRels.take {bs : List BV} {vs : List Value} (n : Nat) (h : VRels P g w bs vs) : VRels P g w (bs.take n) (vs.take n) := by
  refine VRels.of_get (by simp [h.length]) fun i b v hb hv => ?_
  rw [List.getElem?_take] at hb hv
  split at hb
  · rename_i hlt; rw [if_pos hlt] at hv; obtain ⟨v', h1, h2⟩ := h.get hb; rw [h1] at hv; cases hv; exact h2
  · cases hb

theorem VRels.drop {bs : List BV} {vs : List Value} (n : Nat) (h : VRels P g w bs vs) : VRels P g w (bs.drop n) (vs.drop n) := by
  refine VRels.of_get (by simp [h.length]) fun i b v hb hv => ?_
  rw [List.getElem?_drop] at hb hv
  obtain ⟨v', h1, h2⟩ := h.get hb; rw [h1] at hv; cases hv; exact h2

theorem VRels.set {bs : List BV} {vs : List Value} {b : BV} {v : Value} (n : Nat) (h : VRels P g w bs vs) (hv : VRel P g w b v) : VRels P g w (bs.set n b) (vs.set n v) := by
  refine VRels.of_get (by simp [h.length]) fun i b' v' hb hv' => ?_
  rw [List.getElem?_set] at hb hv'
  split at hb
  · rename_i e; subst e
    split at hb
    · simp at hb; subst hb; rename_i hlt; rw [if_pos rfl, if_pos (by rw [h.length]; exact hlt)] at hv'; cases hv'; exact hv
    · cases hb
  · rename_i e; rw [if_neg e] at hv'; obtain ⟨u, h1, h2⟩ := h.get hb; rw [h1] at hv'; cases hv'; exact h2

theorem VRels.map {α : Type} {l : List α} {f : α → BV} {f' : α → Value} (h : ∀ a ∈ l, VRel P g w (f a) (f' a)) : VRels P g w (l.map f) (l.map f') := by
  induction l with
  | nil => simp [VRels]
  | cons a l ih =>
    simp only [List.map_cons, VRels]
    exact ⟨_, _, rfl, h a (by simp), ih fun b hb => h b (by simp [hb])⟩

theorem VRels.replicate {b : BV} {v : Value} (h : VRel P g w b v) (n : Nat) : VRels P g w (List.replicate n b) (List.replicate n v) := by
  refine VRels.of_get (by simp) fun i b' v' hb hv => ?_
  rw [List.getElem?_replicate] at hb hv
  split at hb
  · rename_i hlt; rw [if_pos hlt] at hv; cases hb; cases hv; exact h
  · cases hb

theorem VRels.cons {b : BV} {v : Value} {bs : List BV} {vs : List Value} (h : VRel P g w b v) (k : VRels P g w bs vs) : VRels P g w (b :: bs) (v :: vs) := by
  simp only [VRels]; exact ⟨v, vs, rfl, h, k⟩

theorem VRels.nil : VRels P g w [] [] := by simp [VRels]

theorem VRels.one {b : BV} {vs : List Value} (h : VRels P g w [b] vs) : ∃ v, vs = [v] ∧ VRel P g w b v := by
  simp only [VRels] at h; obtain ⟨v, vr, rfl, hv, rfl⟩ := h; exact ⟨v, rfl, hv⟩

theorem VRels.two {a b : BV} {vs : List Value} (h : VRels P g w [a, b] vs) : ∃ u v, vs = [u, v] ∧ VRel P g w a u ∧ VRel P g w b v := by
  simp only [VRels] at h; obtain ⟨u, vr, rfl, hu, v, vr', rfl, hv, rfl⟩ := h; exact ⟨u, v, rfl, hu, hv⟩

theorem VRel.undef : VRel P g w BV.undef Go.undef := by
  simp only [BV.undef, Go.undef, VRel]; exact ⟨#[], rfl, VRels.nil⟩

/-- a value that is one cell -/
theorem VRel.one {b : BV} {v : Value} (h : VRel P g w b v) (ho : b.one = true) : v.cells = #[v] ∧ (∀ cs, v ≠ .agg cs) ∧ ∀ cs, v ≠ .tuple cs := by
  cases b <;> simp only [BV.one, Bool.false_eq_true] at ho <;> simp only [VRel] at h
  case ptr => obtain ⟨_, _, _, rfl⟩ := h; simp [Value.cells]
  case rptr => obtain ⟨_, _, rfl, _⟩ := h; simp [Value.cells]
  case eslice => obtain ⟨_, _, rfl⟩ := h; simp [Value.cells]
  case slice => obtain ⟨_, _, _, _, rfl, _⟩ := h; simp [Value.cells]
  case rslice => obtain ⟨_, _, _, rfl, _⟩ := h; simp [Value.cells]
  case map => obtain ⟨_, _, rfl⟩ := h; simp [Value.cells]
  case func => obtain ⟨_, _, rfl, _⟩ := h; simp [Value.cells]
  case yield => obtain ⟨_, _, rfl⟩ := h; simp [Value.cells]
  case iface => obtain ⟨_, rfl, _⟩ := h; simp [Value.cells]
  case any => exact h
  all_goals (subst h; simp [Value.cells])

/-- the cells of a value whose cells are each one cell -/
theorem VRel.cells {b : BV} {v : Value} (h : VRel P g w b v) (ho : b.cells.all BV.one = true) : VRels P g w b.cells v.cells.toList := by
  by_cases hb : ∃ cs, b = .agg cs
  · obtain ⟨cs, rfl⟩ := hb
    simp only [VRel] at h; obtain ⟨vs, rfl, h⟩ := h
    simpa [BV.cells, Value.cells] using h
  · have e : b.cells = [b] := by cases b <;> first | rfl | (exact absurd ⟨_, rfl⟩ hb)
    rw [e] at ho ⊢
    have ho' : b.one = true := by simpa using ho
    rw [(h.one ho').1]
    exact VRels.cons h VRels.nil
end lists

/-! ### what is kept from world to world -/
structure Mono (g : Gh) (w : World) (g' : Gh) (w' : World) : Prop where
  mm : ∀ b x, g.m b = some x → g'.m b = some x
  mf : ∀ c, g.fz c → g'.fz c
  mc : ∀ c, g.fz c → w'.heap[c]? = w.heap[c]?
  ms : ∀ c s, w.shape? c = some s → w'.shape? c = some s

theorem Mono.refl (g : Gh) (w : World) : Mono g w g w := ⟨fun _ _ h => h, fun _ h => h, fun _ _ => rfl, fun _ _ h => h⟩
theorem Mono.trans {g g' g'' : Gh} {w w' w'' : World} (h : Mono g w g' w') (k : Mono g' w' g'' w'') : Mono g w g'' w'' :=
  ⟨fun b x e => k.mm b x (h.mm b x e), fun c e => k.mf c (h.mf c e), fun c e => (k.mc c (h.mf c e)).trans (h.mc c e), fun c s e => k.ms c s (h.ms c s e)⟩

theorem cell?_of_heap {w w' : World} {b off : Nat} (h : w'.heap[b]? = w.heap[b]?) : w'.cell? ⟨b, off, none⟩ = w.cell? ⟨b, off, none⟩ := by
  simp [World.cell?, h]

theorem Mono.cellsAt {g g' : Gh} {w w' : World} (h : Mono g w g' w') {blk off : Nat} {vs : List Value} (hf : g.fz blk) (hc : CellsAt w blk off vs) : CellsAt w' blk off vs := by
  intro i x hi
  rw [cell?_of_heap (h.mc blk hf)]; exact hc i x hi

mutual
theorem VRel.mono {P : Program} {g g' : Gh} {w w' : World} (hm : Mono g w g' w') : ∀ (b : BV) (v : Value), VRel P g w b v → VRel P g' w' b v
  | .junk, _, _ => by simp [VRel]
  | .any, v, h => by simp only [VRel] at h ⊢; exact h
  | .bool _, _, h => by simpa [VRel] using h
  | .int _ _, _, h => by simpa [VRel] using h
  | .str _, _, h => by simpa [VRel] using h
  | .nilp, _, h => by simpa [VRel] using h
  | .ptr b off, v, h => by
    simp only [VRel] at h ⊢; obtain ⟨blk, base, hb, rfl⟩ := h; exact ⟨blk, base, hm.mm _ _ hb, rfl⟩
  | .rptr cs, v, h => by
    simp only [VRel] at h ⊢; obtain ⟨blk, off, rfl, hf, vs, hv, hc⟩ := h
    exact ⟨blk, off, rfl, hm.mf _ hf, vs, VRels.mono hm cs vs hv, hm.cellsAt hf hc⟩
  | .nils, _, h => by simpa [VRel] using h
  | .eslice, _, h => by simpa [VRel] using h
  | .slice b off len cap, v, h => by
    simp only [VRel] at h ⊢; obtain ⟨blk, base, c, hb, rfl, hcap, ht⟩ := h
    refine ⟨blk, base, c, hm.mm _ _ hb, rfl, hcap, fun e => ?_⟩
    obtain ⟨e', n, hs, hn⟩ := ht e
    exact ⟨e', n, hm.ms _ _ hs, hn⟩
  | .rslice cs len cap, v, h => by
    simp only [VRel] at h ⊢; obtain ⟨blk, off, c, rfl, hf, hcap, vs, hv, hc⟩ := h
    exact ⟨blk, off, c, rfl, hm.mf _ hf, hcap, vs, VRels.mono hm cs vs hv, hm.cellsAt hf hc⟩
  | .nilm, _, h => by simpa [VRel] using h
  | .map b, v, h => by
    simp only [VRel] at h ⊢; obtain ⟨blk, hb, rfl⟩ := h; exact ⟨blk, hm.mm _ _ hb, rfl⟩
  | .func fn a c, v, h => by
    simp only [VRel] at h ⊢; obtain ⟨a', c', rfl, ha, hc⟩ := h
    exact ⟨a', c', rfl, VRels.mono hm a _ ha, VRels.mono hm c _ hc⟩
  | .yield l, v, h => by
    simp only [VRel] at h ⊢; obtain ⟨blk, hb, rfl⟩ := h; exact ⟨blk, hm.mm _ _ hb, rfl⟩
  | .nilf, _, h => by simpa [VRel] using h
  | .iface t x, v, h => by
    simp only [VRel] at h ⊢; obtain ⟨x', rfl, hx⟩ := h; exact ⟨x', rfl, VRel.mono hm x x' hx⟩
  | .nili, _, h => by simpa [VRel] using h
  | .agg cs, v, h => by
    simp only [VRel] at h ⊢; obtain ⟨vs, rfl, hv⟩ := h; exact ⟨vs, rfl, VRels.mono hm cs _ hv⟩
  | .tuple cs, v, h => by
    simp only [VRel] at h ⊢; obtain ⟨vs, rfl, hv⟩ := h; exact ⟨vs, rfl, VRels.mono hm cs _ hv⟩
theorem VRels.mono {P : Program} {g g' : Gh} {w w' : World} (hm : Mono g w g' w') : ∀ (bs : List BV) (vs : List Value), VRels P g w bs vs → VRels P g' w' bs vs
  | [], _, h => by simpa [VRels] using h
  | b :: bs, vs, h => by
    simp only [VRels] at h ⊢; obtain ⟨v, vr, rfl, hv, hr⟩ := h
    exact ⟨v, vr, rfl, VRel.mono hm b v hv, VRels.mono hm bs vr hr⟩
end

/-! ### objects -/
def TgRel (P : Program) (g : Gh) (w : World) : BTarget → Target → Prop
  | .fn fn c, t => ∃ c', t = .fn fn c' ∧ VRels P g w c c'.toList
  | .yield l, t => ∃ blk, g.m l = some (blk, 0) ∧ t = .fn (.yield blk) #[]
  | .nil, t => t = .nil
  | .builtin b ts t' cs, t => t = .builtin b ts t' cs
  | .collected r, t => ∃ blk, g.m r = some (blk, 0) ∧ t = .collected blk

def DRel (P : Program) (g : Gh) (w : World) (b : BDef) (d : Deferred) : Prop :=
  TgRel P g w b.target d.target ∧ VRels P g w b.args d.args.toList

def DRels (P : Program) (g : Gh) (w : World) : List BDef → List Deferred → Prop
  | [], ds => ds = []
  | b :: bs, ds => ∃ d dr, ds = d :: dr ∧ DRel P g w b d ∧ DRels P g w bs dr

def ERel (P : Program) (g : Gh) (w : World) (b : BEntry) (e : MapEntry) : Prop :=
  VRel P g w b.key e.key ∧ VRel P g w b.val e.val ∧ b.born = e.born

def ERels (P : Program) (g : Gh) (w : World) : List BEntry → List MapEntry → Prop
  | [], es => es = []
  | b :: bs, es => ∃ e er, es = e :: er ∧ ERel P g w b e ∧ ERels P g w bs er

def LRel (P : Program) (g : Gh) (w : World) (b : BLoop) (l : Loop) : Prop :=
  b.state = l.state ∧ b.pending = l.pending ∧ b.fn = l.fn ∧ VRels P g w b.tmps l.tmps.toList ∧ b.params = l.params ∧ b.assign = l.assign ∧ b.body = l.body ∧ g.m b.defers = some (l.defers, 0)

def ORel (P : Program) (g : Gh) (w : World) : BObj → Nat → Obj → Prop
  | .cells cs e s, base, o => ∃ c lo hi, o = .cells c e (lo, hi) ∧ (∃ vs, VRels P g w cs vs ∧ ∀ i x, vs[i]? = some x → c[base + i]? = some x) ∧
      (∀ i, i < c.size → ¬ (lo ≤ i ∧ i < hi)) ∧ (s = false → lo = 0 ∧ hi = 0)
  | .map es clock, base, o => base = 0 ∧ ∃ es', o = .map es' clock ∧ ERels P g w es es'.toList
  | .mapIter none since seen st, base, o => base = 0 ∧ o = .mapIter none since seen.toArray st
  | .mapIter (some r) since seen st, base, o => base = 0 ∧ ∃ blk, g.m r = some (blk, 0) ∧ o = .mapIter (some blk) since seen.toArray st
  | .strIter s pos, base, o => base = 0 ∧ o = .stringIter ⟨s.toArray⟩ pos
  | .loop b, base, o => base = 0 ∧ ∃ l, o = .loop l ∧ LRel P g w b l
  | .deferred none, base, o => base = 0 ∧ o = .deferred none
  | .deferred (some ds), base, o => base = 0 ∧ ∃ ds', o = .deferred (some ds') ∧ DRels P g w ds ds'

section mono
variable {P : Program} {g g' : Gh} {w w' : World}
theorem TgRel.mono (hm : Mono g w g' w') {b : BTarget} {t : Target} (h : TgRel P g w b t) : TgRel P g' w' b t := by
  cases b <;> simp only [TgRel] at h ⊢
  case fn => obtain ⟨c', rfl, hc⟩ := h; exact ⟨c', rfl, VRels.mono hm _ _ hc⟩
  case yield => obtain ⟨blk, hb, rfl⟩ := h; exact ⟨blk, hm.mm _ _ hb, rfl⟩
  case collected => obtain ⟨blk, hb, rfl⟩ := h; exact ⟨blk, hm.mm _ _ hb, rfl⟩
  all_goals exact h
theorem DRel.mono (hm : Mono g w g' w') {b : BDef} {d : Deferred} (h : DRel P g w b d) : DRel P g' w' b d := ⟨h.1.mono hm, VRels.mono hm _ _ h.2⟩
theorem DRels.mono (hm : Mono g w g' w') {bs : List BDef} : ∀ {ds : List Deferred}, DRels P g w bs ds → DRels P g' w' bs ds := by
  induction bs with
  | nil => intro ds h; simpa [DRels] using h
  | cons b bs ih => intro ds h; simp only [DRels] at h ⊢; obtain ⟨d, dr, rfl, hd, hr⟩ := h; exact ⟨d, dr, rfl, hd.mono hm, ih hr⟩
theorem DRels.append {bs cs : List BDef} {ds es : List Deferred} (h : DRels P g w bs ds) (k : DRels P g w cs es) : DRels P g w (bs ++ cs) (ds ++ es) := by
  induction bs generalizing ds with
  | nil => simp only [DRels] at h; subst h; simpa using k
  | cons b bs ih => simp only [DRels] at h; obtain ⟨d, dr, rfl, hd, hr⟩ := h; exact ⟨d, dr ++ es, rfl, hd, ih hr⟩
theorem ERel.mono (hm : Mono g w g' w') {b : BEntry} {e : MapEntry} (h : ERel P g w b e) : ERel P g' w' b e :=
  ⟨VRel.mono hm _ _ h.1, VRel.mono hm _ _ h.2.1, h.2.2⟩
theorem ERels.mono (hm : Mono g w g' w') {bs : List BEntry} : ∀ {es : List MapEntry}, ERels P g w bs es → ERels P g' w' bs es := by
  induction bs with
  | nil => intro es h; simpa [ERels] using h
  | cons b bs ih => intro es h; simp only [ERels] at h ⊢; obtain ⟨d, dr, rfl, hd, hr⟩ := h; exact ⟨d, dr, rfl, hd.mono hm, ih hr⟩
theorem LRel.mono (hm : Mono g w g' w') {b : BLoop} {l : Loop} (h : LRel P g w b l) : LRel P g' w' b l := by
  obtain ⟨a1, a2, a3, a4, a5, a6, a7, a8⟩ := h
  exact ⟨a1, a2, a3, VRels.mono hm _ _ a4, a5, a6, a7, hm.mm _ _ a8⟩
theorem ORel.mono (hm : Mono g w g' w') {b : BObj} {base : Nat} {o : Obj} (h : ORel P g w b base o) : ORel P g' w' b base o := by
  cases b with
  | cells cs e s => simp only [ORel] at h ⊢; obtain ⟨c, lo, hi, rfl, ⟨vs, hv, hc⟩, hr⟩ := h; exact ⟨c, lo, hi, rfl, ⟨vs, VRels.mono hm _ _ hv, hc⟩, hr⟩
  | map es clock => simp only [ORel] at h ⊢; obtain ⟨rfl, es', rfl, he⟩ := h; exact ⟨rfl, es', rfl, he.mono hm⟩
  | mapIter r since seen st =>
    cases r with
    | none => simpa [ORel] using h
    | some r => simp only [ORel] at h ⊢; obtain ⟨rfl, blk, hb, rfl⟩ := h; exact ⟨rfl, blk, hm.mm _ _ hb, rfl⟩
  | strIter s pos => simpa [ORel] using h
  | loop b => simp only [ORel] at h ⊢; obtain ⟨rfl, l, rfl, hl⟩ := h; exact ⟨rfl, l, rfl, hl.mono hm⟩
  | deferred ds =>
    cases ds with
    | none => simpa [ORel] using h
    | some ds => simp only [ORel] at h ⊢; obtain ⟨rfl, ds', rfl, hd⟩ := h; exact ⟨rfl, ds', rfl, hd.mono hm⟩
end mono

/-! ### the trie -/
theorem cond_beq {α : Type} (n m : Nat) (a b : α) : cond (Nat.beq n m) a b = if n = m then a else b := by
  by_cases h : n = m
  · subst h; rw [if_pos rfl, Nat.beq_refl]; rfl
  · rw [if_neg h]
    cases e : Nat.beq n m with
    | true => exact absurd (Nat.eq_of_beq_eq_true e) h
    | false => rfl

theorem Tr.get_leaf {α : Type} (n : Nat) : Tr.get (.leaf : Tr α) n = none := rfl

theorem Tr.get_node {α : Type} (n : Nat) (v : Option α) (l r : Tr α) : Tr.get (.node v l r) n = if n = 0 then v else if n % 2 = 1 then Tr.get l (n / 2) else Tr.get r (n / 2 - 1) := by
  show cond (Nat.beq n 0) v (cond (Nat.beq (Nat.mod n 2) 1) (Tr.get l (Nat.div n 2)) (Tr.get r (Nat.sub (Nat.div n 2) 1))) = _
  simp only [cond_beq]; rfl

theorem Tr.setF_node {α : Type} (f n : Nat) (v : Option α) (l r : Tr α) (x : Option α) : Tr.setF (f + 1) (.node v l r) n x = if n = 0 then .node x l r else if n % 2 = 1 then .node v (Tr.setF f l (n / 2) x) r else .node v l (Tr.setF f r (n / 2 - 1) x) := by
  simp only [Tr.setF, cond_beq]; rfl

theorem Tr.setF_leaf {α : Type} (f n : Nat) (x : Option α) : Tr.setF (f + 1) .leaf n x = if n = 0 then .node x .leaf .leaf else if n % 2 = 1 then .node none (Tr.setF f .leaf (n / 2) x) .leaf else .node none .leaf (Tr.setF f .leaf (n / 2 - 1) x) := by
  simp only [Tr.setF, cond_beq]; rfl

theorem Tr.get_set {α : Type} : ∀ (f n : Nat) (t : Tr α) (x : Option α) (j : Nat), n < f → Tr.get (Tr.setF f t n x) j = if j = n then x else Tr.get t j := by
  intro f
  induction f with
  | zero => intro n t x j h; omega
  | succ f ih =>
    intro n t x j hn
    · cases t with
      | leaf =>
        rw [Tr.setF_leaf, Tr.get_leaf j]
        by_cases n0 : n = 0
        · subst n0; simp only [if_true, Tr.get_node]
          by_cases j0 : j = 0
          · simp [j0]
          · simp [j0, Tr.get_leaf]
        · rw [if_neg n0]
          by_cases nm : n % 2 = 1
          · rw [if_pos nm]
            simp only [Tr.get_node]
            by_cases j0 : j = 0
            · subst j0; rw [if_pos rfl, if_neg (by omega)]
            · rw [if_neg j0]
              by_cases jm : j % 2 = 1
              · rw [if_pos jm, ih (n / 2) .leaf x (j / 2) (by omega), Tr.get_leaf]
                by_cases e : j = n
                · subst e; simp
                · rw [if_neg e, if_neg (by omega)]
              · rw [if_neg jm, Tr.get_leaf, if_neg (by omega)]
          · rw [if_neg nm]
            simp only [Tr.get_node]
            by_cases j0 : j = 0
            · subst j0; rw [if_pos rfl, if_neg (by omega)]
            · rw [if_neg j0]
              by_cases jm : j % 2 = 1
              · rw [if_pos jm, Tr.get_leaf, if_neg (by omega)]
              · rw [if_neg jm, ih (n / 2 - 1) .leaf x (j / 2 - 1) (by omega), Tr.get_leaf]
                by_cases e : j = n
                · subst e; simp
                · rw [if_neg e, if_neg (by omega)]
      | node v l r =>
        rw [Tr.setF_node]
        by_cases n0 : n = 0
        · subst n0; simp only [if_true, Tr.get_node]
          by_cases j0 : j = 0
          · simp [j0]
          · simp [j0]
        · rw [if_neg n0]
          by_cases nm : n % 2 = 1
          · rw [if_pos nm]
            simp only [Tr.get_node]
            by_cases j0 : j = 0
            · subst j0; rw [if_pos rfl, if_neg (by omega), if_pos rfl]
            · rw [if_neg j0, if_neg j0]
              by_cases jm : j % 2 = 1
              · rw [if_pos jm, if_pos jm, ih (n / 2) l x (j / 2) (by omega)]
                by_cases e : j = n
                · subst e; simp
                · rw [if_neg e, if_neg (by omega)]
              · rw [if_neg jm, if_neg jm, if_neg (by omega)]
          · rw [if_neg nm]
            simp only [Tr.get_node]
            by_cases j0 : j = 0
            · subst j0; rw [if_pos rfl, if_neg (by omega), if_pos rfl]
            · rw [if_neg j0, if_neg j0]
              by_cases jm : j % 2 = 1
              · rw [if_pos jm, if_pos jm, if_neg (by omega)]
              · rw [if_neg jm, if_neg jm, ih (n / 2 - 1) r x (j / 2 - 1) (by omega)]
                by_cases e : j = n
                · subst e; simp
                · rw [if_neg e, if_neg (by omega)]

theorem BHeap.get_put (h : BHeap) (b : Nat) (o : Option BObj) (j : Nat) : (h.put b o).get j = if j = b then o else h.get j := by
  unfold BHeap.get BHeap.put
  exact Tr.get_set _ _ _ _ _ (by omega)

theorem BHeap.get_new (h : BHeap) (o : BObj) (j : Nat) : (h.new o).get j = if j = h.next then some o else h.get j := by
  unfold BHeap.get BHeap.new
  exact Tr.get_set _ _ _ _ _ (by omega)

@[simp] theorem BHeap.next_put (h : BHeap) (b : Nat) (o : Option BObj) : (h.put b o).next = h.next := rfl
@[simp] theorem BHeap.next_new (h : BHeap) (o : BObj) : (h.new o).next = h.next + 1 := rfl

/-! ### heaps -/
structure HRel (P : Program) (g : Gh) (h : BHeap) (w : World) : Prop where
  dom : ∀ b o, h.get b = some o → b < h.next
  lt : ∀ b x, g.m b = some x → b < h.next
  img : ∀ b blk base, g.m b = some (blk, base) → blk < w.heap.size
  inj : ∀ b b' blk base base' o o', h.get b = some o → h.get b' = some o' → g.m b = some (blk, base) → g.m b' = some (blk, base') → b = b'
  obj : ∀ b o blk base, h.get b = some o → g.m b = some (blk, base) → ¬ g.fz blk ∧ ∃ o', w.heap[blk]? = some o' ∧ ORel P g w o base o'
  fzlt : ∀ c, g.fz c → c < w.heap.size

/-- block c of memory is B's to write -/
def Owned (g : Gh) (h : BHeap) (c : Nat) : Prop := ∃ b o base, h.get b = some o ∧ g.m b = some (c, base)

structure Ext (g : Gh) (h : BHeap) (w : World) (g' : Gh) (h' : BHeap) (w' : World) : Prop where
  mono : Mono g w g' w'
  size : w.heap.size ≤ w'.heap.size
  kept : ∀ c, c < w.heap.size → ¬ Owned g h c → w'.heap[c]? = w.heap[c]?
  own : ∀ c, c < w.heap.size → Owned g' h' c → Owned g h c
  next : h.next ≤ h'.next
  os : w'.os = w.os ∧ w'.output = w.output ∧ w'.tape = w.tape

theorem Ext.refl (g : Gh) (h : BHeap) (w : World) : Ext g h w g h w := ⟨Mono.refl g w, Nat.le_refl _, fun _ _ _ => rfl, fun _ _ h => h, Nat.le_refl _, rfl, rfl, rfl⟩

theorem Ext.trans {g g' g'' : Gh} {h h' h'' : BHeap} {w w' w'' : World} (a : Ext g h w g' h' w') (b : Ext g' h' w' g'' h'' w'') : Ext g h w g'' h'' w'' where
  mono := a.mono.trans b.mono
  size := Nat.le_trans a.size b.size
  kept := fun c hc ho => (b.kept c (Nat.lt_of_lt_of_le hc a.size) (fun h => ho (a.own c hc h))).trans (a.kept c hc ho)
  own := fun c hc ho => a.own c hc (b.own c (Nat.lt_of_lt_of_le hc a.size) ho)
  next := Nat.le_trans a.next b.next
  os := ⟨b.os.1.trans a.os.1, b.os.2.1.trans a.os.2.1, b.os.2.2.trans a.os.2.2⟩

end Go.PB

set_option linter.unusedSimpArgs false
set_option linter.unusedVariables false
namespace Go.PB
open Go

section
variable {P : Program} {g : Gh} {h : BHeap} {w w' : World}

theorem shape?_of_heap {r : Nat} (e : w'.heap[r]? = w.heap[r]?) : w'.shape? r = w.shape? r := by simp [World.shape?, e]

theorem HRel.fz_not_owned (hr : HRel P g h w) {c : Nat} (hf : g.fz c) : ¬ Owned g h c := by
  rintro ⟨b, o, base, hb, hm⟩
  exact (hr.obj b o c base hb hm).1 hf

/-- a write into one block that is B's -/
theorem HRel.write (hr : HRel P g h w) {b blk base : Nat} {o o' : BObj} {co co' : Obj} (hb : h.get b = some o) (hm : g.m b = some (blk, base))
    (hco : w.heap[blk]? = some co) (hheap : w'.heap = w.heap.setIfInBounds blk co') (hos : w'.os = w.os ∧ w'.output = w.output ∧ w'.tape = w.tape)
    (hshape : ∀ s, w.shape? blk = some s → w'.shape? blk = some s)
    (ho : Mono g w g w' → ORel P g w' o' base co') :
    HRel P g (h.put b (some o')) w' ∧ Ext g h w g (h.put b (some o')) w' := by
  have hlt : blk < w.heap.size := hr.img b blk base hm
  have hother : ∀ c, c ≠ blk → w'.heap[c]? = w.heap[c]? := fun c hc => by
    rw [hheap, Array.getElem?_setIfInBounds_ne (by omega)]
  have hsame : w'.heap[blk]? = some co' := by rw [hheap, Array.getElem?_setIfInBounds_self_of_lt hlt]
  have hsz : w'.heap.size = w.heap.size := by rw [hheap]; simp
  have hnf : ¬ g.fz blk := (hr.obj b o blk base hb hm).1
  have hmono : Mono g w g w' := ⟨fun _ _ e => e, fun _ e => e, fun c hc => hother c (fun e => hnf (e ▸ hc)), fun c s hs => by
    by_cases e : c = blk
    · subst e; exact hshape s hs
    · rw [shape?_of_heap (hother c e)]; exact hs⟩
  have hown : ∀ c, Owned g (h.put b (some o')) c → Owned g h c := by
    rintro c ⟨b1, o1, base1, hb1, hm1⟩
    rw [BHeap.get_put] at hb1
    by_cases e : b1 = b
    · subst e; exact ⟨b1, o, base1, hb, hm1⟩
    · rw [if_neg e] at hb1; exact ⟨b1, o1, base1, hb1, hm1⟩
  refine ⟨⟨?_, ?_, ?_, ?_, ?_, ?_⟩, ⟨hmono, by omega, ?_, fun c _ hc => hown c hc, Nat.le_refl _, hos⟩⟩
  · intro b1 o1 h1
    rw [BHeap.get_put] at h1
    by_cases e : b1 = b
    · subst e; exact hr.dom _ _ hb
    · rw [if_neg e] at h1; exact hr.dom _ _ h1
  · exact fun b1 x h1 => hr.lt b1 x h1
  · intro b1 blk1 base1 h1; rw [hsz]; exact hr.img _ _ _ h1
  · intro b1 b2 blk1 base1 base2 o1 o2 h1 h2 m1 m2
    rw [BHeap.get_put] at h1 h2
    have g1 : ∃ o, h.get b1 = some o := by
      by_cases e : b1 = b
      · subst e; exact ⟨_, hb⟩
      · rw [if_neg e] at h1; exact ⟨_, h1⟩
    have g2 : ∃ o, h.get b2 = some o := by
      by_cases e : b2 = b
      · subst e; exact ⟨_, hb⟩
      · rw [if_neg e] at h2; exact ⟨_, h2⟩
    obtain ⟨_, g1⟩ := g1; obtain ⟨_, g2⟩ := g2
    exact hr.inj _ _ _ _ _ _ _ g1 g2 m1 m2
  · intro b1 o1 blk1 base1 h1 m1
    rw [BHeap.get_put] at h1
    by_cases e : b1 = b
    · subst e; rw [if_pos rfl] at h1; cases h1
      rw [hm] at m1; cases m1
      exact ⟨hnf, co', hsame, ho hmono⟩
    · rw [if_neg e] at h1
      obtain ⟨n1, o2, ho2, hr2⟩ := hr.obj _ _ _ _ h1 m1
      have hne : blk1 ≠ blk := fun ee => e (hr.inj _ _ _ _ _ _ _ h1 hb (ee ▸ m1) hm)
      exact ⟨n1, o2, (hother _ hne).trans ho2, hr2.mono hmono⟩
  · intro c hc; rw [hsz]; exact hr.fzlt c hc
  · intro c hc hno
    exact hother c (fun e => hno ⟨b, o, base, hb, e ▸ hm⟩)

def Gh.upd (g : Gh) (b blk base : Nat) : Gh := { g with m := fun x => if x = b then some (blk, base) else g.m x }

theorem Gh.upd_same (g : Gh) (b blk base : Nat) : (g.upd b blk base).m b = some (blk, base) := by simp [Gh.upd]
theorem Gh.upd_other (g : Gh) {b blk base x : Nat} (e : x ≠ b) : (g.upd b blk base).m x = g.m x := by simp [Gh.upd, e]

theorem Mono.push (hr : HRel P g h w) {b : Nat} (hm : g.m b = none) {co : Obj} (hheap : w'.heap = w.heap.push co) (base : Nat) :
    Mono g w (g.upd b w.heap.size base) w' :=
  ⟨fun b1 x h1 => by rw [Gh.upd_other g (fun e => by subst e; rw [hm] at h1; cases h1)]; exact h1, fun _ e => e,
    fun c hc => by rw [hheap]; have := hr.fzlt c hc; rw [Array.getElem?_push]; rw [if_neg (by omega)],
    fun c s hs => by
      have hc : c < w.heap.size := by
        unfold World.shape? at hs
        cases e : w.heap[c]? with
        | none => rw [e] at hs; cases hs
        | some _ => exact (Array.getElem?_eq_some_iff.1 e).1
      rw [shape?_of_heap (w := w)]
      · exact hs
      · rw [hheap, Array.getElem?_push, if_neg (by omega)]⟩

/-- a block that B has made is made -/
theorem HRel.real (hr : HRel P g h w) {b : Nat} {o : BObj} {co : Obj} (hb : h.get b = some o) (hm : g.m b = none)
    (hheap : w'.heap = w.heap.push co) (hos : w'.os = w.os ∧ w'.output = w.output ∧ w'.tape = w.tape)
    (ho : Mono g w (g.upd b w.heap.size 0) w' → ORel P (g.upd b w.heap.size 0) w' o 0 co) :
    HRel P (g.upd b w.heap.size 0) h w' ∧ Ext g h w (g.upd b w.heap.size 0) h w' := by
  have hmono := Mono.push hr hm hheap 0
  have hother : ∀ c, c < w.heap.size → w'.heap[c]? = w.heap[c]? := fun c hc => by rw [hheap, Array.getElem?_push, if_neg (by omega)]
  have hsz : w'.heap.size = w.heap.size + 1 := by rw [hheap]; simp
  refine ⟨⟨hr.dom, ?_, ?_, ?_, ?_, ?_⟩, ⟨hmono, by omega, fun c hc _ => hother c hc, ?_, Nat.le_refl _, hos⟩⟩
  · intro b1 x h1
    by_cases e : b1 = b
    · subst e; exact hr.dom _ _ hb
    · rw [Gh.upd_other g e] at h1; exact hr.lt _ _ h1
  · intro b1 blk1 base1 h1
    by_cases e : b1 = b
    · subst e; rw [Gh.upd_same] at h1; cases h1; omega
    · rw [Gh.upd_other g e] at h1; have := hr.img _ _ _ h1; omega
  · intro b1 b2 blk1 base1 base2 o1 o2 h1 h2 m1 m2
    by_cases e1 : b1 = b
    · subst e1
      by_cases e2 : b2 = b1
      · exact e2.symm
      · rw [Gh.upd_same] at m1; cases m1; rw [Gh.upd_other g e2] at m2; have := hr.img _ _ _ m2; omega
    · rw [Gh.upd_other g e1] at m1
      by_cases e2 : b2 = b
      · subst e2; rw [Gh.upd_same] at m2; cases m2; have := hr.img _ _ _ m1; omega
      · rw [Gh.upd_other g e2] at m2; exact hr.inj _ _ _ _ _ _ _ h1 h2 m1 m2
  · intro b1 o1 blk1 base1 h1 m1
    by_cases e : b1 = b
    · subst e; rw [Gh.upd_same] at m1; cases m1
      rw [hb] at h1; cases h1
      exact ⟨fun hf => by have := hr.fzlt _ hf; omega, co, by rw [hheap]; simp, ho hmono⟩
    · rw [Gh.upd_other g e] at m1
      obtain ⟨n1, o2, ho2, hr2⟩ := hr.obj _ _ _ _ h1 m1
      exact ⟨n1, o2, (hother _ (hr.img _ _ _ m1)).trans ho2, hr2.mono hmono⟩
  · intro c hc; have := hr.fzlt c hc; omega
  · rintro c hc ⟨b1, o1, base1, hb1, hm1⟩
    by_cases e : b1 = b
    · subst e; rw [Gh.upd_same] at hm1; cases hm1; omega
    · rw [Gh.upd_other g e] at hm1; exact ⟨b1, o1, base1, hb1, hm1⟩

theorem HRel.next_none (hr : HRel P g h w) : g.m h.next = none := by
  cases e : g.m h.next with
  | none => rfl
  | some x => exact absurd (hr.lt _ _ e) (Nat.lt_irrefl _)

/-- B makes a block that is not made yet -/
theorem HRel.newB (hr : HRel P g h w) (o : BObj) : HRel P g (h.new o) w ∧ Ext g h w g (h.new o) w := by
  have hget : ∀ b x, g.m b = some x → (h.new o).get b = h.get b := fun b x hb => by
    rw [BHeap.get_new, if_neg (fun e => by subst e; rw [hr.next_none] at hb; cases hb)]
  refine ⟨⟨?_, ?_, hr.img, ?_, ?_, hr.fzlt⟩, ⟨Mono.refl g w, Nat.le_refl _, fun _ _ _ => rfl, ?_, by simp, rfl, rfl, rfl⟩⟩
  · intro b o1 h1
    rw [BHeap.get_new] at h1
    by_cases e : b = h.next
    · subst e; simp
    · rw [if_neg e] at h1; have := hr.dom _ _ h1; simp; omega
  · intro b x hb; have := hr.lt _ _ hb; simp; omega
  · intro b b' blk base base' o1 o2 h1 h2 m1 m2
    rw [hget _ _ m1] at h1; rw [hget _ _ m2] at h2
    exact hr.inj _ _ _ _ _ _ _ h1 h2 m1 m2
  · intro b o1 blk base h1 m1
    rw [hget _ _ m1] at h1
    exact hr.obj _ _ _ _ h1 m1
  · rintro c _ ⟨b1, o1, base1, hb1, hm1⟩
    rw [hget _ _ hm1] at hb1
    exact ⟨b1, o1, base1, hb1, hm1⟩

/-- B gives a block up -/
theorem HRel.drop (hr : HRel P g h w) (b : Nat) : HRel P g (h.put b none) w ∧ Ext g h w g (h.put b none) w := by
  have hget : ∀ b1 o, (h.put b none).get b1 = some o → h.get b1 = some o := fun b1 o h1 => by
    rw [BHeap.get_put] at h1
    by_cases e : b1 = b
    · rw [if_pos e] at h1; cases h1
    · rwa [if_neg e] at h1
  refine ⟨⟨fun b1 o h1 => hr.dom _ _ (hget _ _ h1), hr.lt, hr.img, ?_, ?_, hr.fzlt⟩, ⟨Mono.refl g w, Nat.le_refl _, fun _ _ _ => rfl, ?_, Nat.le_refl _, rfl, rfl, rfl⟩⟩
  · intro b1 b2 blk base base' o1 o2 h1 h2 m1 m2
    exact hr.inj _ _ _ _ _ _ _ (hget _ _ h1) (hget _ _ h2) m1 m2
  · intro b1 o1 blk base h1 m1; exact hr.obj _ _ _ _ (hget _ _ h1) m1
  · rintro c _ ⟨b1, o1, base1, hb1, hm1⟩; exact ⟨b1, o1, base1, hget _ _ hb1, hm1⟩

/-- only draws, nothing in memory -/
theorem HRel.same (hr : HRel P g h w) (hheap : w'.heap = w.heap) (hos : w'.os = w.os ∧ w'.output = w.output ∧ w'.tape = w.tape) : HRel P g h w' ∧ Ext g h w g h w' := by
  have hmono : Mono g w g w' := ⟨fun _ _ e => e, fun _ e => e, fun c _ => by rw [hheap], fun c s hs => by rw [shape?_of_heap (w := w) (by rw [hheap])]; exact hs⟩
  refine ⟨⟨hr.dom, hr.lt, fun b x y e => by rw [hheap]; exact hr.img b x y e, hr.inj, ?_, fun c hc => by rw [hheap]; exact hr.fzlt c hc⟩,
    ⟨hmono, by rw [hheap]; exact Nat.le_refl _, fun c _ _ => by rw [hheap], fun _ _ e => e, Nat.le_refl _, hos⟩⟩
  intro b o blk base h1 m1
  obtain ⟨n, o', ho, hr'⟩ := hr.obj _ _ _ _ h1 m1
  exact ⟨n, o', by rw [hheap]; exact ho, hr'.mono hmono⟩

/-- a block that is B's goes on under another name: b is given up, b' (new) names the same memory from 'off' on, now holding co' -/
theorem HRel.move (hr : HRel P g h w) {b blk base off : Nat} {o o' : BObj} {co co' : Obj} (hb : h.get b = some o) (hm : g.m b = some (blk, base))
    (hco : w.heap[blk]? = some co) (hheap : w'.heap = w.heap.setIfInBounds blk co') (hos : w'.os = w.os ∧ w'.output = w.output ∧ w'.tape = w.tape)
    (hshape : ∀ s, w.shape? blk = some s → w'.shape? blk = some s)
    (ho : Mono g w (g.upd h.next blk (base + off)) w' → ORel P (g.upd h.next blk (base + off)) w' o' (base + off) co') :
    HRel P (g.upd h.next blk (base + off)) ((h.put b none).new o') w' ∧ Ext g h w (g.upd h.next blk (base + off)) ((h.put b none).new o') w' := by
  have hn : g.m h.next = none := hr.next_none
  have hlt : blk < w.heap.size := hr.img b blk base hm
  have hother : ∀ c, c ≠ blk → w'.heap[c]? = w.heap[c]? := fun c hc => by
    rw [hheap, Array.getElem?_setIfInBounds_ne (by omega)]
  have hsame : w'.heap[blk]? = some co' := by rw [hheap, Array.getElem?_setIfInBounds_self_of_lt hlt]
  have hsz : w'.heap.size = w.heap.size := by rw [hheap]; simp
  have hnf : ¬ g.fz blk := (hr.obj b o blk base hb hm).1
  have hbn : b ≠ h.next := fun e => by rw [e, hn] at hm; cases hm
  have hmono : Mono g w (g.upd h.next blk (base + off)) w' := ⟨fun b1 x h1 => by rw [Gh.upd_other g (fun e => by subst e; rw [hn] at h1; cases h1)]; exact h1, fun _ e => e,
    fun c hc => hother c (fun e => hnf (e ▸ hc)), fun c s hs => by
    by_cases e : c = blk
    · subst e; exact hshape s hs
    · rw [shape?_of_heap (hother c e)]; exact hs⟩
  have hget : ∀ b1 o1, ((h.put b none).new o').get b1 = some o1 → b1 ≠ h.next → b1 ≠ b ∧ h.get b1 = some o1 := fun b1 o1 h1 e => by
    rw [BHeap.get_new, if_neg (by simpa using e), BHeap.get_put] at h1
    by_cases e1 : b1 = b
    · rw [if_pos e1] at h1; cases h1
    · rw [if_neg e1] at h1; exact ⟨e1, h1⟩
  have hown : ∀ c, Owned (g.upd h.next blk (base + off)) ((h.put b none).new o') c → Owned g h c := by
    rintro c ⟨b1, o1, base1, hb1, hm1⟩
    by_cases e : b1 = h.next
    · subst e; rw [Gh.upd_same] at hm1; cases hm1; exact ⟨b, o, base, hb, hm⟩
    · rw [Gh.upd_other g e] at hm1; exact ⟨b1, o1, base1, (hget _ _ hb1 e).2, hm1⟩
  refine ⟨⟨?_, ?_, ?_, ?_, ?_, ?_⟩, ⟨hmono, by omega, ?_, fun c _ hc => hown c hc, by simp, hos⟩⟩
  · intro b1 o1 h1
    by_cases e : b1 = h.next
    · subst e; simp
    · have := hr.dom _ _ (hget _ _ h1 e).2; simp; omega
  · intro b1 x h1
    by_cases e : b1 = h.next
    · subst e; simp
    · rw [Gh.upd_other g e] at h1; have := hr.lt _ _ h1; simp; omega
  · intro b1 blk1 base1 h1
    rw [hsz]
    by_cases e : b1 = h.next
    · subst e; rw [Gh.upd_same] at h1; cases h1; exact hlt
    · rw [Gh.upd_other g e] at h1; exact hr.img _ _ _ h1
  · intro b1 b2 blk1 base1 base2 o1 o2 h1 h2 m1 m2
    by_cases e1 : b1 = h.next
    · subst e1
      by_cases e2 : b2 = h.next
      · exact e2.symm
      · rw [Gh.upd_same] at m1; cases m1; rw [Gh.upd_other g e2] at m2
        obtain ⟨n2, g2⟩ := hget _ _ h2 e2
        exact absurd (hr.inj _ _ _ _ _ _ _ g2 hb m2 hm) n2
    · rw [Gh.upd_other g e1] at m1
      obtain ⟨n1, g1⟩ := hget _ _ h1 e1
      by_cases e2 : b2 = h.next
      · subst e2; rw [Gh.upd_same] at m2; cases m2
        exact absurd (hr.inj _ _ _ _ _ _ _ g1 hb m1 hm) n1
      · rw [Gh.upd_other g e2] at m2; exact hr.inj _ _ _ _ _ _ _ g1 (hget _ _ h2 e2).2 m1 m2
  · intro b1 o1 blk1 base1 h1 m1
    by_cases e : b1 = h.next
    · subst e; rw [Gh.upd_same] at m1; cases m1
      rw [BHeap.get_new, if_pos (by simp)] at h1; cases h1
      exact ⟨hnf, co', hsame, ho hmono⟩
    · rw [Gh.upd_other g e] at m1
      obtain ⟨n1, g1⟩ := hget _ _ h1 e
      obtain ⟨f1, o2, ho2, hr2⟩ := hr.obj _ _ _ _ g1 m1
      have hne : blk1 ≠ blk := fun ee => n1 (hr.inj _ _ _ _ _ _ _ g1 hb (ee ▸ m1) hm)
      exact ⟨f1, o2, (hother _ hne).trans ho2, hr2.mono hmono⟩
  · intro c hc; rw [hsz]; exact hr.fzlt c hc
  · intro c hc hno
    exact hother c (fun e => hno ⟨b, o, base, hb, e ▸ hm⟩)
end

/-! ### cells in a row -/
def setMany (c : Array Value) (k : Nat) : List Value → Array Value
  | [] => c
  | v :: r => setMany (c.setIfInBounds k v) (k + 1) r

@[simp] theorem setMany_size (c : Array Value) (k : Nat) (vs : List Value) : (setMany c k vs).size = c.size := by
  induction vs generalizing c k with
  | nil => rfl
  | cons v r ih => simp [setMany, ih]

theorem setMany_get (vs : List Value) : ∀ (c : Array Value) (k j : Nat), k + vs.length ≤ c.size → (setMany c k vs)[j]? = if k ≤ j ∧ j < k + vs.length then vs[j - k]? else c[j]? := by
  induction vs with
  | nil => intro c k j _; simp only [setMany, List.length_nil, Nat.add_zero]; rw [if_neg (by omega)]
  | cons v r ih =>
    intro c k j hk
    simp only [List.length_cons] at hk
    simp only [setMany]
    rw [ih _ _ _ (by simp; omega)]
    by_cases h1 : k + 1 ≤ j ∧ j < k + 1 + r.length
    · rw [if_pos h1, if_pos (by simp only [List.length_cons]; omega)]
      rw [show j - k = (j - (k + 1)) + 1 by omega, List.getElem?_cons_succ]
    · rw [if_neg h1]
      by_cases h2 : j = k
      · subst h2; rw [if_pos (by simp only [List.length_cons]; omega), Array.getElem?_setIfInBounds_self_of_lt (by omega)]; simp
      · rw [Array.getElem?_setIfInBounds_ne (by omega), if_neg (by simp only [List.length_cons]; omega)]

def _root_.Go.World.putBlk (w : World) (r : Nat) (o : Obj) : World := { w with heap := w.heap.setIfInBounds r o }

theorem setCell_eq {w : World} {blk off : Nat} {c : Array Value} {e : TypeId} {fr : Nat × Nat} (h : w.heap[blk]? = some (.cells c e fr)) (v : Value) :
    w.setCell ⟨blk, off, none⟩ v = w.putBlk blk (.cells (c.setIfInBounds off v) e fr) := by
  obtain ⟨hlt, hc⟩ := Array.getElem?_eq_some_iff.1 h
  unfold World.setCell World.putBlk
  congr 1
  apply Array.ext_getElem?
  intro i
  rw [Array.getElem?_modify]
  by_cases e : blk = i
  · subst e; rw [if_pos rfl, Array.getElem?_setIfInBounds_self_of_lt hlt, h]; rfl
  · rw [if_neg e, Array.getElem?_setIfInBounds_ne e]

theorem putBlk_putBlk (w : World) (r : Nat) (o o' : Obj) : (w.putBlk r o).putBlk r o' = w.putBlk r o' := by
  unfold World.putBlk
  congr 1
  apply Array.ext_getElem?
  intro i
  by_cases e : r = i
  · subst e; simp [Array.getElem?_setIfInBounds]
  · simp [e]

theorem putBlk_heap_same {w : World} {r : Nat} {o' : Obj} (h : r < w.heap.size) : (w.putBlk r o').heap[r]? = some o' := by
  unfold World.putBlk; exact Array.getElem?_setIfInBounds_self_of_lt h

theorem run_storeCells_row {P : Program} (blk off : Nat) (e : TypeId) (lo hi : Nat) : ∀ (vs : List Value) (i : Nat) (c : Array Value) (w : World),
    w.heap[blk]? = some (.cells c e (lo, hi)) → off + i + vs.length ≤ c.size → (∀ v ∈ vs, v.oneCell' = true) → (∀ j, j < c.size → ¬ (lo ≤ j ∧ j < hi)) →
    (storeCells ⟨blk, off, none⟩ vs i).run P w = .ok () (w.putBlk blk (.cells (setMany c (off + i) vs) e (lo, hi))) := by
  intro vs
  induction vs with
  | nil =>
    intro i c w h _ _ _
    simp only [storeCells, Sem.run_pure, setMany]
    congr 1
    unfold World.putBlk
    obtain ⟨hlt, hc⟩ := Array.getElem?_eq_some_iff.1 h
    have : w.heap.setIfInBounds blk (.cells c e (lo, hi)) = w.heap := by
      apply Array.ext_getElem?
      intro j
      by_cases ej : blk = j
      · subst ej; rw [Array.getElem?_setIfInBounds_self_of_lt hlt, h]
      · rw [Array.getElem?_setIfInBounds_ne ej]
    rw [this]
  | cons v r ih =>
    intro i c w h hb ho hf
    simp only [List.length_cons] at hb
    have hlt := (Array.getElem?_eq_some_iff.1 h).1
    have ha : (Addr.add ⟨blk, off, none⟩ i) = ⟨blk, off + i, none⟩ := by
      unfold Addr.add; by_cases hi : i = 0
      · subst hi; simp
      · simp [hi]
    have hcell : w.cell? ⟨blk, off + i, none⟩ = some (c[off + i]'(by omega)) := by
      simp [World.cell?, h, show off + i < c.size by omega]
    have hfr : w.frozen? ⟨blk, off + i, none⟩ = false := by
      have := hf (off + i) (by omega)
      simp only [World.frozen?, h]
      simpa using this
    simp only [storeCells, Sem.run_bind, ha, run_store P w _ v _ (ho v (by simp)), hcell, hfr, Bool.false_eq_true, if_false, Result.andThen_ok]
    rw [setCell_eq h, ih (i + 1) (c.setIfInBounds (off + i) v) _ (putBlk_heap_same hlt) (by simp; omega) (fun v hv => ho v (by simp [hv])) (by simpa using hf), putBlk_putBlk]
    simp only [setMany, Nat.add_assoc]

theorem run_loadCells_at {P : Program} {w : World} {blk off n : Nat} (vs : List Value) (hn : vs.length = n) (h : CellsAt w blk off vs) :
    (loadCells ⟨blk, off, none⟩ n).run P w = .ok vs.toArray w := by
  subst hn
  refine run_loadCells_list w _ vs fun j v hj => ?_
  have : (Addr.add ⟨blk, off, none⟩ j) = ⟨blk, off + j, none⟩ := by
    unfold Addr.add; by_cases hi : j = 0
    · subst hi; simp
    · simp [hi]
  rw [this]; exact h j v hj

theorem addr_add (blk off n : Nat) : (Addr.add ⟨blk, off, none⟩ n) = ⟨blk, off + n, none⟩ := by
  unfold Addr.add; by_cases hi : n = 0
  · subst hi; simp
  · simp [hi]

end Go.PB

