/- The relation between machine B and the model's machine: values, objects, heaps; how it is kept. -/
import Derived.Test.YthjdcddpoihcdaaGreatDoorPosB
import Derived.Control
import Derived.Lone
set_option linter.unusedSimpArgs false
set_option linter.unusedVariables false
namespace Go.PB
open Go

structure Gh where
  m : Nat → Option (Nat × Nat)
  fz : Nat → Prop

def capOk : Option Nat → Nat → Nat → Prop
  | some k, _, c => c = k
  | none, len, c => len ≤ c

/-- the cells of block blk from off on are these -/
def CellsAt (w : World) (blk off : Nat) (vs : List Value) : Prop := ∀ i x, vs[i]? = some x → w.cell? ⟨blk, off + i, none⟩ = some x

/-- behind an open slice lies all the rest of its block -/
def Tail (P : Program) (w : World) (blk off c : Nat) : Prop := ∃ e n, w.shape? blk = some (e, n) ∧ off + c * P.cellsOf e = n

mutual
def VRel (P : Program) (g : Gh) (w : World) : BV → Value → Prop
  | .junk, _ => True
  | .any, v => v.cells = #[v] ∧ (∀ cs, v ≠ .agg cs) ∧ ∀ cs, v ≠ .tuple cs
  | .bool b, v => v = .bool b
  | .int k n, v => v = .int k n
  | .str s, v => v = .string ⟨s.toArray⟩
  | .nilp, v => v = .pointer none
  | .ptr b off, v => ∃ blk base, g.m b = some (blk, base) ∧ v = .pointer (some ⟨blk, base + off, none⟩)
  | .rptr cs, v => ∃ blk off, v = .pointer (some ⟨blk, off, none⟩) ∧ g.fz blk ∧ ∃ vs, VRels P g w cs vs ∧ CellsAt w blk off vs
  | .nils, v => v = .slice none 0 0
  | .eslice, v => ∃ a c, v = .slice (some a) 0 c
  | .slice b off len cap, v => ∃ blk base c, g.m b = some (blk, base) ∧ v = .slice (some ⟨blk, base + off, none⟩) len c ∧ capOk cap len c ∧ (cap = none → Tail P w blk (base + off) c)
  | .rslice cs len cap, v => ∃ blk off c, v = .slice (some ⟨blk, off, none⟩) len c ∧ g.fz blk ∧ capOk cap len c ∧ ∃ vs, VRels P g w cs vs ∧ CellsAt w blk off vs
  | .nilm, v => v = .map none
  | .map b, v => ∃ blk, g.m b = some (blk, 0) ∧ v = .map (some blk)
  | .func fn a c, v => ∃ a' c', v = .func fn a' c' ∧ VRels P g w a a'.toList ∧ VRels P g w c c'.toList
  | .yield l, v => ∃ blk, g.m l = some (blk, 0) ∧ v = .func (.yield blk) #[] #[]
  | .nilf, v => v = .nilFunc
  | .iface t x, v => ∃ x', v = .iface t x' ∧ VRel P g w x x'
  | .nili, v => v = .nilIface
  | .agg cs, v => ∃ vs, v = .agg vs ∧ VRels P g w cs vs.toList
  | .tuple cs, v => ∃ vs, v = .tuple vs ∧ VRels P g w cs vs.toList
def VRels (P : Program) (g : Gh) (w : World) : List BV → List Value → Prop
  | [], vs => vs = []
  | b :: bs, vs => ∃ v vr, vs = v :: vr ∧ VRel P g w b v ∧ VRels P g w bs vr
end

section lists
variable {P : Program} {g : Gh} {w : World}

theorem VRels.length {bs : List BV} : ∀ {vs : List Value}, VRels P g w bs vs → vs.length = bs.length := by
  induction bs with
  | nil => intro vs h; simp [VRels] at h; simp [h]
  | cons b bs ih => intro vs h; simp only [VRels] at h; obtain ⟨v, vr, rfl, _, h⟩ := h; simp [ih h]

theorem VRels.get {bs : List BV} : ∀ {vs : List Value}, VRels P g w bs vs → ∀ {i : Nat} {b : BV}, bs[i]? = some b → ∃ v, vs[i]? = some v ∧ VRel P g w b v := by
  induction bs with
  | nil => intro vs _ i b h; simp at h
  | cons x bs ih =>
    intro vs h i b hb
    simp only [VRels] at h
    obtain ⟨v, vr, rfl, hv, hr⟩ := h
    cases i with
    | zero => simp at hb; subst hb; exact ⟨v, by simp, hv⟩
    | succ i => simp at hb; obtain ⟨u, hu, hr'⟩ := ih hr hb; exact ⟨u, by simpa using hu, hr'⟩

theorem VRels.get' {bs : List BV} {vs : List Value} (h : VRels P g w bs vs) {i : Nat} {v : Value} (hv : vs[i]? = some v) : ∃ b, bs[i]? = some b ∧ VRel P g w b v := by
  have hl := h.length
  have hi : i < bs.length := by have := (List.getElem?_eq_some_iff.1 hv).1; omega
  obtain ⟨u, hu, hr⟩ := h.get (List.getElem?_eq_getElem hi)
  rw [hv] at hu; cases hu
  exact ⟨_, List.getElem?_eq_getElem hi, hr⟩

theorem VRels.of_get {bs : List BV} : ∀ {vs : List Value}, vs.length = bs.length → (∀ (i : Nat) b v, bs[i]? = some b → vs[i]? = some v → VRel P g w b v) → VRels P g w bs vs := by
  induction bs with
  | nil => intro vs hl _; simp at hl; simp [VRels, hl]
  | cons b bs ih =>
    intro vs hl h
    cases vs with
    | nil => simp at hl
    | cons v vr =>
      simp only [VRels]
      exact ⟨v, vr, rfl, h 0 b v (by simp) (by simp), ih (by simpa using hl) fun i b' v' hb hv => h (i + 1) b' v' (by simpa using hb) (by simpa using hv)⟩

theorem VRels.append {as bs : List BV} {us vs : List Value} (h : VRels P g w as us) (k : VRels P g w bs vs) : VRels P g w (as ++ bs) (us ++ vs) := by
  refine VRels.of_get (by simp [h.length, k.length]) fun i b v hb hv => ?_
  rw [List.getElem?_append] at hb hv
  rw [h.length] at hv
  split at hb
  · rename_i hlt; rw [if_pos hlt] at hv; obtain ⟨v', h1, h2⟩ := h.get hb; rw [h1] at hv; cases hv; exact h2
  · rename_i hlt; rw [if_neg hlt] at hv; obtain ⟨v', h1, h2⟩ := k.get hb; rw [h1] at hv; cases hv; exact h2

theorem VRels.take {bs : List BV} {vs : List Value} (n : Nat) (h : VRels P g w bs vs) : VRels P g w (bs.take n) (vs.take n) := by
  refine VRels.of_get (by simp [h.length]) fun i b v hb hv => ?_
  rw [List.getElem?_take] at hb hv
  split at hb
  · rename_i hlt; rw [if_pos hlt] at hv; obtain ⟨v', h1, h2⟩ := h.get hb; rw [h1] at hv; cases hv; exact h2
  · cases hb

theorem VRels.drop {bs : List BV} {vs : List Value} (n : Nat) (h : VRels P g w bs vs) : VRels P g w (bs.drop n) (vs.drop n) := by
  refine VRels.of_get (by simp [h.length]) fun i b v hb hv => ?_
  rw [List.getElem?_drop] at hb hv
  obtain ⟨v', h1, h2⟩ := h.get hb; rw [h1] at hv; cases hv; exact h2

theorem VRels.set {bs : List BV} {vs : List Value} {b : BV} {v : Value} (n : Nat) (h : VRels P g w bs vs) (hv : VRel P g w b v) : VRels P g w (bs.set n b) (vs.set n v) := by
  refine VRels.of_get (by simp [h.length]) fun i b' v' hb hv' => ?_
  rw [List.getElem?_set] at hb hv'
  split at hb
  · rename_i e; subst e
    split at hb
    · simp at hb; subst hb; rename_i hlt; rw [if_pos rfl, if_pos (by rw [h.length]; exact hlt)] at hv'; cases hv'; exact hv
    · cases hb
  · rename_i e; rw [if_neg e] at hv'; obtain ⟨u, h1, h2⟩ := h.get hb; rw [h1] at hv'; cases hv'; exact h2

theorem VRels.map {α : Type} {l : List α} {f : α → BV} {f' : α → Value} (h : ∀ a ∈ l, VRel P g w (f a) (f' a)) : VRels P g w (l.map f) (l.map f') := by
  induction l with
  | nil => simp [VRels]
  | cons a l ih =>
    simp only [List.map_cons, VRels]
    exact ⟨_, _, rfl, h a (by simp), ih fun b hb => h b (by simp [hb])⟩

theorem VRels.replicate {b : BV} {v : Value} (h : VRel P g w b v) (n : Nat) : VRels P g w (List.replicate n b) (List.replicate n v) := by
  refine VRels.of_get (by simp) fun i b' v' hb hv => ?_
  rw [List.getElem?_replicate] at hb hv
  split at hb
  · rename_i hlt; rw [if_pos hlt] at hv; cases hb; cases hv; exact h
  · cases hb

theorem VRels.cons {b : BV} {v : Value} {bs : List BV} {vs : List Value} (h : VRel P g w b v) (k : VRels P g w bs vs) : VRels P g w (b :: bs) (v :: vs) := by
  simp only [VRels]; exact ⟨v, vs, rfl, h, k⟩

theorem VRels.nil : VRels P g w [] [] := by simp [VRels]

theorem VRels.one {b : BV} {vs : List Value} (h : VRels P g w [b] vs) : ∃ v, vs = [v] ∧ VRel P g w b v := by
  simp only [VRels] at h; obtain ⟨v, vr, rfl, hv, rfl⟩ := h; exact ⟨v, rfl, hv⟩

theorem VRels.two {a b : BV} {vs : List Value} (h : VRels P g w [a, b] vs) : ∃ u v, vs = [u, v] ∧ VRel P g w a u ∧ VRel P g w b v := by
  simp only [VRels] at h; obtain ⟨u, vr, rfl, hu, v, vr', rfl, hv, rfl⟩ := h; exact ⟨u, v, rfl, hu, hv⟩

theorem VRel.undef : VRel P g w BV.undef Go.undef := by
  simp only [BV.undef, Go.undef, VRel]; exact ⟨#[], rfl, VRels.nil⟩

/-- a value that is one cell -/
theorem VRel.one {b : BV} {v : Value} (h : VRel P g w b v) (ho : b.one = true) : v.cells = #[v] ∧ (∀ cs, v ≠ .agg cs) ∧ ∀ cs, v ≠ .tuple cs := by
  cases b <;> simp only [BV.one, Bool.false_eq_true] at ho <;> simp only [VRel] at h
  case ptr => obtain ⟨_, _, _, rfl⟩ := h; simp [Value.cells]
  case rptr => obtain ⟨_, _, rfl, _⟩ := h; simp [Value.cells]
  case eslice => obtain ⟨_, _, rfl⟩ := h; simp [Value.cells]
  case slice => obtain ⟨_, _, _, _, rfl, _⟩ := h; simp [Value.cells]
  case rslice => obtain ⟨_, _, _, rfl, _⟩ := h; simp [Value.cells]
  case map => obtain ⟨_, _, rfl⟩ := h; simp [Value.cells]
  case func => obtain ⟨_, _, rfl, _⟩ := h; simp [Value.cells]
  case yield => obtain ⟨_, _, rfl⟩ := h; simp [Value.cells]
  case iface => obtain ⟨_, rfl, _⟩ := h; simp [Value.cells]
  case any => exact h
  all_goals (subst h; simp [Value.cells])

/-- the cells of a value whose cells are each one cell -/
theorem VRel.cells {b : BV} {v : Value} (h : VRel P g w b v) (ho : b.cells.all BV.one = true) : VRels P g w b.cells v.cells.toList := by
  by_cases hb : ∃ cs, b = .agg cs
  · obtain ⟨cs, rfl⟩ := hb
    simp only [VRel] at h; obtain ⟨vs, rfl, h⟩ := h
    simpa [BV.cells, Value.cells] using h
  · have e : b.cells = [b] := by cases b <;> first | rfl | (exact absurd ⟨_, rfl⟩ hb)
    rw [e] at ho ⊢
    have ho' : b.one = true := by simpa using ho
    rw [(h.one ho').1]
    exact VRels.cons h VRels.nil
end lists

/-! ### what is kept from world to world -/
structure Mono (g : Gh) (w : World) (g' : Gh) (w' : World) : Prop where
  mm : ∀ b x, g.m b = some x → g'.m b = some x
  mf : ∀ c, g.fz c → g'.fz c
  mc : ∀ c, g.fz c → w'.heap[c]? = w.heap[c]?
  ms : ∀ c s, w.shape? c = some s → w'.shape? c = some s

theorem Mono.refl (g : Gh) (w : World) : Mono g w g w := ⟨fun _ _ h => h, fun _ h => h, fun _ _ => rfl, fun _ _ h => h⟩
theorem Mono.trans {g g' g'' : Gh} {w w' w'' : World} (h : Mono g w g' w') (k : Mono g' w' g'' w'') : Mono g w g'' w'' :=
  ⟨fun b x e => k.mm b x (h.mm b x e), fun c e => k.mf c (h.mf c e), fun c e => (k.mc c (h.mf c e)).trans (h.mc c e), fun c s e => k.ms c s (h.ms c s e)⟩

theorem cell?_of_heap {w w' : World} {b off : Nat} (h : w'.heap[b]? = w.heap[b]?) : w'.cell? ⟨b, off, none⟩ = w.cell? ⟨b, off, none⟩ := by
  simp [World.cell?, h]

theorem Mono.cellsAt {g g' : Gh} {w w' : World} (h : Mono g w g' w') {blk off : Nat} {vs : List Value} (hf : g.fz blk) (hc : CellsAt w blk off vs) : CellsAt w' blk off vs := by
  intro i x hi
  rw [cell?_of_heap (h.mc blk hf)]; exact hc i x hi

mutual
theorem VRel.mono {P : Program} {g g' : Gh} {w w' : World} (hm : Mono g w g' w') : ∀ (b : BV) (v : Value), VRel P g w b v → VRel P g' w' b v
  | .junk, _, _ => by simp [VRel]
  | .any, v, h => by simp only [VRel] at h ⊢; exact h
  | .bool _, _, h => by simpa [VRel] using h
  | .int _ _, _, h => by simpa [VRel] using h
  | .str _, _, h => by simpa [VRel] using h
  | .nilp, _, h => by simpa [VRel] using h
  | .ptr b off, v, h => by
    simp only [VRel] at h ⊢; obtain ⟨blk, base, hb, rfl⟩ := h; exact ⟨blk, base, hm.mm _ _ hb, rfl⟩
  | .rptr cs, v, h => by
    simp only [VRel] at h ⊢; obtain ⟨blk, off, rfl, hf, vs, hv, hc⟩ := h
    exact ⟨blk, off, rfl, hm.mf _ hf, vs, VRels.mono hm cs vs hv, hm.cellsAt hf hc⟩
  | .nils, _, h => by simpa [VRel] using h
  | .eslice, _, h => by simpa [VRel] using h
  | .slice b off len cap, v, h => by
    simp only [VRel] at h ⊢; obtain ⟨blk, base, c, hb, rfl, hcap, ht⟩ := h
    refine ⟨blk, base, c, hm.mm _ _ hb, rfl, hcap, fun e => ?_⟩
    obtain ⟨e', n, hs, hn⟩ := ht e
    exact ⟨e', n, hm.ms _ _ hs, hn⟩
  | .rslice cs len cap, v, h => by
    simp only [VRel] at h ⊢; obtain ⟨blk, off, c, rfl, hf, hcap, vs, hv, hc⟩ := h
    exact ⟨blk, off, c, rfl, hm.mf _ hf, hcap, vs, VRels.mono hm cs vs hv, hm.cellsAt hf hc⟩
  | .nilm, _, h => by simpa [VRel] using h
  | .map b, v, h => by
    simp only [VRel] at h ⊢; obtain ⟨blk, hb, rfl⟩ := h; exact ⟨blk, hm.mm _ _ hb, rfl⟩
  | .func fn a c, v, h => by
    simp only [VRel] at h ⊢; obtain ⟨a', c', rfl, ha, hc⟩ := h
    exact ⟨a', c', rfl, VRels.mono hm a _ ha, VRels.mono hm c _ hc⟩
  | .yield l, v, h => by
    simp only [VRel] at h ⊢; obtain ⟨blk, hb, rfl⟩ := h; exact ⟨blk, hm.mm _ _ hb, rfl⟩
  | .nilf, _, h => by simpa [VRel] using h
  | .iface t x, v, h => by
    simp only [VRel] at h ⊢; obtain ⟨x', rfl, hx⟩ := h; exact ⟨x', rfl, VRel.mono hm x x' hx⟩
  | .nili, _, h => by simpa [VRel] using h
  | .agg cs, v, h => by
    simp only [VRel] at h ⊢; obtain ⟨vs, rfl, hv⟩ := h; exact ⟨vs, rfl, VRels.mono hm cs _ hv⟩
  | .tuple cs, v, h => by
    simp only [VRel] at h ⊢; obtain ⟨vs, rfl, hv⟩ := h; exact ⟨vs, rfl, VRels.mono hm cs _ hv⟩
theorem VRels.mono {P : Program} {g g' : Gh} {w w' : World} (hm : Mono g w g' w') : ∀ (bs : List BV) (vs : List Value), VRels P g w bs vs → VRels P g' w' bs vs
  | [], _, h => by simpa [VRels] using h
  | b :: bs, vs, h => by
    simp only [VRels] at h ⊢; obtain ⟨v, vr, rfl, hv, hr⟩ := h
    exact ⟨v, vr, rfl, VRel.mono hm b v hv, VRels.mono hm bs vr hr⟩
end

/-! ### objects -/
def TgRel (P : Program) (g : Gh) (w : World) : BTarget → Target → Prop
  | .fn fn c, t => ∃ c', t = .fn fn c' ∧ VRels P g w c c'.toList
  | .yield l, t => ∃ blk, g.m l = some (blk, 0) ∧ t = .fn (.yield blk) #[]
  | .nil, t => t = .nil
  | .builtin b ts t' cs, t => t = .builtin b ts t' cs
  | .collected r, t => ∃ blk, g.m r = some (blk, 0) ∧ t = .collected blk

def DRel (P : Program) (g : Gh) (w : World) (b : BDef) (d : Deferred) : Prop :=
  TgRel P g w b.target d.target ∧ VRels P g w b.args d.args.toList

def DRels (P : Program) (g : Gh) (w : World) : List BDef → List Deferred → Prop
  | [], ds => ds = []
  | b :: bs, ds => ∃ d dr, ds = d :: dr ∧ DRel P g w b d ∧ DRels P g w bs dr

def ERel (P : Program) (g : Gh) (w : World) (b : BEntry) (e : MapEntry) : Prop :=
  VRel P g w b.key e.key ∧ VRel P g w b.val e.val ∧ b.born = e.born

def ERels (P : Program) (g : Gh) (w : World) : List BEntry → List MapEntry → Prop
  | [], es => es = []
  | b :: bs, es => ∃ e er, es = e :: er ∧ ERel P g w b e ∧ ERels P g w bs er

def LRel (P : Program) (g : Gh) (w : World) (b : BLoop) (l : Loop) : Prop :=
  b.state = l.state ∧ b.pending = l.pending ∧ b.fn = l.fn ∧ VRels P g w b.tmps l.tmps.toList ∧ b.params = l.params ∧ b.assign = l.assign ∧ b.body = l.body ∧ g.m b.defers = some (l.defers, 0)

def ORel (P : Program) (g : Gh) (w : World) : BObj → Nat → Obj → Prop
  | .cells cs e s, base, o => ∃ c lo hi, o = .cells c e (lo, hi) ∧ (∃ vs, VRels P g w cs vs ∧ ∀ i x, vs[i]? = some x → c[base + i]? = some x) ∧
      (∀ i, i < c.size → ¬ (lo ≤ i ∧ i < hi)) ∧ (s = false → lo = 0 ∧ hi = 0)
  | .map es clock, base, o => base = 0 ∧ ∃ es', o = .map es' clock ∧ ERels P g w es es'.toList
  | .mapIter none since seen st, base, o => base = 0 ∧ o = .mapIter none since seen.toArray st
  | .mapIter (some r) since seen st, base, o => base = 0 ∧ ∃ blk, g.m r = some (blk, 0) ∧ o = .mapIter (some blk) since seen.toArray st
  | .strIter s pos, base, o => base = 0 ∧ o = .stringIter ⟨s.toArray⟩ pos
  | .loop b, base, o => base = 0 ∧ ∃ l, o = .loop l ∧ LRel P g w b l
  | .deferred none, base, o => base = 0 ∧ o = .deferred none
  | .deferred (some ds), base, o => base = 0 ∧ ∃ ds', o = .deferred (some ds') ∧ DRels P g w ds ds'

section mono
variable {P : Program} {g g' : Gh} {w w' : World}
theorem TgRel.mono (hm : Mono g w g' w') {b : BTarget} {t : Target} (h : TgRel P g w b t) : TgRel P g' w' b t := by
  cases b <;> simp only [TgRel] at h ⊢
  case fn => obtain ⟨c', rfl, hc⟩ := h; exact ⟨c', rfl, VRels.mono hm _ _ hc⟩
  case yield => obtain ⟨blk, hb, rfl⟩ := h; exact ⟨blk, hm.mm _ _ hb, rfl⟩
  case collected => obtain ⟨blk, hb, rfl⟩ := h; exact ⟨blk, hm.mm _ _ hb, rfl⟩
  all_goals exact h
theorem DRel.mono (hm : Mono g w g' w') {b : BDef} {d : Deferred} (h : DRel P g w b d) : DRel P g' w' b d := ⟨h.1.mono hm, VRels.mono hm _ _ h.2⟩
theorem DRels.mono (hm : Mono g w g' w') {bs : List BDef} : ∀ {ds : List Deferred}, DRels P g w bs ds → DRels P g' w' bs ds := by
  induction bs with
  | nil => intro ds h; simpa [DRels] using h
  | cons b bs ih => intro ds h; simp only [DRels] at h ⊢; obtain ⟨d, dr, rfl, hd, hr⟩ := h; exact ⟨d, dr, rfl, hd.mono hm, ih hr⟩
theorem DRels.append {bs cs : List BDef} {ds es : List Deferred} (h : DRels P g w bs ds) (k : DRels P g w cs es) : DRels P g w (bs ++ cs) (ds ++ es) := by
  induction bs generalizing ds with
  | nil => simp only [DRels] at h; subst h; simpa using k
  | cons b bs ih => simp only [DRels] at h; obtain ⟨d, dr, rfl, hd, hr⟩ := h; exact ⟨d, dr ++ es, rfl, hd, ih hr⟩
theorem ERel.mono (hm : Mono g w g' w') {b : BEntry} {e : MapEntry} (h : ERel P g w b e) : ERel P g' w' b e :=
  ⟨VRel.mono hm _ _ h.1, VRel.mono hm _ _ h.2.1, h.2.2⟩
theorem ERels.mono (hm : Mono g w g' w') {bs : List BEntry} : ∀ {es : List MapEntry}, ERels P g w bs es → ERels P g' w' bs es := by
  induction bs with
  | nil => intro es h; simpa [ERels] using h
  | cons b bs ih => intro es h; simp only [ERels] at h ⊢; obtain ⟨d, dr, rfl, hd, hr⟩ := h; exact ⟨d, dr, rfl, hd.mono hm, ih hr⟩
theorem LRel.mono (hm : Mono g w g' w') {b : BLoop} {l : Loop} (h : LRel P g w b l) : LRel P g' w' b l := by
  obtain ⟨a1, a2, a3, a4, a5, a6, a7, a8⟩ := h
  exact ⟨a1, a2, a3, VRels.mono hm _ _ a4, a5, a6, a7, hm.mm _ _ a8⟩
theorem ORel.mono (hm : Mono g w g' w') {b : BObj} {base : Nat} {o : Obj} (h : ORel P g w b base o) : ORel P g' w' b base o := by
  cases b with
  | cells cs e s => simp only [ORel] at h ⊢; obtain ⟨c, lo, hi, rfl, ⟨vs, hv, hc⟩, hr⟩ := h; exact ⟨c, lo, hi, rfl, ⟨vs, VRels.mono hm _ _ hv, hc⟩, hr⟩
  | map es clock => simp only [ORel] at h ⊢; obtain ⟨rfl, es', rfl, he⟩ := h; exact ⟨rfl, es', rfl, he.mono hm⟩
  | mapIter r since seen st =>
    cases r with
    | none => simpa [ORel] using h
    | some r => simp only [ORel] at h ⊢; obtain ⟨rfl, blk, hb, rfl⟩ := h; exact ⟨rfl, blk, hm.mm _ _ hb, rfl⟩
  | strIter s pos => simpa [ORel] using h
  | loop b => simp only [ORel] at h ⊢; obtain ⟨rfl, l, rfl, hl⟩ := h; exact ⟨rfl, l, rfl, hl.mono hm⟩
  | deferred ds =>
    cases ds with
    | none => simpa [ORel] using h
    | some ds => simp only [ORel] at h ⊢; obtain ⟨rfl, ds', rfl, hd⟩ := h; exact ⟨rfl, ds', rfl, hd.mono hm⟩
end mono

/-! ### the trie -/
theorem cond_beq {α : Type} (n m : Nat) (a b : α) : cond (Nat.beq n m) a b = if n = m then a else b := by
  by_cases h : n = m
  · subst h; rw [if_pos rfl, Nat.beq_refl]; rfl
  · rw [if_neg h]
    cases e : Nat.beq n m with
    | true => exact absurd (Nat.eq_of_beq_eq_true e) h
    | false => rfl

theorem Tr.get_leaf {α : Type} (n : Nat) : Tr.get (.leaf : Tr α) n = none := rfl

theorem Tr.get_node {α : Type} (n : Nat) (v : Option α) (l r : Tr α) : Tr.get (.node v l r) n = if n = 0 then v else if n % 2 = 1 then Tr.get l (n / 2) else Tr.get r (n / 2 - 1) := by
  show cond (Nat.beq n 0) v (cond (Nat.beq (Nat.mod n 2) 1) (Tr.get l (Nat.div n 2)) (Tr.get r (Nat.sub (Nat.div n 2) 1))) = _
  simp only [cond_beq]; rfl

theorem Tr.setF_node {α : Type} (f n : Nat) (v : Option α) (l r : Tr α) (x : Option α) : Tr.setF (f + 1) (.node v l r) n x = if n = 0 then .node x l r else if n % 2 = 1 then .node v (Tr.setF f l (n / 2) x) r else .node v l (Tr.setF f r (n / 2 - 1) x) := by
  simp only [Tr.setF, cond_beq]; rfl

theorem Tr.setF_leaf {α : Type} (f n : Nat) (x : Option α) : Tr.setF (f + 1) .leaf n x = if n = 0 then .node x .leaf .leaf else if n % 2 = 1 then .node none (Tr.setF f .leaf (n / 2) x) .leaf else .node none .leaf (Tr.setF f .leaf (n / 2 - 1) x) := by
  simp only [Tr.setF, cond_beq]; rfl

theorem Tr.get_set {α : Type} : ∀ (f n : Nat) (t : Tr α) (x : Option α) (j : Nat), n < f → Tr.get (Tr.setF f t n x) j = if j = n then x else Tr.get t j := by
  intro f
  induction f with
  | zero => intro n t x j h; omega
  | succ f ih =>
    intro n t x j hn
    · cases t with
      | leaf =>
        rw [Tr.setF_leaf, Tr.get_leaf j]
        by_cases n0 : n = 0
        · subst n0; simp only [if_true, Tr.get_node]
          by_cases j0 : j = 0
          · simp [j0]
          · simp [j0, Tr.get_leaf]
        · rw [if_neg n0]
          by_cases nm : n % 2 = 1
          · rw [if_pos nm]
            simp only [Tr.get_node]
            by_cases j0 : j = 0
            · subst j0; rw [if_pos rfl, if_neg (by omega)]
            · rw [if_neg j0]
              by_cases jm : j % 2 = 1
              · rw [if_pos jm, ih (n / 2) .leaf x (j / 2) (by omega), Tr.get_leaf]
                by_cases e : j = n
                · subst e; simp
                · rw [if_neg e, if_neg (by omega)]
              · rw [if_neg jm, Tr.get_leaf, if_neg (by omega)]
          · rw [if_neg nm]
            simp only [Tr.get_node]
            by_cases j0 : j = 0
            · subst j0; rw [if_pos rfl, if_neg (by omega)]
            · rw [if_neg j0]
              by_cases jm : j % 2 = 1
              · rw [if_pos jm, Tr.get_leaf, if_neg (by omega)]
              · rw [if_neg jm, ih (n / 2 - 1) .leaf x (j / 2 - 1) (by omega), Tr.get_leaf]
                by_cases e : j = n
                · subst e; simp
                · rw [if_neg e, if_neg (by omega)]
      | node v l r =>
        rw [Tr.setF_node]
        by_cases n0 : n = 0
        · subst n0; simp only [if_true, Tr.get_node]
          by_cases j0 : j = 0
          · simp [j0]
          · simp [j0]
        · rw [if_neg n0]
          by_cases nm : n % 2 = 1
          · rw [if_pos nm]
            simp only [Tr.get_node]
            by_cases j0 : j = 0
            · subst j0; rw [if_pos rfl, if_neg (by omega), if_pos rfl]
            · rw [if_neg j0, if_neg j0]
              by_cases jm : j % 2 = 1
              · rw [if_pos jm, if_pos jm, ih (n / 2) l x (j / 2) (by omega)]
                by_cases e : j = n
                · subst e; simp
                · rw [if_neg e, if_neg (by omega)]
              · rw [if_neg jm, if_neg jm, if_neg (by omega)]
          · rw [if_neg nm]
            simp only [Tr.get_node]
            by_cases j0 : j = 0
            · subst j0; rw [if_pos rfl, if_neg (by omega), if_pos rfl]
            · rw [if_neg j0, if_neg j0]
              by_cases jm : j % 2 = 1
              · rw [if_pos jm, if_pos jm, if_neg (by omega)]
              · rw [if_neg jm, if_neg jm, ih (n / 2 - 1) r x (j / 2 - 1) (by omega)]
                by_cases e : j = n
                · subst e; simp
                · rw [if_neg e, if_neg (by omega)]

theorem BHeap.get_put (h : BHeap) (b : Nat) (o : Option BObj) (j : Nat) : (h.put b o).get j = if j = b then o else h.get j := by
  unfold BHeap.get BHeap.put
  exact Tr.get_set _ _ _ _ _ (by omega)

theorem BHeap.get_new (h : BHeap) (o : BObj) (j : Nat) : (h.new o).get j = if j = h.next then some o else h.get j := by
  unfold BHeap.get BHeap.new
  exact Tr.get_set _ _ _ _ _ (by omega)

@[simp] theorem BHeap.next_put (h : BHeap) (b : Nat) (o : Option BObj) : (h.put b o).next = h.next := rfl
@[simp] theorem BHeap.next_new (h : BHeap) (o : BObj) : (h.new o).next = h.next + 1 := rfl

/-! ### heaps -/
structure HRel (P : Program) (g : Gh) (h : BHeap) (w : World) : Prop where
  dom : ∀ b o, h.get b = some o → b < h.next
  lt : ∀ b x, g.m b = some x → b < h.next
  img : ∀ b blk base, g.m b = some (blk, base) → blk < w.heap.size
  inj : ∀ b b' blk base base' o o', h.get b = some o → h.get b' = some o' → g.m b = some (blk, base) → g.m b' = some (blk, base') → b = b'
  obj : ∀ b o blk base, h.get b = some o → g.m b = some (blk, base) → ¬ g.fz blk ∧ ∃ o', w.heap[blk]? = some o' ∧ ORel P g w o base o'
  fzlt : ∀ c, g.fz c → c < w.heap.size

/-- block c of memory is B's to write -/
def Owned (g : Gh) (h : BHeap) (c : Nat) : Prop := ∃ b o base, h.get b = some o ∧ g.m b = some (c, base)

structure Ext (g : Gh) (h : BHeap) (w : World) (g' : Gh) (h' : BHeap) (w' : World) : Prop where
  mono : Mono g w g' w'
  size : w.heap.size ≤ w'.heap.size
  kept : ∀ c, c < w.heap.size → ¬ Owned g h c → w'.heap[c]? = w.heap[c]?
  own : ∀ c, c < w.heap.size → Owned g' h' c → Owned g h c
  next : h.next ≤ h'.next
  os : w'.os = w.os ∧ w'.output = w.output ∧ w'.tape = w.tape

theorem Ext.refl (g : Gh) (h : BHeap) (w : World) : Ext g h w g h w := ⟨Mono.refl g w, Nat.le_refl _, fun _ _ _ => rfl, fun _ _ h => h, Nat.le_refl _, rfl, rfl, rfl⟩

theorem Ext.trans {g g' g'' : Gh} {h h' h'' : BHeap} {w w' w'' : World} (a : Ext g h w g' h' w') (b : Ext g' h' w' g'' h'' w'') : Ext g h w g'' h'' w'' where
  mono := a.mono.trans b.mono
  size := Nat.le_trans a.size b.size
  kept := fun c hc ho => (b.kept c (Nat.lt_of_lt_of_le hc a.size) (fun h => ho (a.own c hc h))).trans (a.kept c hc ho)
  own := fun c hc ho => a.own c hc (b.own c (Nat.lt_of_lt_of_le hc a.size) ho)
  next := Nat.le_trans a.next b.next
  os := ⟨b.os.1.trans a.os.1, b.os.2.1.trans a.os.2.1, b.os.2.2.trans a.os.2.2⟩

end Go.PB
