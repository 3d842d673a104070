/- What B's operations do is what the model's do: values, loads, stores, parts, equality. What B's operations do is what the model's do: what makes memory; building. What B's operations do is what the model's do: slices that are made; bytes of a string; addresses, fields, slices. What B's operations do is what the model's do: slices of slices, equality, arithmetic, conversions, assertions. What B's operations do is what the model's do: equality, arithmetic, conversions, assertions, len, min, max. What B's operations do is what the model's do: arithmetic, conversions, assertions, len, min, max. -/
import Derived.Test.YtabfeencbambmaaGreatDoorPosR
import Derived.Laws.Build
import Derived.Laws.Strings
set_option linter.unusedSimpArgs false
set_option linter.unusedVariables false
namespace Go.PB
open Go

section
variable {P : Program} {g : Gh} {h : BHeap} {w : World}

theorem r_underlying {t : TypeId} {d : TypeDesc} (e : P.underlying t = some d) (w : World) : (underlying t).run P w = .ok d w := by
  simp [underlying, e]
theorem r_info {t : TypeId} {i : TypeInfo} (e : P.info? t = some i) (w : World) : (typeInfo t).run P w = .ok i w := by
  simp [typeInfo, e]
theorem r_sizeOf {t : TypeId} {n : Nat} (e : szOf P t = some n) (w : World) : (sizeOf t).run P w = .ok n w := by
  unfold szOf at e
  cases hi : P.info? t with
  | none => rw [hi] at e; cases e
  | some i => rw [hi] at e; simp at e; simp [sizeOf, r_info hi, e]
theorem szOf_cellsOf {t : TypeId} {n : Nat} (e : szOf P t = some n) : P.cellsOf t = n := by
  unfold szOf at e; unfold Program.cellsOf; rw [e]; rfl
theorem szOf_info {t : TypeId} {i : TypeInfo} (e : P.info? t = some i) : szOf P t = some i.size := by simp [szOf, e]
theorem r_isAgg {t : TypeId} {b : Bool} (e : isAggB P t = some b) (w : World) : (isAgg t).run P w = .ok b w := by
  unfold isAggB at e
  cases hu : P.underlying t with
  | none => rw [hu] at e; cases e
  | some d =>
    rw [hu] at e; simp at e
    simp only [isAgg, Sem.run_bind, r_underlying hu, Result.andThen_ok]
    split at e <;> simp_all

theorem VRel.of (P : Program) (g : Gh) (w : World) : ∀ (n : Nat) (v : Value), VRel P g w (BV.of n v) v := by
  intro n
  induction n with
  | zero => intro v; simp [BV.of, VRel]
  | succ n ih =>
    intro v
    have hmap : ∀ cs : Array Value, VRels P g w (cs.toList.map (BV.of n)) cs.toList := fun cs => by
      have := VRels.map (P := P) (g := g) (w := w) (l := cs.toList) (f := BV.of n) (f' := id) (fun a _ => ih a)
      simpa using this
    cases v with
    | pointer a => cases a <;> simp [BV.of, VRel]
    | slice a l c =>
      simp only [BV.of]
      split
      all_goals first
        | (rename_i e; injection e with e1 e2 e3; subst e1 e2 e3; simp [VRel]; done)
        | (simp_all [VRel]; done)
        | simp [VRel]
    | map r => cases r <;> simp [BV.of, VRel]
    | string s => simp [BV.of, VRel]
    | iface t x => simp only [BV.of, VRel]; exact ⟨x, rfl, ih x⟩
    | agg cs => simp only [BV.of, VRel]; exact ⟨cs, rfl, hmap cs⟩
    | tuple cs => simp only [BV.of, VRel]; exact ⟨cs, rfl, hmap cs⟩
    | _ => simp [BV.of, VRel]

theorem VRel.ofv (P : Program) (g : Gh) (w : World) (v : Value) : VRel P g w (BV.ofv v) v := VRel.of P g w 6 v

theorem r_zero {t : TypeId} {z : BV} (e : zeroB P t = some z) (w : World) : ∃ z', (zeroValue t).run P w = .ok z' w ∧ ∀ g, VRel P g w z z' := by
  unfold zeroB at e
  cases hi : P.info? t with
  | none => rw [hi] at e; cases e
  | some i =>
    rw [hi] at e
    cases hz : i.zero with
    | none => simp [hz] at e
    | some z' =>
      simp [hz] at e; subst e
      exact ⟨z', by simp [zeroValue, r_info hi, hz], fun g => VRel.ofv P g w z'⟩

theorem takeCells_some {cs r : List BV} {off n : Nat} (e : takeCells cs off n = some r) : r = (cs.drop off).take n ∧ r.length = n := by
  unfold takeCells at e
  dsimp only at e
  split at e
  · rename_i hl; cases e; exact ⟨rfl, hl⟩
  · cases e

theorem putCells_some {cs r vs : List BV} {off : Nat} (e : putCells cs off vs = some r) : r = cs.take off ++ (vs ++ cs.drop (off + vs.length)) ∧ off + vs.length ≤ cs.length := by
  unfold putCells at e
  split at e
  · rename_i hl; cases e; exact ⟨rfl, hl⟩
  · cases e

theorem VRels.takeCells {cs r : List BV} {vs : List Value} {off n : Nat} (hv : VRels P g w cs vs) (e : takeCells cs off n = some r) :
    VRels P g w r ((vs.drop off).take n) ∧ ((vs.drop off).take n).length = n := by
  obtain ⟨rfl, hl⟩ := takeCells_some e
  have := (hv.drop off).take n
  exact ⟨this, by rw [this.length]; exact hl⟩

theorem putCells_get {cs r vs : List BV} {off : Nat} (e : putCells cs off vs = some r) (j : Nat) : r[j]? = if off ≤ j ∧ j < off + vs.length then vs[j - off]? else cs[j]? := by
  obtain ⟨rfl, hl⟩ := putCells_some e
  rw [List.getElem?_append]
  simp only [List.length_take]
  rw [Nat.min_eq_left (by omega)]
  by_cases h1 : j < off
  · rw [if_pos h1, if_neg (by omega), List.getElem?_take, if_pos h1]
  · rw [if_neg h1, List.getElem?_append]
    by_cases h2 : j - off < vs.length
    · rw [if_pos h2, if_pos (by omega)]
    · rw [if_neg h2, if_neg (by omega), List.getElem?_drop]; congr 1; omega

theorem putCells_length {cs r vs : List BV} {off : Nat} (e : putCells cs off vs = some r) : r.length = cs.length := by
  obtain ⟨rfl, hl⟩ := putCells_some e
  simp; omega

/-- what B knows of a block of cells -/
theorem HRel.cells (hr : HRel P g h w) {b blk base : Nat} {cs : List BV} {e : TypeId} {s : Bool} (hb : h.get b = some (.cells cs e s)) (hm : g.m b = some (blk, base)) :
    ∃ c lo hi vs, w.heap[blk]? = some (.cells c e (lo, hi)) ∧ VRels P g w cs vs ∧ (∀ i x, vs[i]? = some x → c[base + i]? = some x) ∧ CellsAt w blk base vs ∧
      (∀ i, i < c.size → ¬ (lo ≤ i ∧ i < hi)) ∧ (s = false → lo = 0 ∧ hi = 0) := by
  obtain ⟨_, o, ho, hr'⟩ := hr.obj _ _ _ _ hb hm
  simp only [ORel] at hr'
  obtain ⟨c, lo, hi, rfl, ⟨vs, hv, hc⟩, hf, hs⟩ := hr'
  refine ⟨c, lo, hi, vs, ho, hv, hc, fun i x hi' => ?_, hf, hs⟩
  simp only [World.cell?, ho]
  exact hc i x hi'

theorem CellsAt.drop {blk off k : Nat} {vs : List Value} (hc : CellsAt w blk off vs) : CellsAt w blk (off + k) (vs.drop k) := by
  intro i x hi
  rw [List.getElem?_drop] at hi
  have := hc _ _ hi
  rwa [show off + (k + i) = off + k + i by omega] at this

theorem CellsAt.take {blk off k : Nat} {vs : List Value} (hc : CellsAt w blk off vs) : CellsAt w blk off (vs.take k) := by
  intro i x hi
  rw [List.getElem?_take] at hi
  split at hi
  · exact hc _ _ hi
  · cases hi

/-- a load of a type from a row of cells -/
theorem run_loadVar_at {t : TypeId} {blk off : Nat} {cs : List BV} {vs : List Value} {k : Nat} {ag : Bool} {n : Nat} {v : BV} (hag : isAggB P t = some ag) (hn : szOf P t = some n)
    (hv : VRels P g w cs vs) (hc : CellsAt w blk off vs)
    (e : (if ag then (takeCells cs k n).map BV.agg else cs[k]?) = some v) : ∃ v', (loadVar t ⟨blk, off + k, none⟩).run P w = .ok v' w ∧ VRel P g w v v' := by
  cases ag with
  | true =>
    simp only [if_true] at e
    cases ht : Go.PB.takeCells cs k n with
    | none => rw [ht] at e; cases e
    | some r =>
      rw [ht] at e; simp at e; subst e
      obtain ⟨h1, h2⟩ := hv.takeCells ht
      refine ⟨.agg ((vs.drop k).take n).toArray, ?_, by simp only [VRel]; exact ⟨_, rfl, h1⟩⟩
      simp only [loadVar, Sem.run_bind, r_isAgg hag, Result.andThen_ok, if_true, r_sizeOf hn]
      rw [run_loadCells_at _ h2 (hc.drop.take)]
      rfl
  | false =>
    simp only [Bool.false_eq_true, if_false] at e
    obtain ⟨v', hv', hr'⟩ := hv.get e
    refine ⟨v', ?_, hr'⟩
    simp only [loadVar, Sem.run_bind, r_isAgg hag, Result.andThen_ok, Bool.false_eq_true, if_false, run_load]
    rw [hc _ _ hv']

theorem sim_loadVar (hr : HRel P g h w) {t : TypeId} {a v : BV} {a' : Value} (ha : VRel P g w a a') (e : loadB P h t a = some v) :
    ∃ ad v', a' = .pointer (some ad) ∧ (loadVar t ad).run P w = .ok v' w ∧ VRel P g w v v' := by
  unfold loadB at e
  cases hag : isAggB P t with
  | none => simp [hag] at e
  | some ag =>
    cases hn : szOf P t with
    | none => simp [hag, hn] at e
    | some n =>
      simp only [hag, hn] at e
      cases a with
      | ptr b off =>
        simp only [VRel] at ha
        obtain ⟨blk, base, hm, rfl⟩ := ha
        dsimp only at e
        cases hb : h.get b with
        | none => simp [hb] at e
        | some o =>
          cases o with
          | cells cs et s =>
            simp only [hb] at e
            obtain ⟨c, lo, hi, vs, hw, hv, _, hc, _⟩ := hr.cells hb hm
            obtain ⟨v', h1, h2⟩ := run_loadVar_at hag hn hv hc e
            exact ⟨_, v', rfl, h1, h2⟩
          | _ => simp [hb] at e
      | rptr cs =>
        simp only [VRel] at ha
        obtain ⟨blk, off, rfl, _, vs, hv, hc⟩ := ha
        dsimp only at e
        obtain ⟨v', h1, h2⟩ := run_loadVar_at (k := 0) hag hn hv hc e
        exact ⟨_, v', rfl, h1, h2⟩
      | _ => simp at e

theorem sim_load (hr : HRel P g h w) {t : TypeId} {a v : BV} {a' : Value} (ha : VRel P g w a a') (e : loadB P h t a = some v) :
    ∃ v', (Instr.loadAt t a').run P w = .ok v' w ∧ VRel P g w v v' := by
  obtain ⟨ad, v', rfl, h1, h2⟩ := sim_loadVar hr ha e
  exact ⟨v', by simp [Instr.loadAt, Instr.sureAddr, h1], h2⟩

def Ph (g : Gh) (h : BHeap) (g' : Gh) (h' : BHeap) : Prop := ∀ b, b < h.next → g.m b = none → g'.m b = none ∧ h'.get b = h.get b

theorem Ph.refl (g : Gh) (h : BHeap) : Ph g h g h := fun _ _ e => ⟨e, rfl⟩
theorem Ph.trans {g g' g'' : Gh} {h h' h'' : BHeap} (a : Ph g h g' h') (hn : h.next ≤ h'.next) (b : Ph g' h' g'' h'') : Ph g h g'' h'' := fun x hx e => by
  obtain ⟨e1, h1⟩ := a x hx e
  obtain ⟨e2, h2⟩ := b x (Nat.lt_of_lt_of_le hx hn) e1
  exact ⟨e2, h2.trans h1⟩
theorem Ph.put {b : Nat} {x : Nat × Nat} (hm : g.m b = some x) (o : Option BObj) : Ph g h g (h.put b o) := fun b1 _ e => ⟨e, by
  rw [BHeap.get_put, if_neg (fun ee => by subst ee; rw [hm] at e; cases e)]⟩
theorem Ph.new (o : BObj) : Ph g h g (h.new o) := fun b1 hb e => ⟨e, by rw [BHeap.get_new, if_neg (by omega)]⟩
theorem Ph.upd {blk base : Nat} : Ph g h (g.upd h.next blk base) h := fun b1 hb e => ⟨by rw [Gh.upd_other g (by omega)]; exact e, rfl⟩

theorem oneCell'_of {b : BV} {v : Value} (hv : VRel P g w b v) (ho : b.one = true) : v.oneCell' = true := by
  obtain ⟨_, h1, h2⟩ := hv.one ho
  cases v <;> first | rfl | (exact absurd rfl (h1 _)) | (exact absurd rfl (h2 _))

theorem allOne {cs : List BV} {vs : List Value} (hv : VRels P g w cs vs) (ho : cs.all BV.one = true) : ∀ v ∈ vs, v.oneCell' = true := by
  intro v hm
  obtain ⟨i, hi⟩ := List.getElem?_of_mem hm
  obtain ⟨b, hb, hr⟩ := hv.get' hi
  exact oneCell'_of hr ((List.all_eq_true.1 ho) b (List.mem_of_getElem? hb))

/-- cells stored into a block of B's -/
theorem sim_put (hr : HRel P g h w) {b blk base off : Nat} {cs cs' xs : List BV} {e : TypeId} {s : Bool} {ys : List Value} (hb : h.get b = some (.cells cs e s)) (hm : g.m b = some (blk, base))
    (hx : VRels P g w xs ys) (ho : xs.all BV.one = true) (hp : putCells cs off xs = some cs') :
    ∃ w', (storeCells ⟨blk, base + off, none⟩ ys).run P w = .ok () w' ∧ HRel P g (h.put b (some (.cells cs' e s))) w' ∧ Ext g h w g (h.put b (some (.cells cs' e s))) w' := by
  obtain ⟨c, lo, hi, vs, hw, hv, hc, _, hf, hs⟩ := hr.cells hb hm
  obtain ⟨_, hle⟩ := putCells_some hp
  have hcsz : ys ≠ [] → base + off + ys.length ≤ c.size := fun hne => by
    have hl : ys.length = xs.length := hx.length
    have hpos : 0 < ys.length := List.length_pos_iff.2 hne
    have hvl : vs.length = cs.length := hv.length
    have h1 : off + ys.length - 1 < vs.length := by omega
    have := hc _ _ (List.getElem?_eq_getElem h1)
    have := (Array.getElem?_eq_some_iff.1 this).1
    omega
  have hrun : (storeCells ⟨blk, base + off, none⟩ ys).run P w = .ok () (w.putBlk blk (.cells (setMany c (base + off) ys) e (lo, hi))) := by
    cases hys : ys with
    | nil =>
      simp only [storeCells, Sem.run_pure, setMany]
      have := run_storeCells_row (P := P) blk 0 e lo hi [] 0 c w hw (by simp) (by simp) hf
      simpa [storeCells, setMany] using this
    | cons y r =>
      have hb' := hcsz (by rw [hys]; simp)
      rw [hys] at hb'
      have := run_storeCells_row (P := P) blk (base + off) e lo hi (y :: r) 0 c w hw (by simpa using hb') (fun v hv => allOne hx ho v (by rw [hys]; exact hv)) hf
      simpa using this
  refine ⟨_, hrun, ?_⟩
  refine hr.write hb hm hw rfl ⟨rfl, rfl, rfl⟩ (fun s hs => ?_) (fun hmono => ?_)
  · have hlt := (Array.getElem?_eq_some_iff.1 hw).1
    simp only [World.shape?, hw] at hs
    simp only [World.shape?, putBlk_heap_same hlt, setMany_size]
    exact hs
  · simp only [ORel]
    refine ⟨_, lo, hi, rfl, ⟨vs.take off ++ (ys ++ vs.drop (off + ys.length)), ?_, ?_⟩, by simpa using hf, hs⟩
    · obtain ⟨rfl, _⟩ := putCells_some hp
      have h1 := VRels.mono hmono _ _ hv
      have h2 := VRels.mono hmono _ _ hx
      rw [hx.length]
      exact (h1.take off).append (h2.append (h1.drop _))
    · intro i x hi'
      have hxl := hx.length
      have hvl := hv.length
      rw [List.getElem?_append] at hi'
      simp only [List.length_take] at hi'
      rw [Nat.min_eq_left (by omega)] at hi'
      by_cases hne : ys = []
      · subst hne
        simp only [setMany]
        simp only [List.length_nil, Nat.add_zero, List.nil_append, List.getElem?_drop, List.getElem?_take] at hi'
        by_cases h1 : i < off
        · rw [if_pos h1, if_pos h1] at hi'; exact hc i x hi'
        · rw [if_neg h1, show off + (i - off) = i by omega] at hi'; exact hc i x hi'
      · rw [setMany_get _ _ _ _ (hcsz hne)]
        by_cases h1 : i < off
        · rw [if_pos h1, List.getElem?_take, if_pos h1] at hi'
          rw [if_neg (by omega)]; exact hc i x hi'
        · rw [if_neg h1, List.getElem?_append] at hi'
          by_cases h2 : i - off < ys.length
          · rw [if_pos h2] at hi'
            rw [if_pos (by omega), show base + i - (base + off) = i - off by omega]; exact hi'
          · rw [if_neg h2, List.getElem?_drop, show off + ys.length + (i - off - ys.length) = i by omega] at hi'
            rw [if_neg (by omega)]; exact hc i x hi'

theorem run_storeVar_cells {t : TypeId} {n : Nat} (hn : szOf P t = some n) {ad : Addr} {v : Value} (hl : v.cells.size = n) {w w' : World}
    (hs : (storeCells ad v.cells.toList).run P w = .ok () w') : (storeVar t ad v).run P w = .ok () w' := by
  simp only [storeVar, Sem.run_bind, r_sizeOf hn, Result.andThen_ok]
  rw [if_neg (by simpa using hl)]
  exact hs

theorem sim_store (hr : HRel P g h w) {t : TypeId} {a v : BV} {a' v' : Value} {h' : BHeap} (ha : VRel P g w a a') (hv : VRel P g w v v') (e : storeB P h t a v = some h') :
    ∃ w', (Instr.storeAt t a' v').run P w = .ok () w' ∧ HRel P g h' w' ∧ Ext g h w g h' w' ∧ Ph g h g h' := by
  unfold storeB at e
  cases hn : szOf P t with
  | none => simp [hn] at e
  | some n =>
    cases a with
    | ptr b off =>
      simp only [hn] at e
      simp only [VRel] at ha
      obtain ⟨blk, base, hm, rfl⟩ := ha
      cases hb : h.get b with
      | none => simp [hb] at e
      | some o =>
        cases o with
        | cells cs et s =>
          simp only [hb] at e
          split at e
          · rename_i hc
            simp only [Bool.and_eq_true, decide_eq_true_eq] at hc
            cases hp : putCells cs off v.cells with
            | none => rw [hp] at e; cases e
            | some cs' =>
              rw [hp] at e; simp at e; subst e
              have hx := hv.cells hc.2
              obtain ⟨w', h1, h2, h3⟩ := sim_put hr hb hm hx hc.2 hp
              refine ⟨w', ?_, h2, h3, Ph.put hm _⟩
              simp only [Instr.storeAt, Instr.sureAddr, Sem.run_bind, Sem.run_pure, Result.andThen_ok]
              refine run_storeVar_cells hn ?_ h1
              have := hx.length; simp at this; omega
          · cases e
        | _ => simp [hb] at e
    | _ => simp [hn] at e

/-- a part of a struct or of an array -/
theorem sim_part {t : TypeId} {cs : List BV} {vs : Array Value} {off : Nat} {v : BV} (hv : VRels P g w cs vs.toList) (e : partB P t cs off = some v) :
    ∃ v', (part t vs off).run P w = .ok v' w ∧ VRel P g w v v' := by
  unfold partB at e
  split at e
  · rename_i n hag hn
    cases ht : takeCells cs off n with
    | none => rw [ht] at e; cases e
    | some r =>
      rw [ht] at e; simp at e; subst e
      obtain ⟨h1, h2⟩ := hv.takeCells ht
      refine ⟨.agg (vs.extract off (off + n)), ?_, ?_⟩
      · simp [part, r_isAgg hag, r_sizeOf hn]
      · simp only [VRel]
        refine ⟨_, rfl, ?_⟩
        rw [Array.toList_extract]
        simpa [List.extract_eq_take_drop] using h1
  · rename_i hag
    obtain ⟨v', hv', hr'⟩ := hv.get e
    refine ⟨v', ?_, hr'⟩
    have : vs[off]? = some v' := by simpa using hv'
    simp [part, r_isAgg hag, this]
  · cases e
end
end Go.PB

set_option linter.unusedSimpArgs false
set_option linter.unusedVariables false
namespace Go.PB
open Go

section
variable {P : Program} {g : Gh} {h : BHeap} {w : World}

/-- the model makes what B has made: block b -/
def Real (P : Program) (g : Gh) (h : BHeap) (w : World) (b : Nat) (v : BV) (r : Result Value) : Prop :=
  ∃ v' w', r = .ok v' w' ∧ HRel P (g.upd b w.heap.size 0) h w' ∧ Ext g h w (g.upd b w.heap.size 0) h w' ∧ VRel P (g.upd b w.heap.size 0) w' v v'

theorem real_row (hr : HRel P g h w) {b : Nat} {cs : List BV} {e : TypeId} {s : Bool} {vs : List Value} {c : Array Value} {lo hi : Nat} {w' : World}
    (hb : h.get b = some (.cells cs e s)) (hm : g.m b = none) (hv : VRels P g w cs vs) (hc : ∀ (i : Nat) x, vs[i]? = some x → c[i]? = some x)
    (hheap : w'.heap = w.heap.push (.cells c e (lo, hi))) (hos : w'.os = w.os ∧ w'.output = w.output ∧ w'.tape = w.tape)
    (hf : ∀ i, i < c.size → ¬ (lo ≤ i ∧ i < hi)) (hs : s = false → lo = 0 ∧ hi = 0) :
    HRel P (g.upd b w.heap.size 0) h w' ∧ Ext g h w (g.upd b w.heap.size 0) h w' := by
  refine hr.real hb hm hheap hos fun hmono => ?_
  simp only [ORel]
  exact ⟨c, lo, hi, rfl, ⟨vs, VRels.mono hmono _ _ hv, fun i x hi' => by simpa using hc i x hi'⟩, hf, hs⟩

theorem real_var (hr : HRel P g h w) {b : Nat} {t : TypeId} {v : BV} {v' : Value} (hb : h.get b = some (.cells v.cells t false)) (hm : g.m b = none)
    (hv : VRel P g w v v') (ho : v.cells.all BV.one = true) : Real P g h w b (.ptr b 0) ((do pure (Value.pointer (some (← newVar t v'))) : Sem Value).run P w) := by
  refine ⟨.pointer (some ⟨w.heap.size, 0, none⟩), _, by simp only [newVar, newRow, Sem.run_bind, run_newObj, Result.andThen_ok, Sem.run_pure]; rfl, ?_⟩
  have h1 := real_row hr (vs := v'.cells.toList) (c := v'.cells) (lo := 0) (hi := 0) (w' := { w with heap := w.heap.push (.cells v'.cells t) }) hb hm (hv.cells ho) (fun i x hi => by simpa using hi) rfl ⟨rfl, rfl, rfl⟩ (by omega) (fun _ => ⟨rfl, rfl⟩)
  refine ⟨h1.1, h1.2, ?_⟩
  simp only [VRel]
  exact ⟨_, _, Gh.upd_same _ _ _ _, rfl⟩

theorem real_alloc (hr : HRel P g h w) {b : Nat} {t : TypeId} {z : BV} (hz : zeroB P t = some z) (hb : h.get b = some (.cells z.cells t false)) (hm : g.m b = none)
    (ho : z.cells.all BV.one = true) : Real P g h w b (.ptr b 0) ((Instr.alloc t true (.tuple #[])).run P w) := by
  obtain ⟨z', hz', hzr⟩ := r_zero hz w
  have := real_var hr hb hm (hzr g) ho
  simpa [Instr.alloc, hz'] using this

theorem real_box (hr : HRel P g h w) {b : Nat} {t : TypeId} {v : BV} {v' : Value} (hb : h.get b = some (.cells v.cells t false)) (hm : g.m b = none)
    (hv : VRel P g w v v') (ho : v.cells.all BV.one = true) : Real P g h w b (.ptr b 0) ((Instr.box t v').run P w) := by
  have := real_var hr hb hm hv ho
  simpa [Instr.box] using this

theorem real_map (hr : HRel P g h w) {b : Nat} {t k e : TypeId} {r : Option BV} {r' : Option Value} (hu : P.underlying t = some (.map k e)) (hb : h.get b = some (.map [] 0)) (hm : g.m b = none)
    (hrr : (r = none ∧ r' = none) ∨ ∃ q n, r = some (.int q n) ∧ r' = some (.int q n)) : Real P g h w b (.map b) ((Instr.makeMap t r').run P w) := by
  have hrun : (Instr.makeMap t r').run P w = .ok (.map (some w.heap.size)) { w with heap := w.heap.push (.map #[] 0) } := by
    rcases hrr with ⟨_, rfl⟩ | ⟨q, n, _, rfl⟩
    · simp [Instr.makeMap]
    · simp [Instr.makeMap, r_underlying hu, asInt, asIntOf]
  refine ⟨_, _, hrun, ?_⟩
  have h1 := hr.real (w' := { w with heap := w.heap.push (.map #[] 0) }) hb hm rfl ⟨rfl, rfl, rfl⟩ (fun _ => by simp [ORel, ERels])
  refine ⟨h1.1, h1.2, ?_⟩
  simp only [VRel]
  exact ⟨_, Gh.upd_same _ _ _ _, rfl⟩

/-! building -/
theorem foldl_set_get (l : List Value) : ∀ (k : Nat) (cs : Array Value) (off : Nat), off + k + l.length ≤ cs.size →
    ((l.zipIdx k).foldl (fun cs (x : Value × Nat) => cs.setIfInBounds (off + x.2) x.1) cs) = setMany cs (off + k) l := by
  induction l with
  | nil => intro k cs off _; simp [setMany]
  | cons v r ih =>
    intro k cs off hle
    simp only [List.length_cons] at hle
    simp only [List.zipIdx_cons, List.foldl_cons, setMany]
    rw [ih (k + 1) _ off (by simp; omega)]
    rfl

theorem zipFold (cs : Array Value) (off : Nat) (xs : Array Value) (hle : off + xs.size ≤ cs.size) :
    xs.zipIdx.foldl (fun cs (x : Value × Nat) => cs.setIfInBounds (off + x.2) x.1) cs = setMany cs off xs.toList := by
  rw [← Array.foldl_toList, Array.toList_zipIdx]
  have := foldl_set_get xs.toList 0 cs off (by simpa using hle)
  simpa using this

/-- what a row holds behind a put -/
theorem VRels.putCells {cs cs' xs : List BV} {c : Array Value} {ys : List Value} {off : Nat} (hc : VRels P g w cs c.toList) (hx : VRels P g w xs ys) (hp : putCells cs off xs = some cs') :
    VRels P g w cs' (setMany c off ys).toList := by
  have hl := hc.length
  have hxl := hx.length
  obtain ⟨_, hle⟩ := putCells_some hp
  refine VRels.of_get (by rw [putCells_length hp]; simpa using hl) fun i b v hb hv => ?_
  rw [putCells_get hp] at hb
  simp only [Array.getElem?_toList] at hv
  rw [setMany_get _ _ _ _ (by simp at hl; omega)] at hv
  by_cases h1 : off ≤ i ∧ i < off + xs.length
  · rw [if_pos h1] at hb; rw [if_pos (by omega)] at hv
    obtain ⟨u, hu, hr⟩ := hx.get hb
    rw [hu] at hv; cases hv; exact hr
  · rw [if_neg h1] at hb; rw [if_neg (by omega)] at hv
    obtain ⟨u, hu, hr⟩ := hc.get hb
    simp only [Array.getElem?_toList] at hu
    rw [hu] at hv; cases hv; exact hr

/-- a value's cells, where it is known -/
theorem VRel.cells' {v : BV} {v' : Value} (hv : VRel P g w v v') (hk : v.solid = true) : VRels P g w v.cells v'.cells.toList := by
  by_cases hb : ∃ cs, v = .agg cs
  · obtain ⟨cs, rfl⟩ := hb
    simp only [VRel] at hv; obtain ⟨vs, rfl, h⟩ := hv
    simpa [BV.cells, Value.cells] using h
  · have e : v.cells = [v] := by cases v <;> first | rfl | (exact absurd ⟨_, rfl⟩ hb)
    have e' : v'.cells = #[v'] := by
      by_cases ht : ∃ cs, v = .tuple cs
      · obtain ⟨cs, rfl⟩ := ht; simp only [VRel] at hv; obtain ⟨vs, rfl, _⟩ := hv; rfl
      · refine (hv.one ?_).1
        cases v <;> first | rfl | (simp [BV.solid] at hk; done) | (exact absurd ⟨_, rfl⟩ hb) | (exact absurd ⟨_, rfl⟩ ht)
    rw [e, e']
    exact VRels.cons hv VRels.nil

/-- the parts of a composite value: B's and the model's -/
def PRel (P : Program) (g : Gh) (w : World) (ps : List (Nat × BV)) (qs : List (Nat × Value)) : Prop :=
  qs.length = ps.length ∧ ∀ (j : Nat) i v, ps[j]? = some (i, v) → ∃ v', qs[j]? = some (i, v') ∧ VRel P g w v v'

theorem PRel.cons {i : Nat} {v : BV} {ps : List (Nat × BV)} {qs : List (Nat × Value)} (hp : PRel P g w ((i, v) :: ps) qs) : ∃ v' qs', qs = (i, v') :: qs' ∧ VRel P g w v v' ∧ PRel P g w ps qs' := by
  obtain ⟨hl, hp⟩ := hp
  cases qs with
  | nil => simp at hl
  | cons q qs =>
    obtain ⟨v', h1, h2⟩ := hp 0 i v (by simp)
    simp at h1; subst h1
    exact ⟨v', qs, rfl, h2, by simpa using hl, fun j i' u hj => by have := hp (j + 1) i' u (by simpa using hj); simpa using this⟩

theorem sim_fill {place : Nat → Option (Nat × Nat)} : ∀ (ps : List (Nat × BV)) (qs : List (Nat × Value)) (cs cs' : List BV) (c : Array Value), PRel P g w ps qs → VRels P g w cs c.toList →
    fillB place cs ps = some cs' → ∃ c', Instr.fill place c qs = some c' ∧ VRels P g w cs' c'.toList := by
  intro ps
  induction ps with
  | nil =>
    intro qs cs cs' c hp hc e
    have : qs = [] := by have := hp.1; simpa using this
    subst this
    simp [fillB] at e; subst e
    exact ⟨c, rfl, hc⟩
  | cons p ps ih =>
    intro qs cs cs' c hp hc e
    obtain ⟨i, v⟩ := p
    obtain ⟨v', qs', rfl, hv, hp'⟩ := hp.cons
    simp only [fillB] at e
    cases hpl : place i with
    | none => simp [hpl] at e
    | some os =>
      obtain ⟨off, size⟩ := os
      simp only [hpl] at e
      split at e
      · rename_i hl
        simp only [Bool.and_eq_true, decide_eq_true_eq] at hl
        cases hput : putCells cs off v.cells with
        | none => simp [hput] at e
        | some cs1 =>
          simp only [hput] at e
          have hx := hv.cells' hl.2
          have hxl := hx.length
          have hcl := hc.length
          obtain ⟨_, hle⟩ := putCells_some hput
          simp at hxl hcl
          have hc1 := hc.putCells hx hput
          obtain ⟨c', h1, h2⟩ := ih qs' cs1 cs' _ hp' hc1 e
          refine ⟨c', ?_, h2⟩
          simp only [Instr.fill, hpl]
          rw [if_neg (by simp; omega)]
          rw [zipFold _ _ _ (by omega)]
          exact h1
      · cases e

theorem run_places (w : World) : ∀ (fs : List Field) (ps : List (Nat × Nat)), fs.mapM (fun f => (szOf P f.type).map fun s => (f.offset, s)) = some ps →
    (fs.mapM (fun f => (do pure (f.offset, ← sizeOf f.type) : Sem (Nat × Nat)))).run P w = .ok ps w := by
  intro fs
  induction fs with
  | nil => intro ps e; simp at e; subst e; simp
  | cons f fs ih =>
    intro ps e
    simp only [List.mapM_cons] at e ⊢
    cases hs : szOf P f.type with
    | none => simp [hs] at e
    | some n =>
      simp only [hs, Option.map_some] at e
      cases hm : fs.mapM (fun f => (szOf P f.type).map fun s => (f.offset, s)) with
      | none => simp [hm] at e
      | some ps' =>
        simp [hm] at e; subst e
        simp only [Sem.run_bind, r_sizeOf hs, Result.andThen_ok, Sem.run_pure, ih _ hm]

theorem sim_build {t : TypeId} {ps : List (Nat × BV)} {qs : List (Nat × Value)} {v : BV} (hp : PRel P g w ps qs) (e : buildB P t ps = some v) :
    ∃ v', (Instr.build t qs.toArray).run P w = .ok v' w ∧ VRel P g w v v' := by
  unfold buildB at e
  split at e
  · rename_i zc fs hz hu
    obtain ⟨z', hz', hzr⟩ := r_zero hz w
    have hzg := hzr g
    simp only [VRel] at hzg
    obtain ⟨zs, rfl, hzv⟩ := hzg
    cases hpl : places P fs with
    | none => simp [hpl] at e
    | some pl =>
      simp only [hpl] at e
      cases hf : fillB (fun i => pl[i]?) zc ps with
      | none => simp [hf] at e
      | some cs =>
        simp [hf] at e; subst e
        obtain ⟨c', h1, h2⟩ := sim_fill ps qs zc cs zs hp hzv hf
        refine ⟨.agg c', ?_, by simp only [VRel]; exact ⟨_, rfl, h2⟩⟩
        have hrp := run_places (P := P) w fs.toList pl hpl
        simp only [Instr.build, Sem.run_bind, hz', Result.andThen_ok, r_underlying hu]
        rw [Array.mapM_eq_mapM_toList]
        simp only [Sem.run_map, hrp, Result.andThen_ok, List.getElem?_toArray, Value.cells]
        rw [h1]
        simp
  · rename_i zc n el hz hu
    obtain ⟨z', hz', hzr⟩ := r_zero hz w
    have hzg := hzr g
    simp only [VRel] at hzg
    obtain ⟨zs, rfl, hzv⟩ := hzg
    cases hs : szOf P el with
    | none => simp [hs] at e
    | some size =>
      simp only [hs] at e
      cases hf : fillB (fun i => some (i * size, size)) zc ps with
      | none => simp [hf] at e
      | some cs =>
        simp [hf] at e; subst e
        obtain ⟨c', h1, h2⟩ := sim_fill ps qs zc cs zs hp hzv hf
        refine ⟨.agg c', ?_, by simp only [VRel]; exact ⟨_, rfl, h2⟩⟩
        simp only [Instr.build, Sem.run_bind, hz', Result.andThen_ok, r_underlying hu, r_sizeOf hs, Value.cells]
        rw [h1]
        simp
  · cases e
end
end Go.PB

set_option linter.unusedSimpArgs false
set_option linter.unusedVariables false
namespace Go.PB
open Go

section
variable {P : Program} {g : Gh} {h : BHeap} {w : World}

theorem repl_length (z : List BV) (n : Nat) : (repl z n).length = n * z.length := by
  induction n with
  | zero => simp [repl]
  | succ n ih => simp [repl, ih, Nat.succ_mul]; omega

theorem repl_get (z : List BV) (hz : 0 < z.length) : ∀ (n i : Nat), i < n * z.length → (repl z n)[i]? = z[i % z.length]? := by
  intro n
  induction n with
  | zero => intro i h; omega
  | succ n ih =>
    intro i hi
    simp only [repl]
    rw [List.getElem?_append]
    split
    · rename_i hlt; rw [Nat.mod_eq_of_lt hlt]
    · rename_i hge
      rw [Nat.succ_mul] at hi
      rw [ih _ (by omega)]
      congr 1
      conv => rhs; rw [show i = (i - z.length) + z.length by omega, Nat.add_mod_right]

theorem VRels.repl {z : List BV} {zs : Array Value} (hz : VRels P g w z zs.toList) (hp : 0 < z.length) (n : Nat) :
    VRels P g w (repl z n) ((Array.range (n * z.length)).map (fun i => zs[i % zs.size]!)).toList := by
  have hl := hz.length
  simp at hl
  refine VRels.of_get (by simp [repl_length]) fun i b v hb hv => ?_
  have hi : i < n * z.length := by
    have := (List.getElem?_eq_some_iff.1 hb).1
    rwa [repl_length] at this
  rw [repl_get z hp n i hi] at hb
  obtain ⟨u, hu, hr⟩ := hz.get hb
  have : v = u := by
    simp only [Array.toList_map, Array.toList_range, List.getElem?_map, List.getElem?_range hi, Option.map_some, Option.some.injEq] at hv
    rw [← hv]
    simp only [Array.getElem?_toList] at hu
    rw [← hl] at hu
    simp [getElem!_def, hu]
  rw [this]; exact hr

theorem real_buildSlice (hr : HRel P g h w) {b : Nat} {t : TypeId} {len : Nat} {ps : List (Nat × BV)} {qs : List (Nat × Value)} {v : BV} {h1 h2 : BHeap}
    (hp : PRel P g w ps qs) (e : buildSliceB P h1 t len ps = some (v, h2)) (hb : h.get b = h2.get h1.next) (hbn : b = h1.next) (hm : g.m b = none) :
    Real P g h w b v ((Instr.buildSlice t len qs.toArray).run P w) := by
  unfold buildSliceB at e
  split at e
  · rename_i el hu
    split at e
    · rename_i size' z hs hz
      dsimp only at e
      split at e
      · cases e
      · rename_i hc
        simp only [not_or, Nat.not_lt, Decidable.not_not] at hc
        obtain ⟨hc1, hc2, hc3⟩ := hc
        cases hf : fillB (fun i => some (i * (size' + 1), size' + 1)) (repl z.cells len) ps with
        | none => simp [hf] at e
        | some cs =>
          simp only [hf] at e
          split at e
          · rename_i hone
            simp only [Option.some.injEq, Prod.mk.injEq] at e
            obtain ⟨rfl, rfl⟩ := e
            rw [BHeap.get_new, if_pos rfl] at hb
            obtain ⟨z', hz', hzr⟩ := r_zero hz w
            have hzc := (hzr g).cells hc3
            have hzl := hzc.length
            simp at hzl
            obtain ⟨c', hf1, hf2⟩ := sim_fill ps qs _ cs ((Array.range (len * (size' + 1))).map (fun i => z'.cells[i % z'.cells.size]!)) hp (by
              have := hzc.repl (by omega) len
              rw [hc2] at this; exact this) hf
            have hrun : (Instr.buildSlice t len qs.toArray).run P w = .ok (.slice (some ⟨w.heap.size, 0, none⟩) len len) { w with heap := w.heap.push (.cells c' el) } := by
              simp only [Instr.buildSlice, Sem.run_bind, r_underlying hu, Result.andThen_ok, r_sizeOf hs]
              rw [if_neg (by simp only [Nat.succ_eq_add_one]; omega)]
              simp only [Nat.succ_eq_add_one]
              by_cases h0 : len * (size' + 1) = 0
              · rw [if_pos h0]
                have hl0 : len = 0 := by rcases Nat.mul_eq_zero.1 h0 with h0 | h0 <;> omega
                subst hl0
                have hfe : Instr.fill (fun i => some (i * (size' + 1), size' + 1)) ((Array.range (0 * (size' + 1))).map (fun i => (#[] : Array Value)[i % (#[] : Array Value).size]!)) qs = some c' := by
                  have e0 : (Array.range (0 * (size' + 1))).map (fun i => (#[] : Array Value)[i % (#[] : Array Value).size]!) = (Array.range (0 * (size' + 1))).map (fun i => z'.cells[i % z'.cells.size]!) := by simp
                  rw [e0]; exact hf1
                simp only [Sem.run_bind, Sem.run_pure, Result.andThen_ok]
                rw [hfe]
                simp [newRow]
              · rw [if_neg h0]
                simp only [Sem.run_bind, Sem.run_pure, hz', Result.andThen_ok]
                rw [hf1]
                simp [newRow]
            refine ⟨_, _, hrun, ?_⟩
            have h1' := real_row hr (vs := c'.toList) (c := c') (lo := 0) (hi := 0) (w' := { w with heap := w.heap.push (.cells c' el) }) hb hm hf2 (fun i x hi => by simpa using hi) rfl ⟨rfl, rfl, rfl⟩ (by omega) (fun _ => ⟨rfl, rfl⟩)
            refine ⟨h1'.1, h1'.2, ?_⟩
            simp only [VRel]
            refine ⟨_, _, _, by rw [← hbn]; exact Gh.upd_same _ _ _ _, rfl, rfl, fun e => by cases e⟩
          · cases e
    · cases e
  · cases e

theorem wrap_small {c : Int} (h0 : 0 ≤ c) (h1 : c < 2 ^ 40) : IntKind.i64.wrap c = c := by
  have e1 : (IntKind.i64).bits = 64 := rfl
  have e2 : (IntKind.i64).signed = true := rfl
  simp only [IntKind.wrap, e1, e2, Bool.true_and, decide_eq_true_eq]
  have : c % (2 ^ 64 : Int) = c := Int.emod_eq_of_lt h0 (by omega)
  rw [this, if_neg (by omega)]

theorem real_makeSlice (hr : HRel P g h w) {b : Nat} {t : TypeId} {l c : BV} {l' c' : Value} {v : BV} {h1 h2 : BHeap}
    (hl : VRel P g w l l') (hc : VRel P g w c c') (e : makeSliceB P h1 t l c = some (v, h2)) (hb : h.get b = h2.get h1.next) (hbn : b = h1.next) (hm : g.m b = none) :
    Real P g h w b v ((Instr.makeSlice t l' c').run P w) := by
  unfold makeSliceB at e
  split at e
  · rename_i el kl li kc ci hu
    simp only [VRel] at hl hc
    subst hl hc
    split at e
    · rename_i i z hi hz
      split at e
      · rename_i hcond
        obtain ⟨c1, c2, c3, c4, c5, c6, c7⟩ := hcond
        simp only [Option.some.injEq, Prod.mk.injEq] at e
        obtain ⟨rfl, rfl⟩ := e
        rw [BHeap.get_new, if_pos rfl] at hb
        obtain ⟨z', hz', hzr⟩ := r_zero hz w
        have hzc := (hzr g).cells c7
        have hzl := hzc.length
        simp at hzl
        have hsz : szOf P el = some i.size := szOf_info hi
        have hw1 := wrap_small (c := li) c1 (by omega)
        have hw2 := wrap_small (c := ci) (by omega) c3
        have hrun : (Instr.makeSlice t (.int kl li) (.int kc ci)).run P w = .ok (.slice (some ⟨w.heap.size, 0, none⟩) li.toNat ci.toNat)
            { w with heap := w.heap.push (.cells ((Array.range (ci.toNat * i.size)).map (fun j => z'.cells[j % z'.cells.size]!)) el) } := by
          simp only [Instr.makeSlice, Sem.run_bind, r_underlying hu, Result.andThen_ok, asInt, asIntOf, Sem.run_pure, r_info hi, hw1, hw2]
          have hd : (decide (ci < 0) || decide ((i.bytes : Int) * ci > 2 ^ 48)) = false := by
            simp only [Bool.or_eq_false_iff, decide_eq_false_iff_not]; omega
          rw [if_neg (by simp only [hd, Bool.false_or, Bool.or_eq_true, decide_eq_true_eq]; omega)]
          simp only [Sem.run_bind, run_askRoom, Result.andThen_ok, r_sizeOf hsz]
          by_cases h0 : ci.toNat * i.size = 0
          · rw [if_pos h0, h0]
            have e0 : Array.range 0 = #[] := rfl
            simp [newRow, e0]
          · rw [if_neg h0]
            simp [newRow, hz']
        refine ⟨_, _, hrun, ?_⟩
        have h1' := real_row hr (vs := ((Array.range (ci.toNat * i.size)).map (fun j => z'.cells[j % z'.cells.size]!)).toList) (lo := 0) (hi := 0)
          (w' := { w with heap := w.heap.push (.cells ((Array.range (ci.toNat * i.size)).map (fun j => z'.cells[j % z'.cells.size]!)) el) }) hb hm
          (by have := hzc.repl (by omega) ci.toNat
              rw [c6] at this; exact this) (fun i x hi => by rw [Array.getElem?_toList] at hi; exact hi) rfl ⟨rfl, rfl, rfl⟩ (by omega) (fun _ => ⟨rfl, rfl⟩)
        refine ⟨h1'.1, h1'.2, ?_⟩
        simp only [VRel]
        refine ⟨_, _, _, by rw [← hbn]; exact Gh.upd_same _ _ _ _, rfl, rfl, fun e => by cases e⟩
      · cases e
    · cases e
  · cases e

theorem freeze_push (w : World) (c : Array Value) (e : TypeId) (k : Nat) :
    (World.freeze { w with heap := w.heap.push (.cells c e (0, 0)) } ⟨w.heap.size, k, none⟩ 1) = { w with heap := w.heap.push (.cells c e (k, k + 1)) } := by
  simp only [World.freeze]
  rw [if_neg (by omega)]
  congr 1
  apply Array.ext_getElem?
  intro i
  rw [Array.getElem?_modify]
  by_cases ei : w.heap.size = i
  · subst ei; simp
  · rw [if_neg ei, Array.getElem?_push, Array.getElem?_push, if_neg (fun e => ei e.symm), if_neg (fun e => ei e.symm)]

theorem real_bytes (hr : HRel P g h w) {b : Nat} {el : TypeId} {s : List UInt8} (hu : P.cellsOf el = 1)
    (hb : h.get b = some (.cells (s.map fun c => BV.int .u8 c.toNat) el true)) (hm : g.m b = none) :
    Real P g h w b (.slice b 0 s.length none) ((Conv.stringToBytes el ⟨s.toArray⟩).run P w) := by
  let q : Question := .appendCap s.length 0 el
  let cap := q.cut (w.tape w.drawn q)
  have hcap : s.length ≤ cap := by
    show s.length ≤ Question.cut (.appendCap s.length 0 el) _
    simp only [Question.cut]; omega
  let c : Array Value := (s.map fun x => Value.int .u8 x.toNat).toArray ++ Array.replicate (cap - s.length) (.int .u8 0)
  have hcs : c.size = cap := by simp [c]; omega
  have hrun : (Conv.stringToBytes el ⟨s.toArray⟩).run P w = .ok (.slice (some ⟨w.heap.size, 0, none⟩) s.length cap) { w with heap := w.heap.push (.cells c el (cap, cap + 1)), drawn := w.drawn + 1 } := by
    simp only [Conv.stringToBytes, Sem.run_bind, run_choose, Question.forced, Bool.false_eq_true, if_false, Result.andThen_ok]
    have e1 : (ByteArray.mk s.toArray).size = s.length := by simp [ByteArray.size]
    simp only [e1, newRow, Sem.run_bind, run_newObj, Result.andThen_ok, Sem.run_pure, markStringish, run_shape]
    have e2 : (Array.map (fun (b : UInt8) => Value.int IntKind.u8 b.toNat) s.toArray ++ Array.replicate (Question.cut (.appendCap s.length 0 el) (w.tape w.drawn (.appendCap s.length 0 el)) - s.length) (Value.int .u8 0)) = c := by
      simp [c, cap, q]
    rw [e2]
    have e3 : World.shape? { w with drawn := w.drawn + 1, heap := w.heap.push (.cells c el) } w.heap.size = some (el, cap) := by
      simp [World.shape?, hcs]
    simp only [e3, run_freeze, Result.andThen_ok]
    have := freeze_push { w with drawn := w.drawn + 1 } c el cap
    simp only at this
    rw [this]
  refine ⟨_, _, hrun, ?_⟩
  have h1' := real_row hr (vs := s.map fun x => Value.int .u8 x.toNat) (c := c) (lo := cap) (hi := cap + 1)
    (w' := { w with heap := w.heap.push (.cells c el (cap, cap + 1)), drawn := w.drawn + 1 }) hb hm
    (VRels.map fun a _ => by simp [VRel]) (fun i x hi => by
      have hlt := (List.getElem?_eq_some_iff.1 hi).1
      simp only [List.length_map] at hlt
      simp only [c]
      rw [Array.getElem?_append_left (by simpa using hlt)]
      simpa using hi) rfl ⟨rfl, rfl, rfl⟩ (by rw [hcs]; omega) (fun e => by cases e)
  refine ⟨h1'.1, h1'.2, ?_⟩
  simp only [VRel]
  refine ⟨_, _, _, Gh.upd_same _ _ _ _, rfl, hcap, fun _ => ⟨el, cap, ?_, ?_⟩⟩
  · simp [World.shape?, hcs]
  · rw [hu]; omega

/-! addresses -/
theorem sim_fieldAddr {t : TypeId} {x v : BV} {x' : Value} {i : Nat} (hx : VRel P g w x x') (e : fieldAddrB P t x i = some v) :
    ∃ v', (Instr.fieldAt t x' i).run P w = .ok v' w ∧ VRel P g w v v' := by
  unfold fieldAddrB at e
  split at e
  · rename_i fs hu
    cases hf : fs[i]? with
    | none => simp [hf] at e
    | some f =>
      simp only [hf] at e
      split at e
      · rename_i n hs
        have hrun : ∀ a : Addr, (Instr.fieldAt t (.pointer (some a)) i).run P w = .ok (.pointer (some (a.add f.offset))) w := fun a => by
          simp only [Instr.fieldAt, Sem.run_bind, r_underlying hu, Result.andThen_ok, hf, Instr.sureAddr, Sem.run_pure, fieldPlace, r_sizeOf hs]
          rw [if_neg (by omega)]
          simp
        cases x with
        | ptr b off =>
          simp only [Option.some.injEq] at e; subst e
          simp only [VRel] at hx
          obtain ⟨blk, base, hm, rfl⟩ := hx
          refine ⟨_, hrun _, ?_⟩
          simp only [VRel, addr_add]
          exact ⟨blk, base, hm, by rw [Nat.add_assoc]⟩
        | rptr cs =>
          simp only [Option.some.injEq] at e; subst e
          simp only [VRel] at hx
          obtain ⟨blk, off, rfl, hf', vs, hv, hc⟩ := hx
          refine ⟨_, hrun _, ?_⟩
          simp only [VRel, addr_add]
          exact ⟨blk, _, rfl, hf', vs.drop f.offset, hv.drop _, hc.drop⟩
        | _ => simp at e
      · cases e
  · cases e

theorem asIntOf_run {k : IntKind} {n : Int} : (asIntOf (.int k n)).run P w = .ok (k, n) w := rfl

theorem sim_indexAddr {t : TypeId} {x ix v : BV} {x' ix' : Value} (hx : VRel P g w x x') (hi : VRel P g w ix ix') (e : indexAddrB P t x ix = some v) :
    ∃ v', (Instr.indexAt t x' ix').run P w = .ok v' w ∧ VRel P g w v v' := by
  unfold indexAddrB at e
  cases ix with
  | int k i =>
    simp only [VRel] at hi; subst hi
    dsimp only at e
    split at e
    · cases e
    · rename_i hneg
      split at e
      · rename_i len el hu
        cases hs : szOf P el with
        | none => simp [hs] at e
        | some size =>
          simp only [hs] at e
          split at e
          · rename_i hlt
            have hrun : ∀ a : Addr, (Instr.indexAt t (.pointer (some a)) (.int k i)).run P w = .ok (.pointer (some (a.add (i.toNat * size)))) w := fun a => by
              simp only [Instr.indexAt, Sem.run_bind, asIntOf_run, Result.andThen_ok, r_underlying hu, Instr.sureAddr, Sem.run_pure]
              rw [if_pos ⟨by omega, by omega⟩]
              simp [r_sizeOf hs]
            cases x with
            | ptr b off =>
              simp only [Option.some.injEq] at e; subst e
              simp only [VRel] at hx
              obtain ⟨blk, base, hm, rfl⟩ := hx
              refine ⟨_, hrun _, ?_⟩
              simp only [VRel, addr_add]
              exact ⟨blk, base, hm, by rw [Nat.add_assoc]⟩
            | rptr cs =>
              simp only [Option.some.injEq] at e; subst e
              simp only [VRel] at hx
              obtain ⟨blk, off, rfl, hf', vs, hv, hc⟩ := hx
              refine ⟨_, hrun _, ?_⟩
              simp only [VRel, addr_add]
              exact ⟨blk, _, rfl, hf', vs.drop _, hv.drop _, hc.drop⟩
            | _ => simp at e
          · cases e
      · rename_i el hu
        cases hs : szOf P el with
        | none => simp [hs] at e
        | some size =>
          simp only [hs] at e
          have hrun : ∀ (a : Addr) (len c : Nat), i.toNat < len → (Instr.indexAt t (.slice (some a) len c) (.int k i)).run P w = .ok (.pointer (some (a.add (i.toNat * size)))) w := fun a len c hlt => by
            simp only [Instr.indexAt, Sem.run_bind, asIntOf_run, Result.andThen_ok, r_underlying hu, Sem.run_pure]
            rw [if_pos ⟨by omega, by omega⟩]
            simp [r_sizeOf hs]
          cases x with
          | slice b off len cap =>
            dsimp only at e
            split at e
            · rename_i hlt
              simp only [Option.some.injEq] at e; subst e
              simp only [VRel] at hx
              obtain ⟨blk, base, c, hm, rfl, _⟩ := hx
              refine ⟨_, hrun _ _ _ hlt, ?_⟩
              simp only [VRel, addr_add]
              exact ⟨blk, base, hm, by rw [Nat.add_assoc]⟩
            · cases e
          | rslice cs len cap =>
            dsimp only at e
            split at e
            · rename_i hlt
              simp only [Option.some.injEq] at e; subst e
              simp only [VRel] at hx
              obtain ⟨blk, off, c, rfl, hf', _, vs, hv, hc⟩ := hx
              refine ⟨_, hrun _ _ _ hlt, ?_⟩
              simp only [VRel, addr_add]
              exact ⟨blk, _, rfl, hf', vs.drop _, hv.drop _, hc.drop⟩
            · cases e
          | _ => simp at e
      · cases e
  | _ => simp at e

theorem sim_index {t : TypeId} {x ix v : BV} {x' ix' : Value} (hx : VRel P g w x x') (hi : VRel P g w ix ix') (e : indexB P t x ix = some v) :
    ∃ v', (Instr.index t x' ix').run P w = .ok v' w ∧ VRel P g w v v' := by
  unfold indexB at e
  cases ix with
  | int k i =>
    simp only [VRel] at hi; subst hi
    dsimp only at e
    split at e
    · cases e
    · rename_i hneg
      split at e
      · rename_i len el cs hu
        cases hs : szOf P el with
        | none => simp [hs] at e
        | some size =>
          simp only [hs] at e
          split at e
          · rename_i hlt
            simp only [VRel] at hx
            obtain ⟨vs, rfl, hv⟩ := hx
            obtain ⟨v', h1, h2⟩ := sim_part hv e
            refine ⟨v', ?_, h2⟩
            simp only [Instr.index, Sem.run_bind, asIntOf_run, Result.andThen_ok, r_underlying hu]
            rw [if_pos ⟨by omega, by omega⟩]
            simp [r_sizeOf hs, h1]
          · cases e
      · rename_i s hu
        simp only [VRel] at hx; subst hx
        cases hsi : s[i.toNat]? with
        | none => simp [hsi] at e
        | some c =>
          simp [hsi] at e; subst e
          refine ⟨.int .u8 c.toNat, ?_, by simp [VRel]⟩
          simp only [Instr.index, Sem.run_bind, asIntOf_run, Result.andThen_ok, r_underlying hu]
          rw [if_pos (by omega)]
          obtain ⟨hlt, hcc⟩ := List.getElem?_eq_some_iff.1 hsi
          have : (ByteArray.mk s.toArray)[i.toNat]? = some c := by
            rw [getElem?_pos (ByteArray.mk s.toArray) i.toNat (by simpa [ByteArray.size] using hlt)]
            congr 1
          simp [this]
      · cases e
  | _ => simp at e

theorem sim_field {t : TypeId} {x v : BV} {x' : Value} {i : Nat} (hx : VRel P g w x x') (e : fieldB P t x i = some v) :
    ∃ v', (Instr.field t x' i).run P w = .ok v' w ∧ VRel P g w v v' := by
  unfold fieldB at e
  split at e
  · rename_i fs cs hu
    cases hf : fs[i]? with
    | none => simp [hf] at e
    | some f =>
      simp only [hf] at e
      simp only [VRel] at hx
      obtain ⟨vs, rfl, hv⟩ := hx
      obtain ⟨v', h1, h2⟩ := sim_part hv e
      refine ⟨v', ?_, h2⟩
      simp [Instr.field, r_underlying hu, hf, asAgg, h1]
  · cases e
end
end Go.PB

set_option linter.unusedSimpArgs false
set_option linter.unusedVariables false
namespace Go.PB
open Go

section
variable {P : Program} {g : Gh} {h : BHeap} {w : World}

/-! slicing -/
theorem bound_some {x : Option BV} {x' : Option Value} {r : Option Nat} (hx : (x = none ∧ x' = none) ∨ ∃ b v, x = some b ∧ x' = some v ∧ VRel P g w b v) (e : bound? x = some r) :
    (x = none ∧ x' = none ∧ r = none) ∨ ∃ k i, x' = some (.int k i) ∧ 0 ≤ i ∧ r = some i.toNat := by
  rcases hx with ⟨rfl, rfl⟩ | ⟨b, v, rfl, rfl, hv⟩
  · simp [bound?] at e; exact .inl ⟨rfl, rfl, e.symm⟩
  · right
    cases b with
    | int k i =>
      simp only [VRel] at hv; subst hv
      simp only [bound?] at e
      split at e
      · cases e
      · cases e; exact ⟨k, i, rfl, by omega, rfl⟩
    | _ => simp [bound?] at e

/-- an operand that may be absent -/
def ORelV (P : Program) (g : Gh) (w : World) (x : Option BV) (x' : Option Value) : Prop := (x = none ∧ x' = none) ∨ ∃ b v, x = some b ∧ x' = some v ∧ VRel P g w b v

theorem run_sliceBound {k : IntKind} {i : Int} {y : Nat} {code : BoundsCode} (h0 : 0 ≤ i) (h1 : i.toNat ≤ y) : (Instr.sliceBound (.int k i) y code).run P w = .ok i.toNat w := by
  simp only [Instr.sliceBound, Sem.run_bind, asIntOf_run, Result.andThen_ok]
  rw [if_pos ⟨h0, by omega⟩]; rfl

theorem run_lowBound {lo : Option BV} {lo' : Option Value} {l : Option Nat} (hlo : ORelV P g w lo lo') (el : bound? lo = some l) (hh mm : Nat) (code : BoundsCode) (hle : l.getD 0 ≤ hh) :
    ((match (generalizing := false) lo' with
      | some v => do
        let l ← Instr.sliceBound v hh code
        pure (l, hh, mm)
      | none => do
        let l ← pure 0
        pure (l, hh, mm)) : Sem (Nat × Nat × Nat)).run P w = .ok (l.getD 0, hh, mm) w := by
  rcases bound_some hlo el with ⟨_, rfl, rfl⟩ | ⟨k, i, rfl, hi0, rfl⟩
  · rfl
  · simp only [Sem.run_bind]
    rw [run_sliceBound hi0 hle]; rfl

theorem run_sliceBounds {isS : Bool} {len cap : Nat} {lo hi mx : Option BV} {lo' hi' mx' : Option Value} {l h' m : Option Nat} (hlo : ORelV P g w lo lo') (hhi : ORelV P g w hi hi') (hmx : ORelV P g w mx mx')
    (el : bound? lo = some l) (eh : bound? hi = some h') (em : bound? mx = some m) (c1 : m.getD cap ≤ cap) (c2 : h'.getD len ≤ m.getD cap) (c3 : l.getD 0 ≤ h'.getD len) (c4 : m.isNone || h'.isSome) :
    (Instr.sliceBounds isS len cap lo' hi' mx').run P w = .ok (l.getD 0, h'.getD len, m.getD cap) w := by
  rcases bound_some hmx em with ⟨_, rfl, rfl⟩ | ⟨k, i, rfl, hi0, rfl⟩
  · rcases bound_some hhi eh with ⟨_, rfl, rfl⟩ | ⟨k2, i2, rfl, hi2, rfl⟩
    · simp only [Instr.sliceBounds, Sem.run_bind, Sem.run_pure, Result.andThen_ok, Option.getD_none] at *
      exact run_lowBound hlo el _ _ _ c3
    · simp only [Instr.sliceBounds, Sem.run_bind, Sem.run_pure, Result.andThen_ok, Option.getD_none, Option.getD_some] at *
      rw [run_sliceBound hi2 c2]
      simp only [Result.andThen_ok]
      exact run_lowBound hlo el _ _ _ c3
  · rcases bound_some hhi eh with ⟨_, rfl, rfl⟩ | ⟨k2, i2, rfl, hi2, rfl⟩
    · simp at c4
    · simp only [Instr.sliceBounds, Sem.run_bind, Sem.run_pure, Result.andThen_ok, Option.getD_some] at *
      rw [run_sliceBound hi0 c1]
      simp only [Result.andThen_ok]
      rw [run_sliceBound hi2 c2]
      simp only [Result.andThen_ok]
      exact run_lowBound hlo el _ _ _ c3

theorem run_slice_slice {t el : TypeId} {size : Nat} {a : Option Addr} {len c : Nat} {lo hi mx : Option BV} {lo' hi' mx' : Option Value} {l h' m : Option Nat} (hu : P.underlying t = some (.slice el)) (hs : szOf P el = some size)
    (hlo : ORelV P g w lo lo') (hhi : ORelV P g w hi hi') (hmx : ORelV P g w mx mx')
    (el' : bound? lo = some l) (eh : bound? hi = some h') (em : bound? mx = some m) (c1 : m.getD c ≤ c) (c2 : h'.getD len ≤ m.getD c) (c3 : l.getD 0 ≤ h'.getD len) (c4 : m.isNone || h'.isSome) :
    (Instr.sliceAt t (.slice a len c) lo' hi' mx').run P w = .ok (.slice (if m.getD c = l.getD 0 then a else a.map (·.add (l.getD 0 * size))) (h'.getD len - l.getD 0) (m.getD c - l.getD 0)) w := by
  have hb := run_sliceBounds (P := P) (g := g) (w := w) (isS := true) hlo hhi hmx el' eh em c1 c2 c3 c4
  simp only [Instr.sliceAt, Sem.run_bind, r_underlying hu, Result.andThen_ok, Instr.slice, hb, r_sizeOf hs, Sem.run_pure]

theorem Tail.drop {blk off c l e n : Nat} (hs : w.shape? blk = some (e, n)) (ht : off + c * P.cellsOf e = n) (hl : l ≤ c) (size : Nat) (hsz : P.cellsOf e = size) : off + l * size + (c - l) * P.cellsOf e = n := by
  rw [hsz] at ht ⊢
  have : l * size + (c - l) * size = c * size := by rw [← Nat.add_mul]; congr 1; omega
  omega

theorem lim_real {m cap hh : Option Nat} {len c : Nat} (hcap : capOk cap len c) (h1 : capLe m cap len = true) (h2 : hiLe (hh.getD len) (limOf m cap) len = true) : m.getD c ≤ c ∧ hh.getD len ≤ m.getD c := by
  cases m with
  | some k =>
    cases cap with
    | some q => simp [capOk, capLe, hiLe, limOf] at hcap h1 h2; subst hcap; exact ⟨h1, h2⟩
    | none => simp [capOk, capLe, hiLe, limOf] at hcap h1 h2; exact ⟨by simp; omega, h2⟩
  | none =>
    cases cap with
    | some q => simp [capOk, hiLe, limOf] at hcap h2; subst hcap; exact ⟨by simp, h2⟩
    | none => simp [capOk, hiLe, limOf] at hcap h2; exact ⟨by simp, by simp; omega⟩

theorem sim_slice {t : TypeId} {x v : BV} {x' : Value} {lo hi mx : Option BV} {lo' hi' mx' : Option Value} (hr : HRel P g h w) (hx : VRel P g w x x') (hlo : ORelV P g w lo lo') (hhi : ORelV P g w hi hi') (hmx : ORelV P g w mx mx')
    (e : sliceB P h t x lo hi mx = some v) : ∃ v', (Instr.sliceAt t x' lo' hi' mx').run P w = .ok v' w ∧ VRel P g w v v' := by
  unfold sliceB at e
  split at e
  · rename_i l hh m el eh em
    dsimp only at e
    split at e
    · -- a string
      rename_i s hu
      simp only [VRel] at hx; subst hx
      split at e
      · rename_i hc
        simp only [Bool.and_eq_true, decide_eq_true_eq] at hc
        obtain ⟨⟨hm, h1⟩, h2⟩ := hc
        cases e
        refine ⟨.string ⟨(((s.take (hh.getD s.length)).drop (l.getD 0))).toArray⟩, ?_, by simp [VRel]⟩
        have hmn : mx' = none := by
          rcases bound_some hmx em with ⟨_, r, _⟩ | ⟨k, i, _, _, r⟩
          · exact r
          · subst r; simp at hm
        subst hmn
        have e1 : (ByteArray.mk s.toArray).size = s.length := by simp [ByteArray.size]
        have hb := run_sliceBounds (P := P) (g := g) (w := w) (isS := false) (len := s.length) (cap := s.length) hlo hhi (mx := none) (mx' := none) (.inl ⟨rfl, rfl⟩) el eh (m := none) rfl (by simp) (by simpa using h2) h1 (by simp)
        simp only [Instr.sliceAt, Sem.run_bind, r_underlying hu, Result.andThen_ok, Instr.slice, Option.isSome_none, Bool.false_eq_true, if_false, e1, hb, Sem.run_pure]
        congr 2
        apply ByteArray.ext
        simp [ByteArray.data_extract, List.extract_eq_take_drop, ← List.drop_take]
      · cases e
    · -- nil
      rename_i el' hu
      simp only [VRel] at hx; subst hx
      split at e
      · rename_i hc
        simp only [Bool.and_eq_true, decide_eq_true_eq] at hc
        obtain ⟨⟨⟨h1, h2⟩, h3⟩, h4⟩ := hc
        cases e
        refine ⟨.slice none 0 0, ?_, by simp [VRel]⟩
        cases hs : szOf P el' with
        | none => simp [hs] at h4
        | some size =>
          have := run_slice_slice (P := P) (g := g) (w := w) (a := none) (len := 0) (c := 0) hu hs hlo hhi hmx el eh em (by omega) (by omega) (by omega) (by
            cases m with
            | none => rfl
            | some m => rcases bound_some hmx em with ⟨_, _, r⟩ | _
                        · cases r
                        · cases hh with
                          | none => simp [hs] at h4
                          | some _ => rfl)
          rw [this, h1, h2, h3]; rfl
      · cases e
    · -- a slice
      rename_i el' b off len cap hu
      simp only [VRel] at hx
      obtain ⟨blk, base, c, hm, rfl, hcap, ht⟩ := hx
      cases hs : szOf P el' with
      | none => simp [hs] at e
      | some size =>
        simp only [hs] at e
        split at e
        · rename_i hc
          simp only [Bool.and_eq_true] at hc
          obtain ⟨⟨⟨hc1, hc2⟩, hc3⟩, hc4⟩ := hc
          have hc3 : l.getD 0 ≤ hh.getD len := by simpa using hc3
          have hM := lim_real hcap hc1 hc2
          have hrun := run_slice_slice (P := P) (g := g) (w := w) (a := some ⟨blk, base + off, none⟩) (len := len) (c := c) hu hs hlo hhi hmx el eh em hM.1 hM.2 hc3 (by simpa [or_comm] using hc4)
          refine ⟨_, hrun, ?_⟩
          have hknown : ∀ k, limOf m cap = some k → some (BV.slice b (if k = l.getD 0 then off else off + l.getD 0 * size) (hh.getD len - l.getD 0) (some (k - l.getD 0))) = some v →
              VRel P g w v (.slice (if m.getD c = l.getD 0 then some ⟨blk, base + off, none⟩ else (some (⟨blk, base + off, none⟩ : Addr)).map (·.add (l.getD 0 * size))) (hh.getD len - l.getD 0) (m.getD c - l.getD 0)) := fun k hk ev => by
            have hmk : m.getD c = k := by
              cases m with
              | some q => simp [limOf] at hk; simp [hk]
              | none => simp [limOf] at hk; subst hk; simp [capOk] at hcap; simp [hcap]
            cases ev
            simp only [VRel, hmk]
            refine ⟨blk, base, k - l.getD 0, hm, ?_, rfl, fun e => by cases e⟩
            by_cases hkl : k = l.getD 0
            · rw [if_pos hkl, if_pos hkl]
            · rw [if_neg hkl, if_neg hkl]; simp [addr_add, Nat.add_assoc]
          cases m with
          | some k => exact hknown k rfl e
          | none =>
            cases cap with
            | some k => exact hknown k rfl e
            | none =>
              simp [capOk] at hcap
              simp [hiLe, limOf] at hc2
              simp only [Option.getD_none]
              simp only [limOf] at e
              by_cases hl0 : l.getD 0 = 0
              · rw [if_pos hl0] at e; cases e
                rw [hl0]
                simp only [VRel, Nat.sub_zero]
                refine ⟨blk, base, c, hm, ?_, ?_, by simpa using ht⟩
                · split <;> simp [Addr.add]
                · simp only [capOk]; omega
              · rw [if_neg hl0] at e
                split at e
                · rename_i hlt
                  split at e
                  · rename_i cs e' s hb
                    split at e
                    · rename_i hse
                      cases e
                      rw [if_neg (by omega)]
                      simp only [VRel, Option.map_some, addr_add]
                      refine ⟨blk, base, c - l.getD 0, hm, by rw [Nat.add_assoc], by simp only [capOk]; omega, fun _ => ?_⟩
                      obtain ⟨e1, n, hsh, hn⟩ := ht rfl
                      obtain ⟨cc, lo1, hi1, vs, hw1, _⟩ := hr.cells hb hm
                      have he : e1 = e' := by
                        simp [World.shape?, hw1] at hsh; exact hsh.1.symm
                      subst he
                      refine ⟨e1, n, hsh, ?_⟩
                      have := Tail.drop (P := P) (l := l.getD 0) hsh hn (by omega) size (szOf_cellsOf hse)
                      rw [← Nat.add_assoc]; exact this
                    · cases e
                  · cases e
                · cases e
                  simp only [VRel]
                  have hz : hh.getD len - l.getD 0 = 0 := by omega
                  rw [hz]
                  split
                  · exact ⟨_, _, rfl⟩
                  · exact ⟨_, _, rfl⟩
        · cases e
    · -- a frozen slice
      rename_i el' cs len cap hu
      simp only [VRel] at hx
      obtain ⟨blk, off, c, rfl, hfz, hcap, vs, hv, hcs⟩ := hx
      cases hs : szOf P el' with
      | none => simp [hs] at e
      | some size =>
        simp only [hs] at e
        split at e
        · rename_i hc
          simp only [Bool.and_eq_true] at hc
          obtain ⟨⟨⟨⟨hc1, hc2⟩, hc0⟩, hc3⟩, hc4⟩ := hc
          have hc0 : hh.getD len ≤ len := by simpa using hc0
          have hc3 : l.getD 0 ≤ hh.getD len := by simpa using hc3
          have hM := lim_real hcap hc1 hc2
          have hrun := run_slice_slice (P := P) (g := g) (w := w) (a := some ⟨blk, off, none⟩) (len := len) (c := c) hu hs hlo hhi hmx el eh em hM.1 hM.2 hc3 (by simpa [or_comm] using hc4)
          refine ⟨_, hrun, ?_⟩
          have hknown : ∀ k, limOf m cap = some k → some (BV.rslice (if k = l.getD 0 then [] else cs.drop (l.getD 0 * size)) (hh.getD len - l.getD 0) (some (k - l.getD 0))) = some v →
              VRel P g w v (.slice (if m.getD c = l.getD 0 then some ⟨blk, off, none⟩ else (some (⟨blk, off, none⟩ : Addr)).map (·.add (l.getD 0 * size))) (hh.getD len - l.getD 0) (m.getD c - l.getD 0)) := fun k hk ev => by
            have hmk : m.getD c = k := by
              cases m with
              | some q => simp [limOf] at hk; simp [hk]
              | none => simp [limOf] at hk; subst hk; simp [capOk] at hcap; simp [hcap]
            cases ev
            simp only [VRel, hmk]
            by_cases hkl : k = l.getD 0
            · rw [if_pos hkl, if_pos hkl]
              exact ⟨blk, off, _, rfl, hfz, rfl, [], VRels.nil, fun i x hi => by simp at hi⟩
            · rw [if_neg hkl, if_neg hkl]
              exact ⟨blk, off + l.getD 0 * size, _, by simp [addr_add], hfz, rfl, _, hv.drop _, hcs.drop⟩
          cases m with
          | some k => exact hknown k rfl e
          | none =>
            cases cap with
            | some k => exact hknown k rfl e
            | none =>
              simp [capOk] at hcap
              simp only [Option.getD_none]
              simp only [limOf] at e
              by_cases hl0 : l.getD 0 = 0
              · rw [if_pos hl0] at e; cases e
                rw [hl0]
                simp only [VRel, Nat.sub_zero]
                refine ⟨blk, off, c, ?_, hfz, by simp only [capOk]; omega, vs, hv, hcs⟩
                split <;> simp [Addr.add]
              · rw [if_neg hl0] at e
                split at e
                · rename_i hlt
                  cases e
                  rw [if_neg (by omega)]
                  simp only [VRel, Option.map_some, addr_add]
                  exact ⟨blk, off + l.getD 0 * size, c - l.getD 0, rfl, hfz, by simp only [capOk]; omega, _, hv.drop _, hcs.drop⟩
                · cases e
                  simp only [VRel]
                  have hz : hh.getD len - l.getD 0 = 0 := by omega
                  rw [hz]
                  split
                  · exact ⟨_, _, rfl⟩
                  · exact ⟨_, _, rfl⟩
        · cases e
    · -- an array behind a pointer
      rename_i n el' b off hu
      simp only [VRel] at hx
      obtain ⟨blk, base, hm, rfl⟩ := hx
      cases hs : szOf P el' with
      | none => simp [hs] at e
      | some size =>
        simp only [hs] at e
        split at e
        · rename_i hc
          simp only [Bool.and_eq_true, decide_eq_true_eq] at hc
          obtain ⟨⟨⟨hc1, hc2⟩, hc3⟩, hc4⟩ := hc
          cases e
          have hb := run_sliceBounds (P := P) (g := g) (w := w) (isS := false) (len := n) (cap := n) hlo hhi hmx el eh em hc1 hc2 hc3 (by simpa [or_comm] using hc4)
          refine ⟨_, by simp only [Instr.sliceAt, Sem.run_bind, r_underlying hu, Result.andThen_ok, Instr.sureAddr, Sem.run_pure, hb, r_sizeOf hs]; rfl, ?_⟩
          simp only [VRel]
          refine ⟨blk, base, _, hm, ?_, rfl, fun e => by cases e⟩
          by_cases hkl : m.getD n = l.getD 0
          · rw [if_pos hkl, if_pos hkl]
          · rw [if_neg hkl, if_neg hkl]; simp [addr_add, Nat.add_assoc]
        · cases e
    · cases e
  · cases e
end
end Go.PB

set_option linter.unusedSimpArgs false
set_option linter.unusedVariables false
namespace Go.PB
open Go

section
variable {P : Program} {g : Gh} {h : BHeap} {w : World}

theorem beq_bytes (a b : List UInt8) : (ByteArray.mk a.toArray == ByteArray.mk b.toArray) = (a == b) := by
  rw [Bool.eq_iff_iff]
  constructor
  · intro h
    have : (a.toArray == b.toArray) = true := h
    simpa using this
  · intro h
    have : a = b := by simpa using h
    subst this
    show (a.toArray == a.toArray) = true
    simp

theorem frozen_cells {w : World} {blk : Nat} {c : Array Value} {e : TypeId} (hw : w.heap[blk]? = some (.cells c e (0, 0))) (off : Nat) (sp : Option Nat) : w.frozen? ⟨blk, off, sp⟩ = false := by
  simp [World.frozen?, hw]

theorem run_sameAddr {a b : Addr} {c d : Array Value} {e f : TypeId} (hne : a.block ≠ b.block) (ha : w.heap[a.block]? = some (.cells c e (0, 0))) (hb : w.heap[b.block]? = some (.cells d f (0, 0))) :
    (sameAddr a b).run P w = .ok false w := by
  have sa : w.shape? a.block = some (e, c.size) := by simp [World.shape?, ha]
  have sb : w.shape? b.block = some (f, d.size) := by simp [World.shape?, hb]
  have fa : ∀ x y, w.frozen? ⟨a.block, x, y⟩ = false := fun x y => frozen_cells ha x y
  have fb : ∀ x y, w.frozen? ⟨b.block, x, y⟩ = false := fun x y => frozen_cells hb x y
  have fa' : w.frozen? a = false := fa a.off a.spot
  have fb' : w.frozen? b = false := fb b.off b.spot
  simp [sameAddr, hne, fa', fb', noView, viewAt, sa, sb, mayBeOne, stringish, fa, fb]

theorem sim_fields {E : TypeId → BV → BV → Option Bool} {E' : TypeId → Value → Value → Sem Bool}
    (hE : ∀ t x y x' y' r, VRel P g w x x' → VRel P g w y y' → E t x y = some r → (E' t x' y').run P w = .ok r w) :
    ∀ (fs : List Field) (xs ys : List BV) (xs' ys' : Array Value) (r : Bool), VRels P g w xs xs'.toList → VRels P g w ys ys'.toList → eqFields P E fs xs ys = some r →
    (forIn fs ((none, ()) : Option Bool × Unit) (fun f __s =>
            if f.name ≠ "_" then do
              let __do_lift ← part f.type xs' f.offset
              let __do_lift_1 ← part f.type ys' f.offset
              let __do_lift ← E' f.type __do_lift __do_lift_1
              if (!__do_lift) = true then pure (ForInStep.done (some false, ())) else pure (ForInStep.yield (none, ()))
            else pure (ForInStep.yield (none, ()))) : Sem (Option Bool × Unit)).run P w = .ok ((if r then none else some false), ()) w := by
  intro fs
  induction fs with
  | nil => intro xs ys xs' ys' r _ _ e; simp [eqFields] at e; subst e; simp
  | cons f fs ih =>
    intro xs ys xs' ys' r hx hy e
    simp only [eqFields] at e
    simp only [List.forIn_cons, Sem.run_bind]
    by_cases hn : f.name ≠ "_"
    · rw [if_pos hn] at e
      rw [if_pos hn]
      split at e
      · rename_i a b ha hb
        obtain ⟨a', ha1, ha2⟩ := sim_part hx ha
        obtain ⟨b', hb1, hb2⟩ := sim_part hy hb
        simp only [Sem.run_bind, ha1, hb1, Result.andThen_ok]
        split at e
        · rename_i he
          rw [hE _ _ _ _ _ _ ha2 hb2 he]
          simp only [Result.andThen_ok, Bool.not_true, Bool.false_eq_true, if_false, Sem.run_pure]
          exact ih xs ys xs' ys' r hx hy e
        · rename_i he
          rw [hE _ _ _ _ _ _ ha2 hb2 he]
          cases e
          simp
        · cases e
      · cases e
    · rw [if_neg hn] at e
      rw [if_neg hn]
      simp only [Sem.run_pure, Result.andThen_ok]
      exact ih xs ys xs' ys' r hx hy e

theorem sim_aelems {E : TypeId → BV → BV → Option Bool} {E' : TypeId → Value → Value → Sem Bool} {el : TypeId} {n : Nat}
    (hE : ∀ t x y x' y' r, VRel P g w x x' → VRel P g w y y' → E t x y = some r → (E' t x' y').run P w = .ok r w) :
    ∀ (is : List Nat) (xs ys : List BV) (xs' ys' : Array Value) (r : Bool), VRels P g w xs xs'.toList → VRels P g w ys ys'.toList → eqElems P E el n is xs ys = some r →
    (forIn is ((none, ()) : Option Bool × Unit) (fun i __s => do
              let __do_lift ← part el xs' (i * n)
              let __do_lift_1 ← part el ys' (i * n)
              let __do_lift ← E' el __do_lift __do_lift_1
              if (!__do_lift) = true then pure (ForInStep.done (some false, ())) else pure (ForInStep.yield (none, ()))) : Sem (Option Bool × Unit)).run P w = .ok ((if r then none else some false), ()) w := by
  intro is
  induction is with
  | nil => intro xs ys xs' ys' r _ _ e; simp [eqElems] at e; subst e; simp
  | cons f fs ih =>
    intro xs ys xs' ys' r hx hy e
    simp only [eqElems] at e
    simp only [List.forIn_cons, Sem.run_bind]
    split at e
    · rename_i a b ha hb
      obtain ⟨a', ha1, ha2⟩ := sim_part hx ha
      obtain ⟨b', hb1, hb2⟩ := sim_part hy hb
      simp only [Sem.run_bind, ha1, hb1, Result.andThen_ok]
      split at e
      · rename_i he
        rw [hE _ _ _ _ _ _ ha2 hb2 he]
        simp only [Result.andThen_ok, Bool.not_true, Bool.false_eq_true, if_false, Sem.run_pure]
        exact ih xs ys xs' ys' r hx hy e
      · rename_i he
        rw [hE _ _ _ _ _ _ ha2 hb2 he]
        cases e
        simp
      · cases e
    · cases e

theorem sim_eq (hr : HRel P g h w) : ∀ (d : Nat) (t : TypeId) (x y : BV) (x' y' : Value) (r : Bool), VRel P g w x x' → VRel P g w y y' → eqB P h d t x y = some r →
    ∀ D, d ≤ D → (Op.equalIn D t x' y').run P w = .ok r w := by
  intro d
  induction d with
  | zero => intro t x y x' y' r _ _ e; simp [eqB] at e
  | succ d ih =>
    intro t x y x' y' r hx hy e D hD
    obtain ⟨D, rfl⟩ : ∃ D', D = D' + 1 := ⟨D - 1, by omega⟩
    have hD' : d ≤ D := by omega
    unfold eqB at e
    split at e
    · rename_i a b hu
      simp only [VRel] at hx hy; subst hx hy
      cases e
      refine (Sem.run_bind P w (underlying t) _).trans ?_
      rw [r_underlying hu, Result.andThen_ok]; rfl
    · rename_i k a k' b hu
      simp only [VRel] at hx hy; subst hx hy
      split at e
      · rename_i hk; subst hk
        cases e
        refine (Sem.run_bind P w (underlying t) _).trans ?_
        rw [r_underlying hu, Result.andThen_ok]
        show Sem.run P (if k = k then pure (a == b) else _) w = _
        rw [if_pos rfl]; rfl
      · cases e
    · rename_i a b hu
      simp only [VRel] at hx hy; subst hx hy
      cases e
      refine (Sem.run_bind P w (underlying t) _).trans ?_
      rw [r_underlying hu, Result.andThen_ok, ← beq_bytes]; rfl
    · rename_i el hu
      simp only [VRel] at hx hy; subst hx hy
      cases e
      refine (Sem.run_bind P w (underlying t) _).trans ?_
      rw [r_underlying hu, Result.andThen_ok]; rfl
    · rename_i el b o hu
      simp only [VRel] at hx hy; subst hx; obtain ⟨_, _, _, rfl⟩ := hy
      cases e
      refine (Sem.run_bind P w (underlying t) _).trans ?_
      rw [r_underlying hu, Result.andThen_ok]; rfl
    · rename_i el cs hu
      simp only [VRel] at hx hy; subst hx; obtain ⟨_, _, rfl, _⟩ := hy
      cases e
      refine (Sem.run_bind P w (underlying t) _).trans ?_
      rw [r_underlying hu, Result.andThen_ok]; rfl
    · rename_i el b o hu
      simp only [VRel] at hx hy; subst hy; obtain ⟨_, _, _, rfl⟩ := hx
      cases e
      refine (Sem.run_bind P w (underlying t) _).trans ?_
      rw [r_underlying hu, Result.andThen_ok]; rfl
    · rename_i el cs hu
      simp only [VRel] at hx hy; subst hy; obtain ⟨_, _, rfl, _⟩ := hx
      cases e
      refine (Sem.run_bind P w (underlying t) _).trans ?_
      rw [r_underlying hu, Result.andThen_ok]; rfl
    · rename_i el a i b j hu
      simp only [VRel] at hx hy
      obtain ⟨ba, oa, hma, rfl⟩ := hx
      obtain ⟨bb, ob, hmb, rfl⟩ := hy
      split at e
      · rename_i ha hb hs
        obtain ⟨ca, la, ha', _, hwa, _, _, _, _, hfa⟩ := hr.cells ha hma
        obtain ⟨cb, lb, hb', _, hwb, _, _, _, _, hfb⟩ := hr.cells hb hmb
        obtain ⟨rfl, rfl⟩ := hfa rfl
        obtain ⟨rfl, rfl⟩ := hfb rfl
        cases e
        refine (Sem.run_bind P w (underlying t) _).trans ?_
        rw [r_underlying hu, Result.andThen_ok]
        refine (Sem.run_bind P w (sizeOf el) _).trans ?_
        rw [r_sizeOf hs, Result.andThen_ok]
        rw [if_pos (by omega)]
        by_cases hab : a = b
        · subst hab
          rw [hma] at hmb; cases hmb
          rw [if_pos rfl]
          simp only [sameAddr, beq_self_eq_true, if_true, Sem.run_pure]
          congr 1
          rw [Bool.eq_iff_iff]
          simp only [beq_iff_eq]
          constructor
          · intro he; injection he with h1 h2; omega
          · rintro rfl; rfl
        · rw [if_neg hab]
          exact run_sameAddr (fun he => hab (hr.inj _ _ _ _ _ _ _ ha hb hma (by simp at he; rw [he]; exact hmb))) hwa hwb
      · cases e
    · rename_i ms hu
      simp only [VRel] at hx hy; subst hx hy
      cases e
      refine (Sem.run_bind P w (underlying t) _).trans ?_
      rw [r_underlying hu, Result.andThen_ok]; rfl
    · rename_i ms t' v hu
      simp only [VRel] at hx hy; subst hx; obtain ⟨_, rfl, _⟩ := hy
      cases e
      refine (Sem.run_bind P w (underlying t) _).trans ?_
      rw [r_underlying hu, Result.andThen_ok]; rfl
    · rename_i ms t' v hu
      simp only [VRel] at hx hy; subst hy; obtain ⟨_, rfl, _⟩ := hx
      cases e
      refine (Sem.run_bind P w (underlying t) _).trans ?_
      rw [r_underlying hu, Result.andThen_ok]; rfl
    · rename_i ms tx vx ty vy hu
      simp only [VRel] at hx hy
      obtain ⟨x', rfl, hx⟩ := hx
      obtain ⟨y', rfl, hy⟩ := hy
      split at e
      · rename_i hne
        cases e
        refine (Sem.run_bind P w (underlying t) _).trans ?_
        rw [r_underlying hu, Result.andThen_ok]
        show Sem.run P (if tx ≠ ty then pure false else _) w = _
        rw [if_pos hne]; rfl
      · rename_i heq
        have heq : tx = ty := by simpa using heq
        subst heq
        split at e
        · rename_i i hi
          split at e
          · rename_i hc
            refine (Sem.run_bind P w (underlying t) _).trans ?_
            rw [r_underlying hu, Result.andThen_ok]
            dsimp only
            rw [if_neg (by simp)]
            simp only [Sem.run_bind, r_info hi, Result.andThen_ok, hc, Bool.not_true, Bool.false_eq_true, if_false]
            exact ih tx vx vy x' y' r hx hy e D hD'
          · cases e
        · cases e
    · rename_i fields xs ys hu
      simp only [VRel] at hx hy
      obtain ⟨xs', rfl, hx⟩ := hx
      obtain ⟨ys', rfl, hy⟩ := hy
      split at e
      · cases e
      · rename_i hst
        have hst : P.stoodInHeld t = false := by simpa using hst
        have := sim_fields (P := P) (g := g) (w := w) (E := eqB P h d) (E' := Op.equalIn D) (fun t x y x' y' r hx hy e => ih t x y x' y' r hx hy e D hD') fields.toList xs ys xs' ys' r hx hy e
        refine (Sem.run_bind P w (underlying t) _).trans ?_
        rw [r_underlying hu, Result.andThen_ok]
        refine (Sem.run_bind P w program _).trans ?_
        rw [run_program, Result.andThen_ok, hst]
        rw [← Array.forIn_toList]
        refine (Sem.run_bind P w _ _).trans ?_
        rw [this]
        cases r <;> rfl
    · rename_i len el xs ys hu
      simp only [VRel] at hx hy
      obtain ⟨xs', rfl, hx⟩ := hx
      obtain ⟨ys', rfl, hy⟩ := hy
      split at e
      · rename_i n hs
        have := sim_aelems (P := P) (g := g) (w := w) (E := eqB P h d) (E' := Op.equalIn D) (fun t x y x' y' r hx hy e => ih t x y x' y' r hx hy e D hD') (List.range' 0 len 1) xs ys xs' ys' r hx hy e
        refine (Sem.run_bind P w (underlying t) _).trans ?_
        rw [r_underlying hu, Result.andThen_ok]
        refine (Sem.run_bind P w (sizeOf el) _).trans ?_
        rw [r_sizeOf hs, Result.andThen_ok]
        refine (Sem.run_bind P w _ _).trans ?_
        rw [Std.Legacy.Range.forIn_eq_forIn_range']
        simp only [Std.Legacy.Range.size, Nat.sub_zero, Nat.add_sub_cancel, Nat.div_one]
        rw [this]
        cases r <;> rfl
      · cases e
    all_goals first
      | (cases e; done)
      | (rename_i hu; simp only [VRel] at hx hy; first
          | (subst hx hy)
          | (subst hx; obtain ⟨_, _, _, _, rfl, _⟩ := hy)
          | (subst hy; obtain ⟨_, _, _, _, rfl, _⟩ := hx)
          | (subst hx; obtain ⟨_, _, _, rfl, _⟩ := hy)
          | (subst hy; obtain ⟨_, _, _, rfl, _⟩ := hx)
          | (subst hx; obtain ⟨_, _, rfl, _⟩ := hy)
          | (subst hy; obtain ⟨_, _, rfl, _⟩ := hx)
          | (subst hx; obtain ⟨_, _, rfl⟩ := hy)
          | (subst hy; obtain ⟨_, _, rfl⟩ := hx)
         cases e
         refine (Sem.run_bind P w (underlying t) _).trans ?_
         rw [r_underlying hu, Result.andThen_ok]; rfl)
end
end Go.PB

set_option linter.unusedSimpArgs false
set_option linter.unusedVariables false
namespace Go.PB
open Go

section
variable {P : Program} {g : Gh} {h : BHeap} {w : World}

theorem bytes_toList (a : List UInt8) : (ByteArray.mk a.toArray).toList = a := by
  rw [ByteArray.toList_eq]

theorem bytes_append (a b : List UInt8) : ByteArray.mk a.toArray ++ ByteArray.mk b.toArray = ByteArray.mk (a ++ b).toArray := by
  apply ByteArray.ext
  simp

def vkind : Value → Nat
  | .int .. => 1 | .float .. => 2 | .complex .. => 3 | .string .. => 4 | _ => 0
def bkind : BV → Nat
  | .int .. => 1 | .str .. => 4 | _ => 0

theorem VRel.kind {b : BV} {v : Value} (hv : VRel P g w b v) (hk : b.known = true) : bkind b = vkind v := by
  cases b <;> simp only [VRel] at hv <;> first
    | (simp [BV.known] at hk; done)
    | (subst hv; rfl)
    | (obtain ⟨_, rfl, _⟩ := hv; rfl)
    | (obtain ⟨_, _, rfl⟩ := hv; rfl)
    | (obtain ⟨_, _, rfl, _⟩ := hv; rfl)
    | (obtain ⟨_, _, _, rfl⟩ := hv; rfl)
    | (obtain ⟨_, _, _, rfl, _⟩ := hv; rfl)
    | (obtain ⟨_, _, _, _, rfl, _⟩ := hv; rfl)

theorem binOp_eq_other (t : TypeId) {x y : Value} (hk : vkind x ≠ vkind y ∨ vkind x = 0) :
    binOp .eql t x y = (do pure (.bool (← Op.equal t x y))) ∧ binOp .neq t x y = (do pure (.bool (!(← Op.equal t x y)))) := by
  cases x <;> cases y <;> first
    | exact ⟨rfl, rfl⟩
    | (simp [vkind] at hk; done)

theorem eqB_known {d : Nat} {t : TypeId} {x y : BV} {r : Bool} (e : eqB P h (d + 1) t x y = some r) : x.known = true ∧ y.known = true := by
  unfold eqB at e
  split at e <;> first
    | exact ⟨rfl, rfl⟩
    | (cases e; done)

theorem sim_bin (hr : HRel P g h w) {op : BinOp} {t : TypeId} {x y v : BV} {x' y' : Value} (hx : VRel P g w x x') (hy : VRel P g w y y') (e : binB P h op t x y = some v) :
    ∃ v', (binOp op t x' y').run P w = .ok v' w ∧ VRel P g w v v' := by
  have heq : ∀ r, eqB P h 12 t x y = some r → (Op.equal t x' y').run P w = .ok r w := fun r hb => sim_eq hr 12 t x y x' y' r hx hy hb Op.maxDepth (by unfold Op.maxDepth; omega)
  by_cases hi : ∃ k a k' b, x = .int k a ∧ y = .int k' b
  · obtain ⟨k, a, k', b, rfl, rfl⟩ := hi
    simp only [VRel] at hx hy; subst hx hy
    by_cases hs : op = .shl ∨ op = .shr
    · rcases hs with rfl | rfl
      · simp only [binB] at e
        split at e
        · cases e
        · rename_i hb
          cases e
          exact ⟨_, by simp only [binOp, Op.shift]; rw [if_neg hb]; rfl, by simp [VRel]⟩
      · simp only [binB] at e
        split at e
        · cases e
        · rename_i hb
          cases e
          exact ⟨_, by simp only [binOp, Op.shift]; rw [if_neg hb]; rfl, by simp [VRel]⟩
    · have hne : op ≠ .shl ∧ op ≠ .shr := by
        constructor <;> intro h' <;> exact hs (by simp [h'])
      have e' : (if k ≠ k' then none else
          match op with
          | .add => some (BV.int k (k.wrap (a + b)))
          | .sub => some (.int k (k.wrap (a - b)))
          | .mul => some (.int k (k.wrap (a * b)))
          | .quo => if b = 0 then none else some (.int k (k.wrap (a.tdiv b)))
          | .rem => if b = 0 then none else some (.int k (a.tmod b))
          | .and => some (.int k (k.wrap (BitVec.ofInt k.bits a &&& BitVec.ofInt k.bits b).toNat))
          | .or => some (.int k (k.wrap (BitVec.ofInt k.bits a ||| BitVec.ofInt k.bits b).toNat))
          | .xor => some (.int k (k.wrap (BitVec.ofInt k.bits a ^^^ BitVec.ofInt k.bits b).toNat))
          | .andNot => some (.int k (k.wrap (BitVec.ofInt k.bits a &&& ~~~(BitVec.ofInt k.bits b)).toNat))
          | .eql => some (.bool (a == b))
          | .neq => some (.bool (a != b))
          | .lss => some (.bool (decide (a < b)))
          | .leq => some (.bool (decide (a ≤ b)))
          | .gtr => some (.bool (decide (a > b)))
          | .geq => some (.bool (decide (a ≥ b)))
          | _ => none) = some v := by
        rw [← e]; cases op <;> first | rfl | (exact absurd rfl hne.1) | (exact absurd rfl hne.2)
      split at e'
      · cases e'
      · rename_i hk
        have hk : k = k' := by simpa using hk
        subst hk
        cases op <;> dsimp only at e'
        case quo =>
          split at e'
          · cases e'
          · rename_i hb; cases e'
            exact ⟨_, by simp only [binOp]; rw [if_neg (by simp)]; simp only [Op.intDiv]; rw [if_neg hb]; rfl, by simp [VRel]⟩
        case rem =>
          split at e'
          · cases e'
          · rename_i hb; cases e'
            exact ⟨_, by simp only [binOp]; rw [if_neg (by simp)]; simp only [Op.intDiv]; rw [if_neg hb]; rfl, by simp [VRel]⟩
        all_goals first
          | (cases e'; done)
          | (cases e'; exact ⟨_, by simp only [binOp]; rw [if_neg (by simp)]; rfl, by simp only [VRel]⟩)
  by_cases hst : ∃ a b, x = .str a ∧ y = .str b
  · obtain ⟨a, b, rfl, rfl⟩ := hst
    simp only [VRel] at hx hy; subst hx hy
    have hb : ∀ op, op ≠ .shl → op ≠ .shr → binOp op t (.string ⟨a.toArray⟩) (.string ⟨b.toArray⟩) = Op.stringOp op ⟨a.toArray⟩ ⟨b.toArray⟩ := fun op h1 h2 => by
      cases op <;> first | rfl | (exact absurd rfl h1) | (exact absurd rfl h2)
    cases op <;> simp only [binB] at e
    case add =>
      split at e
      · rename_i hl
        cases e
        refine ⟨.string ⟨(a ++ b).toArray⟩, ?_, by simp [VRel]⟩
        rw [hb _ (by simp) (by simp)]
        simp only [Op.stringOp]
        rw [if_neg (by simp only [ByteArray.size, List.size_toArray]; simp only [IntKind.max, IntKind.signed, IntKind.bits, if_true]; omega), bytes_append]
        rfl
      · cases e
    all_goals first
      | (cases e; done)
      | (cases e; refine ⟨_, by rw [hb _ (by simp) (by simp)]; simp only [Op.stringOp, bytes_toList, Sem.run_pure]; rfl, ?_⟩; simp [VRel, bytesLt])
      | (simp [eqB] at e)
  -- what is left is == and !=
  have hop : (op = .eql ∧ (eqB P h 12 t x y).map BV.bool = some v) ∨ (op = .neq ∧ (eqB P h 12 t x y).map (fun b => BV.bool (!b)) = some v) := by
    unfold binB at e
    split at e
    · exact absurd ⟨_, _, _, _, rfl, rfl⟩ hi
    · exact absurd ⟨_, _, _, _, rfl, rfl⟩ hi
    · exact absurd ⟨_, _, _, _, rfl, rfl⟩ hi
    · exact absurd ⟨_, _, rfl, rfl⟩ hst
    · exact .inl ⟨rfl, e⟩
    · exact .inr ⟨rfl, e⟩
    · cases e
  have fin : ∀ r, eqB P h 12 t x y = some r → (vkind x' ≠ vkind y' ∨ vkind x' = 0) := fun r hb => by
    obtain ⟨k1, k2⟩ := eqB_known hb
    rw [← VRel.kind hx k1, ← VRel.kind hy k2]
    by_cases h0 : bkind x = 0
    · exact .inr h0
    · left
      cases x <;> simp [bkind] at h0 <;> cases y <;> simp [bkind] <;> first
        | exact absurd ⟨_, _, _, _, rfl, rfl⟩ hi
        | exact absurd ⟨_, _, rfl, rfl⟩ hst
  rcases hop with ⟨rfl, hv⟩ | ⟨rfl, hv⟩
  · cases hb : eqB P h 12 t x y with
    | none => simp [hb] at hv
    | some r =>
      simp [hb] at hv; subst hv
      exact ⟨.bool r, by rw [(binOp_eq_other t (fin r hb)).1]; simp [heq r hb], by simp [VRel]⟩
  · cases hb : eqB P h 12 t x y with
    | none => simp [hb] at hv
    | some r =>
      simp [hb] at hv; subst hv
      exact ⟨.bool (!r), by rw [(binOp_eq_other t (fin r hb)).2]; simp [heq r hb], by simp [VRel]⟩
end
end Go.PB

