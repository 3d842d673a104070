/- What B's operations do is what the model's do: values, loads, stores, parts, equality. -/
import Derived.Test.YthjdcddpoihcdaaGreatDoorPosH
import Derived.Laws.Build
set_option linter.unusedSimpArgs false
set_option linter.unusedVariables false
namespace Go.PB
open Go

section
variable {P : Program} {g : Gh} {h : BHeap} {w : World}

theorem r_underlying {t : TypeId} {d : TypeDesc} (e : P.underlying t = some d) (w : World) : (underlying t).run P w = .ok d w := by
  simp [underlying, e]
theorem r_info {t : TypeId} {i : TypeInfo} (e : P.info? t = some i) (w : World) : (typeInfo t).run P w = .ok i w := by
  simp [typeInfo, e]
theorem r_sizeOf {t : TypeId} {n : Nat} (e : szOf P t = some n) (w : World) : (sizeOf t).run P w = .ok n w := by
  unfold szOf at e
  cases hi : P.info? t with
  | none => rw [hi] at e; cases e
  | some i => rw [hi] at e; simp at e; simp [sizeOf, r_info hi, e]
theorem szOf_cellsOf {t : TypeId} {n : Nat} (e : szOf P t = some n) : P.cellsOf t = n := by
  unfold szOf at e; unfold Program.cellsOf; rw [e]; rfl
theorem szOf_info {t : TypeId} {i : TypeInfo} (e : P.info? t = some i) : szOf P t = some i.size := by simp [szOf, e]
theorem r_isAgg {t : TypeId} {b : Bool} (e : isAggB P t = some b) (w : World) : (isAgg t).run P w = .ok b w := by
  unfold isAggB at e
  cases hu : P.underlying t with
  | none => rw [hu] at e; cases e
  | some d =>
    rw [hu] at e; simp at e
    simp only [isAgg, Sem.run_bind, r_underlying hu, Result.andThen_ok]
    split at e <;> simp_all

theorem VRel.of (P : Program) (g : Gh) (w : World) : ∀ (n : Nat) (v : Value), VRel P g w (BV.of n v) v := by
  intro n
  induction n with
  | zero => intro v; simp [BV.of, VRel]
  | succ n ih =>
    intro v
    have hmap : ∀ cs : Array Value, VRels P g w (cs.toList.map (BV.of n)) cs.toList := fun cs => by
      have := VRels.map (P := P) (g := g) (w := w) (l := cs.toList) (f := BV.of n) (f' := id) (fun a _ => ih a)
      simpa using this
    cases v with
    | pointer a => cases a <;> simp [BV.of, VRel]
    | slice a l c =>
      simp only [BV.of]
      split
      all_goals first
        | (rename_i e; injection e with e1 e2 e3; subst e1 e2 e3; simp [VRel]; done)
        | (simp_all [VRel]; done)
        | simp [VRel]
    | map r => cases r <;> simp [BV.of, VRel]
    | string s => simp [BV.of, VRel]
    | iface t x => simp only [BV.of, VRel]; exact ⟨x, rfl, ih x⟩
    | agg cs => simp only [BV.of, VRel]; exact ⟨cs, rfl, hmap cs⟩
    | tuple cs => simp only [BV.of, VRel]; exact ⟨cs, rfl, hmap cs⟩
    | _ => simp [BV.of, VRel]

theorem VRel.ofv (P : Program) (g : Gh) (w : World) (v : Value) : VRel P g w (BV.ofv v) v := VRel.of P g w 6 v

theorem r_zero {t : TypeId} {z : BV} (e : zeroB P t = some z) (w : World) : ∃ z', (zeroValue t).run P w = .ok z' w ∧ ∀ g, VRel P g w z z' := by
  unfold zeroB at e
  cases hi : P.info? t with
  | none => rw [hi] at e; cases e
  | some i =>
    rw [hi] at e
    cases hz : i.zero with
    | none => simp [hz] at e
    | some z' =>
      simp [hz] at e; subst e
      exact ⟨z', by simp [zeroValue, r_info hi, hz], fun g => VRel.ofv P g w z'⟩

theorem takeCells_some {cs r : List BV} {off n : Nat} (e : takeCells cs off n = some r) : r = (cs.drop off).take n ∧ r.length = n := by
  unfold takeCells at e
  dsimp only at e
  split at e
  · rename_i hl; cases e; exact ⟨rfl, hl⟩
  · cases e

theorem putCells_some {cs r vs : List BV} {off : Nat} (e : putCells cs off vs = some r) : r = cs.take off ++ (vs ++ cs.drop (off + vs.length)) ∧ off + vs.length ≤ cs.length := by
  unfold putCells at e
  split at e
  · rename_i hl; cases e; exact ⟨rfl, hl⟩
  · cases e

theorem VRels.takeCells {cs r : List BV} {vs : List Value} {off n : Nat} (hv : VRels P g w cs vs) (e : takeCells cs off n = some r) :
    VRels P g w r ((vs.drop off).take n) ∧ ((vs.drop off).take n).length = n := by
  obtain ⟨rfl, hl⟩ := takeCells_some e
  have := (hv.drop off).take n
  exact ⟨this, by rw [this.length]; exact hl⟩

theorem putCells_get {cs r vs : List BV} {off : Nat} (e : putCells cs off vs = some r) (j : Nat) : r[j]? = if off ≤ j ∧ j < off + vs.length then vs[j - off]? else cs[j]? := by
  obtain ⟨rfl, hl⟩ := putCells_some e
  rw [List.getElem?_append]
  simp only [List.length_take]
  rw [Nat.min_eq_left (by omega)]
  by_cases h1 : j < off
  · rw [if_pos h1, if_neg (by omega), List.getElem?_take, if_pos h1]
  · rw [if_neg h1, List.getElem?_append]
    by_cases h2 : j - off < vs.length
    · rw [if_pos h2, if_pos (by omega)]
    · rw [if_neg h2, if_neg (by omega), List.getElem?_drop]; congr 1; omega

theorem putCells_length {cs r vs : List BV} {off : Nat} (e : putCells cs off vs = some r) : r.length = cs.length := by
  obtain ⟨rfl, hl⟩ := putCells_some e
  simp; omega

/-- what B knows of a block of cells -/
theorem HRel.cells (hr : HRel P g h w) {b blk base : Nat} {cs : List BV} {e : TypeId} {s : Bool} (hb : h.get b = some (.cells cs e s)) (hm : g.m b = some (blk, base)) :
    ∃ c lo hi vs, w.heap[blk]? = some (.cells c e (lo, hi)) ∧ VRels P g w cs vs ∧ (∀ i x, vs[i]? = some x → c[base + i]? = some x) ∧ CellsAt w blk base vs ∧
      (∀ i, i < c.size → ¬ (lo ≤ i ∧ i < hi)) ∧ (s = false → lo = 0 ∧ hi = 0) := by
  obtain ⟨_, o, ho, hr'⟩ := hr.obj _ _ _ _ hb hm
  simp only [ORel] at hr'
  obtain ⟨c, lo, hi, rfl, ⟨vs, hv, hc⟩, hf, hs⟩ := hr'
  refine ⟨c, lo, hi, vs, ho, hv, hc, fun i x hi' => ?_, hf, hs⟩
  simp only [World.cell?, ho]
  exact hc i x hi'

theorem CellsAt.drop {blk off k : Nat} {vs : List Value} (hc : CellsAt w blk off vs) : CellsAt w blk (off + k) (vs.drop k) := by
  intro i x hi
  rw [List.getElem?_drop] at hi
  have := hc _ _ hi
  rwa [show off + (k + i) = off + k + i by omega] at this

theorem CellsAt.take {blk off k : Nat} {vs : List Value} (hc : CellsAt w blk off vs) : CellsAt w blk off (vs.take k) := by
  intro i x hi
  rw [List.getElem?_take] at hi
  split at hi
  · exact hc _ _ hi
  · cases hi

/-- a load of a type from a row of cells -/
theorem run_loadVar_at {t : TypeId} {blk off : Nat} {cs : List BV} {vs : List Value} {k : Nat} {ag : Bool} {n : Nat} {v : BV} (hag : isAggB P t = some ag) (hn : szOf P t = some n)
    (hv : VRels P g w cs vs) (hc : CellsAt w blk off vs)
    (e : (if ag then (takeCells cs k n).map BV.agg else cs[k]?) = some v) : ∃ v', (loadVar t ⟨blk, off + k, none⟩).run P w = .ok v' w ∧ VRel P g w v v' := by
  cases ag with
  | true =>
    simp only [if_true] at e
    cases ht : Go.PB.takeCells cs k n with
    | none => rw [ht] at e; cases e
    | some r =>
      rw [ht] at e; simp at e; subst e
      obtain ⟨h1, h2⟩ := hv.takeCells ht
      refine ⟨.agg ((vs.drop k).take n).toArray, ?_, by simp only [VRel]; exact ⟨_, rfl, h1⟩⟩
      simp only [loadVar, Sem.run_bind, r_isAgg hag, Result.andThen_ok, if_true, r_sizeOf hn]
      rw [run_loadCells_at _ h2 (hc.drop.take)]
      rfl
  | false =>
    simp only [Bool.false_eq_true, if_false] at e
    obtain ⟨v', hv', hr'⟩ := hv.get e
    refine ⟨v', ?_, hr'⟩
    simp only [loadVar, Sem.run_bind, r_isAgg hag, Result.andThen_ok, Bool.false_eq_true, if_false, run_load]
    rw [hc _ _ hv']

theorem sim_loadVar (hr : HRel P g h w) {t : TypeId} {a v : BV} {a' : Value} (ha : VRel P g w a a') (e : loadB P h t a = some v) :
    ∃ ad v', a' = .pointer (some ad) ∧ (loadVar t ad).run P w = .ok v' w ∧ VRel P g w v v' := by
  unfold loadB at e
  cases hag : isAggB P t with
  | none => simp [hag] at e
  | some ag =>
    cases hn : szOf P t with
    | none => simp [hag, hn] at e
    | some n =>
      simp only [hag, hn] at e
      cases a with
      | ptr b off =>
        simp only [VRel] at ha
        obtain ⟨blk, base, hm, rfl⟩ := ha
        dsimp only at e
        cases hb : h.get b with
        | none => simp [hb] at e
        | some o =>
          cases o with
          | cells cs et s =>
            simp only [hb] at e
            obtain ⟨c, lo, hi, vs, hw, hv, _, hc, _⟩ := hr.cells hb hm
            obtain ⟨v', h1, h2⟩ := run_loadVar_at hag hn hv hc e
            exact ⟨_, v', rfl, h1, h2⟩
          | _ => simp [hb] at e
      | rptr cs =>
        simp only [VRel] at ha
        obtain ⟨blk, off, rfl, _, vs, hv, hc⟩ := ha
        dsimp only at e
        obtain ⟨v', h1, h2⟩ := run_loadVar_at (k := 0) hag hn hv hc e
        exact ⟨_, v', rfl, h1, h2⟩
      | _ => simp at e

theorem sim_load (hr : HRel P g h w) {t : TypeId} {a v : BV} {a' : Value} (ha : VRel P g w a a') (e : loadB P h t a = some v) :
    ∃ v', (Instr.loadAt t a').run P w = .ok v' w ∧ VRel P g w v v' := by
  obtain ⟨ad, v', rfl, h1, h2⟩ := sim_loadVar hr ha e
  exact ⟨v', by simp [Instr.loadAt, Instr.sureAddr, h1], h2⟩

def Ph (g : Gh) (h : BHeap) (g' : Gh) (h' : BHeap) : Prop := ∀ b, b < h.next → g.m b = none → g'.m b = none ∧ h'.get b = h.get b

theorem Ph.refl (g : Gh) (h : BHeap) : Ph g h g h := fun _ _ e => ⟨e, rfl⟩
theorem Ph.trans {g g' g'' : Gh} {h h' h'' : BHeap} (a : Ph g h g' h') (hn : h.next ≤ h'.next) (b : Ph g' h' g'' h'') : Ph g h g'' h'' := fun x hx e => by
  obtain ⟨e1, h1⟩ := a x hx e
  obtain ⟨e2, h2⟩ := b x (Nat.lt_of_lt_of_le hx hn) e1
  exact ⟨e2, h2.trans h1⟩
theorem Ph.put {b : Nat} {x : Nat × Nat} (hm : g.m b = some x) (o : Option BObj) : Ph g h g (h.put b o) := fun b1 _ e => ⟨e, by
  rw [BHeap.get_put, if_neg (fun ee => by subst ee; rw [hm] at e; cases e)]⟩
theorem Ph.new (o : BObj) : Ph g h g (h.new o) := fun b1 hb e => ⟨e, by rw [BHeap.get_new, if_neg (by omega)]⟩
theorem Ph.upd {blk base : Nat} : Ph g h (g.upd h.next blk base) h := fun b1 hb e => ⟨by rw [Gh.upd_other g (by omega)]; exact e, rfl⟩

theorem oneCell'_of {b : BV} {v : Value} (hv : VRel P g w b v) (ho : b.one = true) : v.oneCell' = true := by
  obtain ⟨_, h1, h2⟩ := hv.one ho
  cases v <;> first | rfl | (exact absurd rfl (h1 _)) | (exact absurd rfl (h2 _))

theorem allOne {cs : List BV} {vs : List Value} (hv : VRels P g w cs vs) (ho : cs.all BV.one = true) : ∀ v ∈ vs, v.oneCell' = true := by
  intro v hm
  obtain ⟨i, hi⟩ := List.getElem?_of_mem hm
  obtain ⟨b, hb, hr⟩ := hv.get' hi
  exact oneCell'_of hr ((List.all_eq_true.1 ho) b (List.mem_of_getElem? hb))

/-- cells stored into a block of B's -/
theorem sim_put (hr : HRel P g h w) {b blk base off : Nat} {cs cs' xs : List BV} {e : TypeId} {s : Bool} {ys : List Value} (hb : h.get b = some (.cells cs e s)) (hm : g.m b = some (blk, base))
    (hx : VRels P g w xs ys) (ho : xs.all BV.one = true) (hp : putCells cs off xs = some cs') :
    ∃ w', (storeCells ⟨blk, base + off, none⟩ ys).run P w = .ok () w' ∧ HRel P g (h.put b (some (.cells cs' e s))) w' ∧ Ext g h w g (h.put b (some (.cells cs' e s))) w' := by
  obtain ⟨c, lo, hi, vs, hw, hv, hc, _, hf, hs⟩ := hr.cells hb hm
  obtain ⟨_, hle⟩ := putCells_some hp
  have hcsz : ys ≠ [] → base + off + ys.length ≤ c.size := fun hne => by
    have hl : ys.length = xs.length := hx.length
    have hpos : 0 < ys.length := List.length_pos_iff.2 hne
    have hvl : vs.length = cs.length := hv.length
    have h1 : off + ys.length - 1 < vs.length := by omega
    have := hc _ _ (List.getElem?_eq_getElem h1)
    have := (Array.getElem?_eq_some_iff.1 this).1
    omega
  have hrun : (storeCells ⟨blk, base + off, none⟩ ys).run P w = .ok () (w.putBlk blk (.cells (setMany c (base + off) ys) e (lo, hi))) := by
    cases hys : ys with
    | nil =>
      simp only [storeCells, Sem.run_pure, setMany]
      have := run_storeCells_row (P := P) blk 0 e lo hi [] 0 c w hw (by simp) (by simp) hf
      simpa [storeCells, setMany] using this
    | cons y r =>
      have hb' := hcsz (by rw [hys]; simp)
      rw [hys] at hb'
      have := run_storeCells_row (P := P) blk (base + off) e lo hi (y :: r) 0 c w hw (by simpa using hb') (fun v hv => allOne hx ho v (by rw [hys]; exact hv)) hf
      simpa using this
  refine ⟨_, hrun, ?_⟩
  refine hr.write hb hm hw rfl ⟨rfl, rfl, rfl⟩ (fun s hs => ?_) (fun hmono => ?_)
  · have hlt := (Array.getElem?_eq_some_iff.1 hw).1
    simp only [World.shape?, hw] at hs
    simp only [World.shape?, putBlk_heap_same hlt, setMany_size]
    exact hs
  · simp only [ORel]
    refine ⟨_, lo, hi, rfl, ⟨vs.take off ++ (ys ++ vs.drop (off + ys.length)), ?_, ?_⟩, by simpa using hf, hs⟩
    · obtain ⟨rfl, _⟩ := putCells_some hp
      have h1 := VRels.mono hmono _ _ hv
      have h2 := VRels.mono hmono _ _ hx
      rw [hx.length]
      exact (h1.take off).append (h2.append (h1.drop _))
    · intro i x hi'
      have hxl := hx.length
      have hvl := hv.length
      rw [List.getElem?_append] at hi'
      simp only [List.length_take] at hi'
      rw [Nat.min_eq_left (by omega)] at hi'
      by_cases hne : ys = []
      · subst hne
        simp only [setMany]
        simp only [List.length_nil, Nat.add_zero, List.nil_append, List.getElem?_drop, List.getElem?_take] at hi'
        by_cases h1 : i < off
        · rw [if_pos h1, if_pos h1] at hi'; exact hc i x hi'
        · rw [if_neg h1, show off + (i - off) = i by omega] at hi'; exact hc i x hi'
      · rw [setMany_get _ _ _ _ (hcsz hne)]
        by_cases h1 : i < off
        · rw [if_pos h1, List.getElem?_take, if_pos h1] at hi'
          rw [if_neg (by omega)]; exact hc i x hi'
        · rw [if_neg h1, List.getElem?_append] at hi'
          by_cases h2 : i - off < ys.length
          · rw [if_pos h2] at hi'
            rw [if_pos (by omega), show base + i - (base + off) = i - off by omega]; exact hi'
          · rw [if_neg h2, List.getElem?_drop, show off + ys.length + (i - off - ys.length) = i by omega] at hi'
            rw [if_neg (by omega)]; exact hc i x hi'

theorem run_storeVar_cells {t : TypeId} {n : Nat} (hn : szOf P t = some n) {ad : Addr} {v : Value} (hl : v.cells.size = n) {w w' : World}
    (hs : (storeCells ad v.cells.toList).run P w = .ok () w') : (storeVar t ad v).run P w = .ok () w' := by
  simp only [storeVar, Sem.run_bind, r_sizeOf hn, Result.andThen_ok]
  rw [if_neg (by simpa using hl)]
  exact hs

theorem sim_store (hr : HRel P g h w) {t : TypeId} {a v : BV} {a' v' : Value} {h' : BHeap} (ha : VRel P g w a a') (hv : VRel P g w v v') (e : storeB P h t a v = some h') :
    ∃ w', (Instr.storeAt t a' v').run P w = .ok () w' ∧ HRel P g h' w' ∧ Ext g h w g h' w' ∧ Ph g h g h' := by
  unfold storeB at e
  cases hn : szOf P t with
  | none => simp [hn] at e
  | some n =>
    cases a with
    | ptr b off =>
      simp only [hn] at e
      simp only [VRel] at ha
      obtain ⟨blk, base, hm, rfl⟩ := ha
      cases hb : h.get b with
      | none => simp [hb] at e
      | some o =>
        cases o with
        | cells cs et s =>
          simp only [hb] at e
          split at e
          · rename_i hc
            simp only [Bool.and_eq_true, decide_eq_true_eq] at hc
            cases hp : putCells cs off v.cells with
            | none => rw [hp] at e; cases e
            | some cs' =>
              rw [hp] at e; simp at e; subst e
              have hx := hv.cells hc.2
              obtain ⟨w', h1, h2, h3⟩ := sim_put hr hb hm hx hc.2 hp
              refine ⟨w', ?_, h2, h3, Ph.put hm _⟩
              simp only [Instr.storeAt, Instr.sureAddr, Sem.run_bind, Sem.run_pure, Result.andThen_ok]
              refine run_storeVar_cells hn ?_ h1
              have := hx.length; simp at this; omega
          · cases e
        | _ => simp [hb] at e
    | _ => simp [hn] at e

/-- a part of a struct or of an array -/
theorem sim_part {t : TypeId} {cs : List BV} {vs : Array Value} {off : Nat} {v : BV} (hv : VRels P g w cs vs.toList) (e : partB P t cs off = some v) :
    ∃ v', (part t vs off).run P w = .ok v' w ∧ VRel P g w v v' := by
  unfold partB at e
  split at e
  · rename_i n hag hn
    cases ht : takeCells cs off n with
    | none => rw [ht] at e; cases e
    | some r =>
      rw [ht] at e; simp at e; subst e
      obtain ⟨h1, h2⟩ := hv.takeCells ht
      refine ⟨.agg (vs.extract off (off + n)), ?_, ?_⟩
      · simp [part, r_isAgg hag, r_sizeOf hn]
      · simp only [VRel]
        refine ⟨_, rfl, ?_⟩
        rw [Array.toList_extract]
        simpa [List.extract_eq_take_drop] using h1
  · rename_i hag
    obtain ⟨v', hv', hr'⟩ := hv.get e
    refine ⟨v', ?_, hr'⟩
    have : vs[off]? = some v' := by simpa using hv'
    simp [part, r_isAgg hag, this]
  · cases e
end
end Go.PB
