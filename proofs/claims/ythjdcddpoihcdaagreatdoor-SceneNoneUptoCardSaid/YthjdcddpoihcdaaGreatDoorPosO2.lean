/- What B's operations do is what the model's do: what makes memory; building. -/
import Derived.Test.YthjdcddpoihcdaaGreatDoorPosO1
set_option linter.unusedSimpArgs false
set_option linter.unusedVariables false
namespace Go.PB
open Go

section
variable {P : Program} {g : Gh} {h : BHeap} {w : World}

/-- the model makes what B has made: block b -/
def Real (P : Program) (g : Gh) (h : BHeap) (w : World) (b : Nat) (v : BV) (r : Result Value) : Prop :=
  ∃ v' w', r = .ok v' w' ∧ HRel P (g.upd b w.heap.size 0) h w' ∧ Ext g h w (g.upd b w.heap.size 0) h w' ∧ VRel P (g.upd b w.heap.size 0) w' v v'

theorem real_row (hr : HRel P g h w) {b : Nat} {cs : List BV} {e : TypeId} {s : Bool} {vs : List Value} {c : Array Value} {lo hi : Nat} {w' : World}
    (hb : h.get b = some (.cells cs e s)) (hm : g.m b = none) (hv : VRels P g w cs vs) (hc : ∀ (i : Nat) x, vs[i]? = some x → c[i]? = some x)
    (hheap : w'.heap = w.heap.push (.cells c e (lo, hi))) (hos : w'.os = w.os ∧ w'.output = w.output ∧ w'.tape = w.tape)
    (hf : ∀ i, i < c.size → ¬ (lo ≤ i ∧ i < hi)) (hs : s = false → lo = 0 ∧ hi = 0) :
    HRel P (g.upd b w.heap.size 0) h w' ∧ Ext g h w (g.upd b w.heap.size 0) h w' := by
  refine hr.real hb hm hheap hos fun hmono => ?_
  simp only [ORel]
  exact ⟨c, lo, hi, rfl, ⟨vs, VRels.mono hmono _ _ hv, fun i x hi' => by simpa using hc i x hi'⟩, hf, hs⟩

theorem real_var (hr : HRel P g h w) {b : Nat} {t : TypeId} {v : BV} {v' : Value} (hb : h.get b = some (.cells v.cells t false)) (hm : g.m b = none)
    (hv : VRel P g w v v') (ho : v.cells.all BV.one = true) : Real P g h w b (.ptr b 0) ((do pure (Value.pointer (some (← newVar t v'))) : Sem Value).run P w) := by
  refine ⟨.pointer (some ⟨w.heap.size, 0, none⟩), _, by simp only [newVar, newRow, Sem.run_bind, run_newObj, Result.andThen_ok, Sem.run_pure]; rfl, ?_⟩
  have h1 := real_row hr (vs := v'.cells.toList) (c := v'.cells) (lo := 0) (hi := 0) (w' := { w with heap := w.heap.push (.cells v'.cells t) }) hb hm (hv.cells ho) (fun i x hi => by simpa using hi) rfl ⟨rfl, rfl, rfl⟩ (by omega) (fun _ => ⟨rfl, rfl⟩)
  refine ⟨h1.1, h1.2, ?_⟩
  simp only [VRel]
  exact ⟨_, _, Gh.upd_same _ _ _ _, rfl⟩

theorem real_alloc (hr : HRel P g h w) {b : Nat} {t : TypeId} {z : BV} (hz : zeroB P t = some z) (hb : h.get b = some (.cells z.cells t false)) (hm : g.m b = none)
    (ho : z.cells.all BV.one = true) : Real P g h w b (.ptr b 0) ((Instr.alloc t true (.tuple #[])).run P w) := by
  obtain ⟨z', hz', hzr⟩ := r_zero hz w
  have := real_var hr hb hm (hzr g) ho
  simpa [Instr.alloc, hz'] using this

theorem real_box (hr : HRel P g h w) {b : Nat} {t : TypeId} {v : BV} {v' : Value} (hb : h.get b = some (.cells v.cells t false)) (hm : g.m b = none)
    (hv : VRel P g w v v') (ho : v.cells.all BV.one = true) : Real P g h w b (.ptr b 0) ((Instr.box t v').run P w) := by
  have := real_var hr hb hm hv ho
  simpa [Instr.box] using this

theorem real_map (hr : HRel P g h w) {b : Nat} {t k e : TypeId} {r : Option BV} {r' : Option Value} (hu : P.underlying t = some (.map k e)) (hb : h.get b = some (.map [] 0)) (hm : g.m b = none)
    (hrr : (r = none ∧ r' = none) ∨ ∃ q n, r = some (.int q n) ∧ r' = some (.int q n)) : Real P g h w b (.map b) ((Instr.makeMap t r').run P w) := by
  have hrun : (Instr.makeMap t r').run P w = .ok (.map (some w.heap.size)) { w with heap := w.heap.push (.map #[] 0) } := by
    rcases hrr with ⟨_, rfl⟩ | ⟨q, n, _, rfl⟩
    · simp [Instr.makeMap]
    · simp [Instr.makeMap, r_underlying hu, asInt, asIntOf]
  refine ⟨_, _, hrun, ?_⟩
  have h1 := hr.real (w' := { w with heap := w.heap.push (.map #[] 0) }) hb hm rfl ⟨rfl, rfl, rfl⟩ (fun _ => by simp [ORel, ERels])
  refine ⟨h1.1, h1.2, ?_⟩
  simp only [VRel]
  exact ⟨_, Gh.upd_same _ _ _ _, rfl⟩

/-! building -/
theorem foldl_set_get (l : List Value) : ∀ (k : Nat) (cs : Array Value) (off : Nat), off + k + l.length ≤ cs.size →
    ((l.zipIdx k).foldl (fun cs (x : Value × Nat) => cs.setIfInBounds (off + x.2) x.1) cs) = setMany cs (off + k) l := by
  induction l with
  | nil => intro k cs off _; simp [setMany]
  | cons v r ih =>
    intro k cs off hle
    simp only [List.length_cons] at hle
    simp only [List.zipIdx_cons, List.foldl_cons, setMany]
    rw [ih (k + 1) _ off (by simp; omega)]
    rfl

theorem zipFold (cs : Array Value) (off : Nat) (xs : Array Value) (hle : off + xs.size ≤ cs.size) :
    xs.zipIdx.foldl (fun cs (x : Value × Nat) => cs.setIfInBounds (off + x.2) x.1) cs = setMany cs off xs.toList := by
  rw [← Array.foldl_toList, Array.toList_zipIdx]
  have := foldl_set_get xs.toList 0 cs off (by simpa using hle)
  simpa using this

/-- what a row holds behind a put -/
theorem VRels.putCells {cs cs' xs : List BV} {c : Array Value} {ys : List Value} {off : Nat} (hc : VRels P g w cs c.toList) (hx : VRels P g w xs ys) (hp : putCells cs off xs = some cs') :
    VRels P g w cs' (setMany c off ys).toList := by
  have hl := hc.length
  have hxl := hx.length
  obtain ⟨_, hle⟩ := putCells_some hp
  refine VRels.of_get (by rw [putCells_length hp]; simpa using hl) fun i b v hb hv => ?_
  rw [putCells_get hp] at hb
  simp only [Array.getElem?_toList] at hv
  rw [setMany_get _ _ _ _ (by simp at hl; omega)] at hv
  by_cases h1 : off ≤ i ∧ i < off + xs.length
  · rw [if_pos h1] at hb; rw [if_pos (by omega)] at hv
    obtain ⟨u, hu, hr⟩ := hx.get hb
    rw [hu] at hv; cases hv; exact hr
  · rw [if_neg h1] at hb; rw [if_neg (by omega)] at hv
    obtain ⟨u, hu, hr⟩ := hc.get hb
    simp only [Array.getElem?_toList] at hu
    rw [hu] at hv; cases hv; exact hr

/-- a value's cells, where it is known -/
theorem VRel.cells' {v : BV} {v' : Value} (hv : VRel P g w v v') (hk : v.solid = true) : VRels P g w v.cells v'.cells.toList := by
  by_cases hb : ∃ cs, v = .agg cs
  · obtain ⟨cs, rfl⟩ := hb
    simp only [VRel] at hv; obtain ⟨vs, rfl, h⟩ := hv
    simpa [BV.cells, Value.cells] using h
  · have e : v.cells = [v] := by cases v <;> first | rfl | (exact absurd ⟨_, rfl⟩ hb)
    have e' : v'.cells = #[v'] := by
      by_cases ht : ∃ cs, v = .tuple cs
      · obtain ⟨cs, rfl⟩ := ht; simp only [VRel] at hv; obtain ⟨vs, rfl, _⟩ := hv; rfl
      · refine (hv.one ?_).1
        cases v <;> first | rfl | (simp [BV.solid] at hk; done) | (exact absurd ⟨_, rfl⟩ hb) | (exact absurd ⟨_, rfl⟩ ht)
    rw [e, e']
    exact VRels.cons hv VRels.nil

/-- the parts of a composite value: B's and the model's -/
def PRel (P : Program) (g : Gh) (w : World) (ps : List (Nat × BV)) (qs : List (Nat × Value)) : Prop :=
  qs.length = ps.length ∧ ∀ (j : Nat) i v, ps[j]? = some (i, v) → ∃ v', qs[j]? = some (i, v') ∧ VRel P g w v v'

theorem PRel.cons {i : Nat} {v : BV} {ps : List (Nat × BV)} {qs : List (Nat × Value)} (hp : PRel P g w ((i, v) :: ps) qs) : ∃ v' qs', qs = (i, v') :: qs' ∧ VRel P g w v v' ∧ PRel P g w ps qs' := by
  obtain ⟨hl, hp⟩ := hp
  cases qs with
  | nil => simp at hl
  | cons q qs =>
    obtain ⟨v', h1, h2⟩ := hp 0 i v (by simp)
    simp at h1; subst h1
    exact ⟨v', qs, rfl, h2, by simpa using hl, fun j i' u hj => by have := hp (j + 1) i' u (by simpa using hj); simpa using this⟩

theorem sim_fill {place : Nat → Option (Nat × Nat)} : ∀ (ps : List (Nat × BV)) (qs : List (Nat × Value)) (cs cs' : List BV) (c : Array Value), PRel P g w ps qs → VRels P g w cs c.toList →
    fillB place cs ps = some cs' → ∃ c', Instr.fill place c qs = some c' ∧ VRels P g w cs' c'.toList := by
  intro ps
  induction ps with
  | nil =>
    intro qs cs cs' c hp hc e
    have : qs = [] := by have := hp.1; simpa using this
    subst this
    simp [fillB] at e; subst e
    exact ⟨c, rfl, hc⟩
  | cons p ps ih =>
    intro qs cs cs' c hp hc e
    obtain ⟨i, v⟩ := p
    obtain ⟨v', qs', rfl, hv, hp'⟩ := hp.cons
    simp only [fillB] at e
    cases hpl : place i with
    | none => simp [hpl] at e
    | some os =>
      obtain ⟨off, size⟩ := os
      simp only [hpl] at e
      split at e
      · rename_i hl
        simp only [Bool.and_eq_true, decide_eq_true_eq] at hl
        cases hput : putCells cs off v.cells with
        | none => simp [hput] at e
        | some cs1 =>
          simp only [hput] at e
          have hx := hv.cells' hl.2
          have hxl := hx.length
          have hcl := hc.length
          obtain ⟨_, hle⟩ := putCells_some hput
          simp at hxl hcl
          have hc1 := hc.putCells hx hput
          obtain ⟨c', h1, h2⟩ := ih qs' cs1 cs' _ hp' hc1 e
          refine ⟨c', ?_, h2⟩
          simp only [Instr.fill, hpl]
          rw [if_neg (by simp; omega)]
          rw [zipFold _ _ _ (by omega)]
          exact h1
      · cases e

theorem run_places (w : World) : ∀ (fs : List Field) (ps : List (Nat × Nat)), fs.mapM (fun f => (szOf P f.type).map fun s => (f.offset, s)) = some ps →
    (fs.mapM (fun f => (do pure (f.offset, ← sizeOf f.type) : Sem (Nat × Nat)))).run P w = .ok ps w := by
  intro fs
  induction fs with
  | nil => intro ps e; simp at e; subst e; simp
  | cons f fs ih =>
    intro ps e
    simp only [List.mapM_cons] at e ⊢
    cases hs : szOf P f.type with
    | none => simp [hs] at e
    | some n =>
      simp only [hs, Option.map_some] at e
      cases hm : fs.mapM (fun f => (szOf P f.type).map fun s => (f.offset, s)) with
      | none => simp [hm] at e
      | some ps' =>
        simp [hm] at e; subst e
        simp only [Sem.run_bind, r_sizeOf hs, Result.andThen_ok, Sem.run_pure, ih _ hm]

theorem sim_build {t : TypeId} {ps : List (Nat × BV)} {qs : List (Nat × Value)} {v : BV} (hp : PRel P g w ps qs) (e : buildB P t ps = some v) :
    ∃ v', (Instr.build t qs.toArray).run P w = .ok v' w ∧ VRel P g w v v' := by
  unfold buildB at e
  split at e
  · rename_i zc fs hz hu
    obtain ⟨z', hz', hzr⟩ := r_zero hz w
    have hzg := hzr g
    simp only [VRel] at hzg
    obtain ⟨zs, rfl, hzv⟩ := hzg
    cases hpl : places P fs with
    | none => simp [hpl] at e
    | some pl =>
      simp only [hpl] at e
      cases hf : fillB (fun i => pl[i]?) zc ps with
      | none => simp [hf] at e
      | some cs =>
        simp [hf] at e; subst e
        obtain ⟨c', h1, h2⟩ := sim_fill ps qs zc cs zs hp hzv hf
        refine ⟨.agg c', ?_, by simp only [VRel]; exact ⟨_, rfl, h2⟩⟩
        have hrp := run_places (P := P) w fs.toList pl hpl
        simp only [Instr.build, Sem.run_bind, hz', Result.andThen_ok, r_underlying hu]
        rw [Array.mapM_eq_mapM_toList]
        simp only [Sem.run_map, hrp, Result.andThen_ok, List.getElem?_toArray, Value.cells]
        rw [h1]
        simp
  · rename_i zc n el hz hu
    obtain ⟨z', hz', hzr⟩ := r_zero hz w
    have hzg := hzr g
    simp only [VRel] at hzg
    obtain ⟨zs, rfl, hzv⟩ := hzg
    cases hs : szOf P el with
    | none => simp [hs] at e
    | some size =>
      simp only [hs] at e
      cases hf : fillB (fun i => some (i * size, size)) zc ps with
      | none => simp [hf] at e
      | some cs =>
        simp [hf] at e; subst e
        obtain ⟨c', h1, h2⟩ := sim_fill ps qs zc cs zs hp hzv hf
        refine ⟨.agg c', ?_, by simp only [VRel]; exact ⟨_, rfl, h2⟩⟩
        simp only [Instr.build, Sem.run_bind, hz', Result.andThen_ok, r_underlying hu, r_sizeOf hs, Value.cells]
        rw [h1]
        simp
  · cases e
end
end Go.PB
