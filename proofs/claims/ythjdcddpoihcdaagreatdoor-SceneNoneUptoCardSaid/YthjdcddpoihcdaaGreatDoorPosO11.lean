/- What B's operations do is what the model's do: copy, append. -/
import Derived.Test.YthjdcddpoihcdaaGreatDoorPosO10
set_option linter.unusedSimpArgs false
set_option linter.unusedVariables false
namespace Go.PB
open Go

section
variable {P : Program} {g : Gh} {h : BHeap} {w : World}

theorem sim_copy (hr : HRel P g h w) {ts : Array TypeId} {t : TypeId} {args : List BV} {args' : Array Value} {v : BV} {h' : BHeap} (ha : VRels P g w args args'.toList) (e : copyB P h ts args = some (v, h')) :
    Ends P g h w v h' ((Builtin.copy_ ts t args').run P w) := by
  unfold copyB at e
  split at e
  · rename_i dt d s ht
    obtain ⟨d', s', hl, hd, hs⟩ := ha.two
    have hargs : args' = #[d', s'] := by apply Array.ext'; simpa using hl
    subst hargs
    split at e
    · rename_i el hu
      cases hsz : szOf P el with
      | none => simp [hsz] at e
      | some size =>
        simp only [hsz] at e
        cases hel : elemsB P h size s with
        | none => simp [hel] at e
        | some xn =>
          obtain ⟨xs, n⟩ := xn
          simp only [hel] at e
          obtain ⟨hlen, _, hfirst⟩ := sim_elems hr hs hel
          split at e
          · simp only [VRel] at hd; subst hd
            cases e
            obtain ⟨ys, hy1, hy2⟩ := hfirst 0 (Nat.zero_le _)
            refine Ends.still hr ⟨goInt 0, ?_, by simp [VRel, goI, goInt]⟩
            simp only [Builtin.copy_]
            simp [ht, r_underlying hu, hlen, r_sizeOf hsz, hy1 w rfl, goInt]
          · simp only [VRel] at hd; obtain ⟨a, c, rfl⟩ := hd
            cases e
            obtain ⟨ys, hy1, hy2⟩ := hfirst 0 (Nat.zero_le _)
            have hy0 : ys = #[] := by
              have := hy2.length
              apply Array.ext'
              simp at this; simp [this]
            refine Ends.still hr ⟨goInt 0, ?_, by simp [VRel, goI, goInt]⟩
            simp only [Builtin.copy_]
            simp [ht, r_underlying hu, hlen, r_sizeOf hsz, hy1 w rfl, goInt, hy0, storeCells]
          · rename_i b off len cap
            simp only [VRel] at hd; obtain ⟨blk, base, c, hm, rfl, _⟩ := hd
            split at e
            · cases e
            · rename_i hone
              have hone : (xs.take (Nat.min n len * size)).all BV.one = true := by simpa using hone
              split at e
              · rename_i cs e' sh hb
                cases hp : putCells cs off (xs.take (Nat.min n len * size)) with
                | none => simp [hp] at e
                | some cs' =>
                  simp [hp] at e
                  obtain ⟨rfl, rfl⟩ := e
                  obtain ⟨ys, hy1, hy2⟩ := hfirst (Nat.min n len) (Nat.min_le_left _ _)
                  obtain ⟨w', h1, h2, h3⟩ := sim_put hr hb hm hy2 hone hp
                  refine Ends.of_w ⟨goInt (Nat.min n len), w', ?_, h2, h3, Ph.put hm _, by simp [VRel, goI, goInt]⟩
                  simp only [Builtin.copy_]
                  simp [ht, r_underlying hu, hlen, r_sizeOf hsz, hy1 w rfl, h1]
              · cases e
          · cases e
    · cases e
  · cases e

theorem next_le (need old : Nat) (hlt : old < need) : Builtin.nextslicecap need old ≤ 2 * need + 1024 := by
  unfold Builtin.nextslicecap
  split
  · omega
  · split
    · omega
    · have grow : ∀ (r c : Nat), c ≤ 2 * need + 1024 → Builtin.growBy need r c ≤ 2 * need + 1024 := by
        intro r
        induction r with
        | zero => intro c hc; exact hc
        | succ r ih =>
          intro c hc
          simp only [Builtin.growBy]
          split
          · exact hc
          · exact ih _ (by omega)
      exact grow 4 old (by omega)

/-- the model's append, where a new row is made -/
theorem run_append_new {ts : Array TypeId} {t st el : TypeId} {i : TypeInfo} {a : Option Addr} {len c n : Nat} {x' : Value} {old new : Array Value} (ht : ts[0]? = some st) (hu : P.underlying st = some (.slice el)) (hi : P.info? el = some i)
    {z : Value} (hz : (zeroValue el).run P w = .ok z w) (hxt : ∃ xt d, ts[1]? = some xt ∧ P.underlying xt = some d ∧ ∀ k, d ≠ .int k)
    (hlen : (Builtin.lenOf x').run P w = .ok n w) (hnew : ∀ w' : World, w'.heap = w.heap → (Builtin.firstCells i.size n x').run P w' = .ok new w') (hold : ∀ w' : World, w'.heap = w.heap → (Builtin.firstCells i.size len (.slice a len c)).run P w' = .ok old w')
    (hgt : c < len + n) (hroom : (2 * (len + n) + 1024) * i.bytes ≤ 2 ^ 47) (hb : i.bytes ≠ 0) :
    ∃ cap, ∃ rest : Array Value, len + n ≤ cap ∧ rest.size = (cap - (len + n)) * z.cells.size ∧ (Builtin.append_ ts t #[.slice a len c, x']).run P w = .ok (.slice (some ⟨w.heap.size, 0, none⟩) (len + n) cap)
      { w with heap := w.heap.push (.cells (old ++ new ++ rest) el), drawn := w.drawn + 1 } := by
  obtain ⟨xt, d, hx1, hx2, hx3⟩ := hxt
  have hzd : ∀ dd, (zeroValue el).run P { w with drawn := dd } = .ok z { w with drawn := dd } := fun dd => by
    simp only [zeroValue, Sem.run_bind, r_info hi, Result.andThen_ok] at hz ⊢
    cases hzi : i.zero with
    | none => simp [hzi] at hz
    | some z0 => simp [hzi] at hz ⊢; exact hz
  let q : Question := .appendCap (len + n) c el
  let cap := q.cut (w.tape w.drawn q)
  have hcap : len + n ≤ cap := by
    show len + n ≤ Question.cut (.appendCap (len + n) c el) _
    simp only [Question.cut]; omega
  refine ⟨cap, Builtin.zeroCells z.cells (cap - (len + n)), hcap, by simp [Builtin.zeroCells], ?_⟩
  have hnext := next_le (len + n) c hgt
  have hmul : Builtin.nextslicecap (len + n) c * i.bytes ≤ 2 ^ 48 := by
    have := Nat.mul_le_mul_right i.bytes hnext
    omega
  have hsz : szOf P el = some i.size := szOf_info hi
  have hneed : ((len + n : Nat) : Int) ≤ IntKind.i64.max := by
    have h1 : len + n ≤ (2 * (len + n) + 1024) * i.bytes := by
      have : 1 ≤ i.bytes := by omega
      have := Nat.mul_le_mul_left (2 * (len + n) + 1024) this
      omega
    simp only [IntKind.max, IntKind.signed, IntKind.bits, if_true]; omega
  have e0 : (#[Value.slice a len c, x'] : Array Value)[0]? = some (.slice a len c) := rfl
  have e1 : (#[Value.slice a len c, x'] : Array Value)[1]? = some x' := rfl
  have hfin : ∀ v w', ((do
      let newCap ← choose (Question.appendCap (len + n) c el)
      let ti ← typeInfo el
      askRoom (newCap * ti.bytes)
      let old ← Builtin.firstCells i.size len (Value.slice a len c)
      let new ← Builtin.firstCells i.size n x'
      let zz ← zeroValue el
      let row ← newRow el (old ++ new ++ Builtin.zeroCells zz.cells (newCap - (len + n)))
      pure (Value.slice (some row) (len + n) newCap) : Sem Value).run P w = .ok v w') →
      (Builtin.append_ ts t #[.slice a len c, x']).run P w = .ok v w' := by
    intro v w' hv
    unfold Builtin.append_
    simp only [ht, hx1, e0, e1]
    simp only [Sem.run_bind, r_underlying hu, r_underlying hx2, Result.andThen_ok, r_sizeOf hsz, Sem.run_pure, r_info hi] at hv ⊢
    have c1 : ¬ len + n ≤ c := by omega
    have c2 : ¬ (((len + n : Nat) : Int) > IntKind.i64.max ∧ (False ∨ i.bytes = 0)) := by rintro ⟨h1, _⟩; omega
    have c3 : ¬ Builtin.nextslicecap (len + n) c * i.bytes > 2 ^ 48 := by omega
    cases d <;> first
      | (exact absurd rfl (hx3 _))
      | (simp only [Bool.false_eq_true, if_false, Bool.not_false, if_true, Sem.run_bind, hlen, Result.andThen_ok, c1, r_info hi, c2, c3, Sem.run_pure]
         exact hv)
  refine hfin _ _ ?_
  simp only [Sem.run_bind, run_choose, Question.forced, Bool.false_eq_true, if_false, Result.andThen_ok, r_info hi, run_askRoom, hold { w with drawn := w.drawn + 1 } rfl, hnew { w with drawn := w.drawn + 1 } rfl, hzd, newRow, run_newObj, Sem.run_pure]
  rfl

/-- the model's append, in place -/
theorem run_append_in {ts : Array TypeId} {t st el : TypeId} {size : Nat} {a : Option Addr} {len c n : Nat} {x' : Value} {new : Array Value} {w' : World} (ht : ts[0]? = some st) (hu : P.underlying st = some (.slice el)) (hs : szOf P el = some size)
    (hxt : ∃ xt d, ts[1]? = some xt ∧ P.underlying xt = some d ∧ ∀ k, d ≠ .int k)
    (hlen : (Builtin.lenOf x').run P w = .ok n w) (hnew : (Builtin.firstCells size n x').run P w = .ok new w)
    (hle : len + n ≤ c) (hst : ∀ ad, a = some ad → (storeCells (ad.add (len * size)) new.toList).run P w = .ok () w') (hno : a = none → w' = w) :
    (Builtin.append_ ts t #[.slice a len c, x']).run P w = .ok (.slice a (len + n) c) w' := by
  obtain ⟨xt, d, hx1, hx2, hx3⟩ := hxt
  have e0 : (#[Value.slice a len c, x'] : Array Value)[0]? = some (.slice a len c) := rfl
  have e1 : (#[Value.slice a len c, x'] : Array Value)[1]? = some x' := rfl
  unfold Builtin.append_
  simp only [ht, hx1, e0, e1]
  simp only [Sem.run_bind, r_underlying hu, r_underlying hx2, Result.andThen_ok, r_sizeOf hs, Sem.run_pure]
  cases d <;> first
    | (exact absurd rfl (hx3 _))
    | (simp only [Bool.false_eq_true, if_false, Bool.not_false, if_true, Sem.run_bind, hlen, Result.andThen_ok, hle, hnew]
       cases a with
       | none => rw [hno rfl]; rfl
       | some ad => simp only [Sem.run_bind, hst ad rfl, Result.andThen_ok, Sem.run_pure])

theorem sim_append (hr : HRel P g h w) {ts : Array TypeId} {t : TypeId} {args : List BV} {args' : Array Value} {v : BV} {h' : BHeap} (ha : VRels P g w args args'.toList) (e : appendB P h ts args = some (v, h')) :
    Ends P g h w v h' ((Builtin.append_ ts t args').run P w) := by
  unfold appendB at e
  split at e
  · rename_i st xt0 s x ht hx1
    obtain ⟨s', x', hl, hs, hx⟩ := ha.two
    have hargs : args' = #[s', x'] := by apply Array.ext'; simpa using hl
    subst hargs
    split at e
    · rename_i el xt hu hxt0
      cases hi : P.info? el with
      | none => simp [hi] at e
      | some i =>
        simp only [hi] at e
        cases hel : elemsB P h i.size x with
        | none => simp [hel] at e
        | some xn =>
          obtain ⟨xs, n⟩ := xn
          simp only [hel] at e
          split at e
          · cases e
          · rename_i hc
            simp only [Bool.or_eq_true, beq_iff_eq, Bool.not_eq_true', not_or, Bool.not_eq_true, Bool.not_eq_false] at hc
            obtain ⟨⟨⟨⟨hc1, hnz1⟩, hnz2⟩, hone⟩, hzo⟩ := hc
            have hxt : ∃ xt d, ts[1]? = some xt ∧ P.underlying xt = some d ∧ ∀ k, d ≠ .int k := ⟨xt0, xt, hx1, hxt0, fun k hk => by subst hk; simp [intT] at hc1⟩
            have hsz : szOf P el = some i.size := szOf_info hi
            obtain ⟨hlen, hxl, hfirst⟩ := sim_elems hr hx hel
            obtain ⟨ys, hy1, hy2⟩ := hfirst n (Nat.le_refl _)
            rw [← hxl, List.take_length] at hy2
            split at e
            · -- nothing is appended
              rename_i hn0
              subst hn0
              have hys : ys = #[] := by
                have := hy2.length
                apply Array.ext'; simp at this ⊢; rw [hxl] at this; simpa using this
              subst hys
              have same : ∀ (a : Option Addr) (len c : Nat), len ≤ c → s' = .slice a len c → VRel P g w v s' → h' = h → Ends P g h w v h' ((Builtin.append_ ts t #[s', x']).run P w) := by
                intro a len c hle hs' hv hh
                subst hh
                subst hs'
                refine Ends.still hr ⟨_, run_append_in ht hu hsz hxt (hlen w) (hy1 w rfl) (by omega) (fun ad _ => by simp [storeCells]) (fun _ => rfl), hv⟩
              unfold appendNone at e
              have hs0 := hs
              split at e
              · cases e; simp only [VRel] at hs; exact same none 0 0 (Nat.le_refl _) hs hs0 rfl
              · cases e; simp only [VRel] at hs; obtain ⟨a, c, hs⟩ := hs; exact same (some a) 0 c (Nat.zero_le _) hs hs0 rfl
              · rename_i b off len cap
                simp only [VRel] at hs; obtain ⟨blk, base, c, _, hs', hcap, _⟩ := hs
                split at e
                · rename_i hge
                  cases e
                  refine same _ len c ?_ hs' hs0 rfl
                  cases cap with
                  | none => exact hcap
                  | some k => simp only [capOk] at hcap; subst hcap; simpa [capGe] using hge
                · cases e
              · rename_i cs len cap
                simp only [VRel] at hs; obtain ⟨blk, off, c, hs', _, hcap, _⟩ := hs
                split at e
                · rename_i hge
                  cases e
                  refine same _ len c ?_ hs' hs0 rfl
                  cases cap with
                  | none => exact hcap
                  | some k => simp only [capOk] at hcap; subst hcap; simpa [capGe] using hge
                · cases e
              · cases e
            · rename_i hn0
              have hpos : 0 < n := by omega
              unfold zeroOk at hzo
              cases hzb : zeroB P el with
              | none => simp [hzb] at hzo
              | some z =>
              simp only [hzb, Bool.and_eq_true, beq_iff_eq] at hzo
              obtain ⟨z', hz', hzr⟩ := r_zero hzb w
              have hzsz : z'.cells.size = i.size := by
                have := ((hzr g).cells' hzo.1).length
                simp at this; omega
              -- a new row
              have fresh : ∀ (sh : Bool) (hB : BHeap), HRel P g hB w → ∀ (a : Option Addr) (len c : Nat) (old : List BV) (old' : Array Value), s' = .slice a len c → c < len + n → roomB i.bytes (len + n) = true → VRels P g w old old'.toList → old.length = len * i.size →
                  (∀ w' : World, w'.heap = w.heap → (Builtin.firstCells i.size len (.slice a len c)).run P w' = .ok old' w') →
                  Ends P g hB w (.slice hB.next 0 (len + n) none) (hB.new (.cells (old ++ xs) el sh)) ((Builtin.append_ ts t #[s', x']).run P w) := by
                intro sh hB hrB a len c old old' hs' hgt hroom hov hol hold
                subst hs'
                simp only [roomB, decide_eq_true_eq] at hroom
                obtain ⟨cap, rest, k1, k2, k3⟩ := run_append_new (P := P) (w := w) (t := t) (a := a) ht hu hi hz' hxt (hlen w) hy1 hold hgt hroom hnz2
                refine Ends.made hrB fun hr' hm => ?_
                refine ⟨_, _, k3, ?_⟩
                have hov' := hov.append hy2
                have hlo : old'.size = len * i.size := by have := hov.length; simp at this; omega
                have hln : ys.size = n * i.size := by have := hy2.length; simp at this; omega
                have h1 := real_row hr' (c := old' ++ ys ++ rest) (lo := 0) (hi := 0) (e := el) (s := sh) (w' := { w with heap := w.heap.push (.cells (old' ++ ys ++ rest) el), drawn := w.drawn + 1 })
                  (by rw [BHeap.get_new, if_pos rfl]) hm hov' (fun j y hj => by
                    have hlt := (List.getElem?_eq_some_iff.1 hj).1
                    rw [Array.getElem?_append_left (by simpa using hlt), ← Array.toList_append, Array.getElem?_toList] at *
                    simpa using hj) rfl ⟨rfl, rfl, rfl⟩ (by omega) (fun _ => ⟨rfl, rfl⟩)
                refine ⟨h1.1, h1.2, ?_⟩
                simp only [VRel]
                refine ⟨_, _, cap, Gh.upd_same _ _ _ _, rfl, k1, fun _ => ⟨el, cap * i.size, ?_, ?_⟩⟩
                · have : (old' ++ ys ++ rest).size = cap * i.size := by
                    simp only [Array.size_append, hlo, hln, k2, hzsz]
                    rw [← Nat.add_mul, ← Nat.add_mul]; congr 1; omega
                  have hh : (w.heap.push (.cells (old' ++ ys ++ rest) el))[w.heap.size]? = some (.cells (old' ++ ys ++ rest) el) := by simp
                  simp only [World.shape?, hh, this]
                · rw [szOf_cellsOf hsz]; omega
              unfold appendSome at e
              split at e
              · split at e
                · rename_i hroom
                  cases e
                  simp only [VRel] at hs
                  have := fresh false h hr none 0 0 [] #[] hs (by omega) (by simpa using hroom) (by simp [VRels]) (by simp) (fun _ _ => rfl)
                  simpa using this
                · cases e
              · rename_i b off len c
                simp only [VRel] at hs; obtain ⟨blk, base, c', hm, hs', hcap, _⟩ := hs
                simp only [capOk] at hcap; subst hcap
                split at e
                · rename_i cs e' sh hb
                  split at e
                  · rename_i hle
                    cases hp : putCells cs (off + len * i.size) xs with
                    | none => simp [hp] at e
                    | some cs' =>
                      simp [hp] at e
                      obtain ⟨rfl, rfl⟩ := e
                      obtain ⟨w', h1, h2, h3⟩ := sim_put hr hb hm hy2 hone hp
                      subst hs'
                      refine Ends.of_w ⟨_, w', run_append_in ht hu hsz hxt (hlen w) (hy1 w rfl) hle (fun ad had => ?_) (fun hc => by cases hc), h2, h3, Ph.put hm _, ?_⟩
                      · cases had; rw [addr_add, Nat.add_assoc]; exact h1
                      · simp only [VRel]; exact ⟨blk, base, _, hm, rfl, rfl, fun hc => by cases hc⟩
                  · rename_i hgt
                    split at e
                    · rename_i hroom
                      cases htk : takeCells cs off (len * i.size) with
                      | none => simp [htk] at e
                      | some old =>
                        simp [htk] at e
                        obtain ⟨rfl, rfl⟩ := e
                        obtain ⟨cc, lo, hi', vs, hw, hv, _, hcs, _⟩ := hr.cells hb hm
                        obtain ⟨g1, g2⟩ := hv.takeCells htk
                        exact fresh false h hr (some ⟨blk, base + off, none⟩) len c' old ((vs.drop off).take (len * i.size)).toArray hs' (by omega) hroom (by simpa using g1) (takeCells_some htk).2
                          (fun w' hw' => by simp only [Builtin.firstCells]; exact run_loadCells_at _ g2 (hcs.drop.take.of_heap hw'))
                    · cases e
                · cases e
              · rename_i b off len
                simp only [VRel] at hs; obtain ⟨blk, base, c, hm, hs', hcap, htail⟩ := hs
                simp only [capOk] at hcap
                split at e
                · rename_i cs e' sh hb
                  split at e
                  · rename_i hcond
                    obtain ⟨q1, q2, rfl⟩ := hcond
                    cases e
                    obtain ⟨cc, lo, hi', vs, hw, hv, hcc, hcs, hfz, hsh⟩ := hr.cells hb hm
                    have hvl := hv.length
                    by_cases hle : len + n ≤ c
                    · -- in place
                      obtain ⟨e1, tot, hsh1, htot⟩ := htail (by simp)
                      have hsh2 : w.shape? blk = some (e', cc.size) := by simp [World.shape?, hw]
                      rw [hsh2] at hsh1; cases hsh1
                      rw [szOf_cellsOf hsz] at htot
                      have hyl : ys.size = n * i.size := by have := hy2.length; simp at this; omega
                      have hfit : base + off + len * i.size + ys.size ≤ cc.size := by
                        have : (len + n) * i.size ≤ c * i.size := Nat.mul_le_mul_right _ hle
                        rw [Nat.add_mul] at this; omega
                      have hstore := run_storeCells_row (P := P) blk (base + off + len * i.size) e' lo hi' ys.toList 0 cc w hw (by simpa using hfit) (allOne hy2 hone) hfz
                      simp only [Nat.add_zero] at hstore
                      subst hs'
                      have hrun := run_append_in (P := P) (t := t) (w := w) (w' := w.putBlk blk (.cells (setMany cc (base + off + len * i.size) ys.toList) e' (lo, hi'))) (a := some ⟨blk, base + off, none⟩) ht hu hsz hxt (hlen w) (hy1 w rfl) hle (fun ad had => by cases had; rw [addr_add]; exact hstore) (fun hc => by cases hc)
                      have hmv := hr.move (off := off) (o' := .cells (cs.drop off ++ xs) e' sh) (co' := .cells (setMany cc (base + off + len * i.size) ys.toList) e' (lo, hi')) (w' := w.putBlk blk (.cells (setMany cc (base + off + len * i.size) ys.toList) e' (lo, hi'))) hb hm hw rfl ⟨rfl, rfl, rfl⟩
                        (fun s hs => by
                          have hlt := (Array.getElem?_eq_some_iff.1 hw).1
                          rw [hsh2] at hs
                          simp only [World.shape?, putBlk_heap_same hlt, setMany_size]; exact hs)
                        (fun hmono => by
                          simp only [ORel]
                          refine ⟨_, lo, hi', rfl, ⟨vs.drop off ++ ys.toList, (VRels.mono hmono _ _ (hv.drop off)).append (VRels.mono hmono _ _ hy2), fun j y hj => ?_⟩, by simpa using hfz, hsh⟩
                          rw [setMany_get _ _ _ _ (by simpa using hfit)]
                          rw [List.getElem?_append] at hj
                          simp only [List.length_drop] at hj
                          have hl1 : vs.length - off = len * i.size := by omega
                          rw [hl1] at hj
                          by_cases hj1 : j < len * i.size
                          · rw [if_pos hj1, List.getElem?_drop] at hj
                            rw [if_neg (by omega)]
                            have := hcc _ _ hj
                            rwa [show base + (off + j) = base + off + j by omega] at this
                          · rw [if_neg hj1] at hj
                            have hlt := (List.getElem?_eq_some_iff.1 hj).1
                            simp only [Array.length_toList] at hlt
                            rw [if_pos (by simp only [Array.length_toList]; omega), show base + off + j - (base + off + len * i.size) = j - len * i.size by omega]
                            exact hj)
                      refine ⟨_, _, _, hrun, hmv.1, hmv.2, ?_, ?_⟩
                      · intro b1 hb1 hm1
                        refine ⟨by rw [Gh.upd_other g (by omega)]; exact hm1, ?_⟩
                        rw [BHeap.get_new, if_neg (by simp; omega), BHeap.get_put, if_neg (fun ee => by subst ee; rw [hm] at hm1; cases hm1)]
                      · simp only [VRel]
                        refine ⟨_, _, c, Gh.upd_same _ _ _ _, by simp, hle, fun _ => ⟨e', cc.size, ?_, ?_⟩⟩
                        · have hlt := (Array.getElem?_eq_some_iff.1 hw).1
                          simp only [World.shape?, putBlk_heap_same hlt, setMany_size]
                        · rw [szOf_cellsOf hsz]; omega
                    · -- anew; the old row is given up
                      obtain ⟨hd1, hd2⟩ := hr.drop b
                      have hk := fresh sh _ hd1 (some ⟨blk, base + off, none⟩) len c (cs.drop off) ((vs.drop off).take (len * i.size)).toArray hs' (by omega) q2 (by
                          have hle2 : (vs.drop off).length = len * i.size := by simp; omega
                          rw [List.take_of_length_le (by omega)]
                          simpa using hv.drop off) (by simp; omega)
                        (fun w' hw' => by simp only [Builtin.firstCells]; exact run_loadCells_at _ (by simp; omega) (hcs.drop.take.of_heap hw'))
                      obtain ⟨v2, g2, w2, k1, k2, k3, k4, k5⟩ := hk
                      refine ⟨v2, g2, w2, k1, k2, hd2.trans k3, ?_, k5⟩
                      exact (Ph.put hm none).trans (Nat.le_refl _) k4
                  · cases e
                · cases e
              · rename_i cs len c
                simp only [VRel] at hs; obtain ⟨blk, off, c', hs', hf, hcap, vs, hv, hcs⟩ := hs
                simp only [capOk] at hcap; subst hcap
                split at e
                · cases e
                · rename_i hgt
                  split at e
                  · rename_i hroom
                    cases htk : takeCells cs 0 (len * i.size) with
                    | none => simp [htk] at e
                    | some old =>
                      simp [htk] at e
                      obtain ⟨rfl, rfl⟩ := e
                      obtain ⟨g1, g2⟩ := hv.takeCells htk
                      have hcs' : CellsAt w blk off (vs.drop 0) := by simpa using hcs
                      exact fresh false h hr (some ⟨blk, off, none⟩) len c' old ((vs.drop 0).take (len * i.size)).toArray hs' (by omega) hroom (by simpa using g1) (takeCells_some htk).2
                        (fun w' hw' => by simp only [Builtin.firstCells]; exact run_loadCells_at _ g2 (hcs'.take.of_heap hw'))
                  · cases e
              · cases e
    · cases e
  · cases e
end
end Go.PB
