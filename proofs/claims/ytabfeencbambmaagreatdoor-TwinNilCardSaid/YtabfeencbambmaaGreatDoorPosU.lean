/- What B's operations do is what the model's do: copy, append. What one of B's operations does is what the model's does: all of them. -/
import Derived.Test.YtabfeencbambmaaGreatDoorPosP
set_option linter.unusedSimpArgs false
set_option linter.unusedVariables false
namespace Go.PB
open Go

section
variable {P : Program} {g : Gh} {h : BHeap} {w : World}

theorem sim_copy (hr : HRel P g h w) {ts : Array TypeId} {t : TypeId} {args : List BV} {args' : Array Value} {v : BV} {h' : BHeap} (ha : VRels P g w args args'.toList) (e : copyB P h ts args = some (v, h')) :
    Ends P g h w v h' ((Builtin.copy_ ts t args').run P w) := by
  unfold copyB at e
  split at e
  · rename_i dt d s ht
    obtain ⟨d', s', hl, hd, hs⟩ := ha.two
    have hargs : args' = #[d', s'] := by apply Array.ext'; simpa using hl
    subst hargs
    split at e
    · rename_i el hu
      cases hsz : szOf P el with
      | none => simp [hsz] at e
      | some size =>
        simp only [hsz] at e
        cases hel : elemsB P h size s with
        | none => simp [hel] at e
        | some xn =>
          obtain ⟨xs, n⟩ := xn
          simp only [hel] at e
          obtain ⟨hlen, _, hfirst⟩ := sim_elems hr hs hel
          split at e
          · simp only [VRel] at hd; subst hd
            cases e
            obtain ⟨ys, hy1, hy2⟩ := hfirst 0 (Nat.zero_le _)
            refine Ends.still hr ⟨goInt 0, ?_, by simp [VRel, goI, goInt]⟩
            simp only [Builtin.copy_]
            simp [ht, r_underlying hu, hlen, r_sizeOf hsz, hy1 w rfl, goInt]
          · simp only [VRel] at hd; obtain ⟨a, c, rfl⟩ := hd
            cases e
            obtain ⟨ys, hy1, hy2⟩ := hfirst 0 (Nat.zero_le _)
            have hy0 : ys = #[] := by
              have := hy2.length
              apply Array.ext'
              simp at this; simp [this]
            refine Ends.still hr ⟨goInt 0, ?_, by simp [VRel, goI, goInt]⟩
            simp only [Builtin.copy_]
            simp [ht, r_underlying hu, hlen, r_sizeOf hsz, hy1 w rfl, goInt, hy0, storeCells]
          · rename_i b off len cap
            simp only [VRel] at hd; obtain ⟨blk, base, c, hm, rfl, _⟩ := hd
            split at e
            · cases e
            · rename_i hone
              have hone : (xs.take (Nat.min n len * size)).all BV.one = true := by simpa using hone
              split at e
              · rename_i cs e' sh hb
                cases hp : putCells cs off (xs.take (Nat.min n len * size)) with
                | none => simp [hp] at e
                | some cs' =>
                  simp [hp] at e
                  obtain ⟨rfl, rfl⟩ := e
                  obtain ⟨ys, hy1, hy2⟩ := hfirst (Nat.min n len) (Nat.min_le_left _ _)
                  obtain ⟨w', h1, h2, h3⟩ := sim_put hr hb hm hy2 hone hp
                  refine Ends.of_w ⟨goInt (Nat.min n len), w', ?_, h2, h3, Ph.put hm _, by simp [VRel, goI, goInt]⟩
                  simp only [Builtin.copy_]
                  simp [ht, r_underlying hu, hlen, r_sizeOf hsz, hy1 w rfl, h1]
              · cases e
          · cases e
    · cases e
  · cases e

theorem next_le (need old : Nat) (hlt : old < need) : Builtin.nextslicecap need old ≤ 2 * need + 1024 := by
  unfold Builtin.nextslicecap
  split
  · omega
  · split
    · omega
    · have grow : ∀ (r c : Nat), c ≤ 2 * need + 1024 → Builtin.growBy need r c ≤ 2 * need + 1024 := by
        intro r
        induction r with
        | zero => intro c hc; exact hc
        | succ r ih =>
          intro c hc
          simp only [Builtin.growBy]
          split
          · exact hc
          · exact ih _ (by omega)
      exact grow 4 old (by omega)

/-- the model's append, where a new row is made -/
theorem run_append_new {ts : Array TypeId} {t st el : TypeId} {i : TypeInfo} {a : Option Addr} {len c n : Nat} {x' : Value} {old new : Array Value} (ht : ts[0]? = some st) (hu : P.underlying st = some (.slice el)) (hi : P.info? el = some i)
    {z : Value} (hz : (zeroValue el).run P w = .ok z w) (hxt : ∃ xt d, ts[1]? = some xt ∧ P.underlying xt = some d ∧ ∀ k, d ≠ .int k)
    (hlen : (Builtin.lenOf x').run P w = .ok n w) (hnew : ∀ w' : World, w'.heap = w.heap → (Builtin.firstCells i.size n x').run P w' = .ok new w') (hold : ∀ w' : World, w'.heap = w.heap → (Builtin.firstCells i.size len (.slice a len c)).run P w' = .ok old w')
    (hgt : c < len + n) (hroom : (2 * (len + n) + 1024) * i.bytes ≤ 2 ^ 47) (hb : i.bytes ≠ 0) :
    ∃ cap, ∃ rest : Array Value, len + n ≤ cap ∧ rest.size = (cap - (len + n)) * z.cells.size ∧ (Builtin.append_ ts t #[.slice a len c, x']).run P w = .ok (.slice (some ⟨w.heap.size, 0, none⟩) (len + n) cap)
      { w with heap := w.heap.push (.cells (old ++ new ++ rest) el), drawn := w.drawn + 1 } := by
  obtain ⟨xt, d, hx1, hx2, hx3⟩ := hxt
  have hzd : ∀ dd, (zeroValue el).run P { w with drawn := dd } = .ok z { w with drawn := dd } := fun dd => by
    simp only [zeroValue, Sem.run_bind, r_info hi, Result.andThen_ok] at hz ⊢
    cases hzi : i.zero with
    | none => simp [hzi] at hz
    | some z0 => simp [hzi] at hz ⊢; exact hz
  let q : Question := .appendCap (len + n) c el
  let cap := q.cut (w.tape w.drawn q)
  have hcap : len + n ≤ cap := by
    show len + n ≤ Question.cut (.appendCap (len + n) c el) _
    simp only [Question.cut]; omega
  refine ⟨cap, Builtin.zeroCells z.cells (cap - (len + n)), hcap, by simp [Builtin.zeroCells], ?_⟩
  have hnext := next_le (len + n) c hgt
  have hmul : Builtin.nextslicecap (len + n) c * i.bytes ≤ 2 ^ 48 := by
    have := Nat.mul_le_mul_right i.bytes hnext
    omega
  have hsz : szOf P el = some i.size := szOf_info hi
  have hneed : ((len + n : Nat) : Int) ≤ IntKind.i64.max := by
    have h1 : len + n ≤ (2 * (len + n) + 1024) * i.bytes := by
      have : 1 ≤ i.bytes := by omega
      have := Nat.mul_le_mul_left (2 * (len + n) + 1024) this
      omega
    simp only [IntKind.max, IntKind.signed, IntKind.bits, if_true]; omega
  have e0 : (#[Value.slice a len c, x'] : Array Value)[0]? = some (.slice a len c) := rfl
  have e1 : (#[Value.slice a len c, x'] : Array Value)[1]? = some x' := rfl
  have hfin : ∀ v w', ((do
      let newCap ← choose (Question.appendCap (len + n) c el)
      let ti ← typeInfo el
      askRoom (newCap * ti.bytes)
      let old ← Builtin.firstCells i.size len (Value.slice a len c)
      let new ← Builtin.firstCells i.size n x'
      let zz ← zeroValue el
      let row ← newRow el (old ++ new ++ Builtin.zeroCells zz.cells (newCap - (len + n)))
      pure (Value.slice (some row) (len + n) newCap) : Sem Value).run P w = .ok v w') →
      (Builtin.append_ ts t #[.slice a len c, x']).run P w = .ok v w' := by
    intro v w' hv
    unfold Builtin.append_
    simp only [ht, hx1, e0, e1]
    simp only [Sem.run_bind, r_underlying hu, r_underlying hx2, Result.andThen_ok, r_sizeOf hsz, Sem.run_pure, r_info hi] at hv ⊢
    have c1 : ¬ len + n ≤ c := by omega
    have c2 : ¬ (((len + n : Nat) : Int) > IntKind.i64.max ∧ (False ∨ i.bytes = 0)) := by rintro ⟨h1, _⟩; omega
    have c3 : ¬ Builtin.nextslicecap (len + n) c * i.bytes > 2 ^ 48 := by omega
    cases d <;> first
      | (exact absurd rfl (hx3 _))
      | (simp only [Bool.false_eq_true, if_false, Bool.not_false, if_true, Sem.run_bind, hlen, Result.andThen_ok, c1, r_info hi, c2, c3, Sem.run_pure]
         exact hv)
  refine hfin _ _ ?_
  simp only [Sem.run_bind, run_choose, Question.forced, Bool.false_eq_true, if_false, Result.andThen_ok, r_info hi, run_askRoom, hold { w with drawn := w.drawn + 1 } rfl, hnew { w with drawn := w.drawn + 1 } rfl, hzd, newRow, run_newObj, Sem.run_pure]
  rfl

/-- the model's append, in place -/
theorem run_append_in {ts : Array TypeId} {t st el : TypeId} {size : Nat} {a : Option Addr} {len c n : Nat} {x' : Value} {new : Array Value} {w' : World} (ht : ts[0]? = some st) (hu : P.underlying st = some (.slice el)) (hs : szOf P el = some size)
    (hxt : ∃ xt d, ts[1]? = some xt ∧ P.underlying xt = some d ∧ ∀ k, d ≠ .int k)
    (hlen : (Builtin.lenOf x').run P w = .ok n w) (hnew : (Builtin.firstCells size n x').run P w = .ok new w)
    (hle : len + n ≤ c) (hst : ∀ ad, a = some ad → (storeCells (ad.add (len * size)) new.toList).run P w = .ok () w') (hno : a = none → w' = w) :
    (Builtin.append_ ts t #[.slice a len c, x']).run P w = .ok (.slice a (len + n) c) w' := by
  obtain ⟨xt, d, hx1, hx2, hx3⟩ := hxt
  have e0 : (#[Value.slice a len c, x'] : Array Value)[0]? = some (.slice a len c) := rfl
  have e1 : (#[Value.slice a len c, x'] : Array Value)[1]? = some x' := rfl
  unfold Builtin.append_
  simp only [ht, hx1, e0, e1]
  simp only [Sem.run_bind, r_underlying hu, r_underlying hx2, Result.andThen_ok, r_sizeOf hs, Sem.run_pure]
  cases d <;> first
    | (exact absurd rfl (hx3 _))
    | (simp only [Bool.false_eq_true, if_false, Bool.not_false, if_true, Sem.run_bind, hlen, Result.andThen_ok, hle, hnew]
       cases a with
       | none => rw [hno rfl]; rfl
       | some ad => simp only [Sem.run_bind, hst ad rfl, Result.andThen_ok, Sem.run_pure])

theorem sim_append (hr : HRel P g h w) {ts : Array TypeId} {t : TypeId} {args : List BV} {args' : Array Value} {v : BV} {h' : BHeap} (ha : VRels P g w args args'.toList) (e : appendB P h ts args = some (v, h')) :
    Ends P g h w v h' ((Builtin.append_ ts t args').run P w) := by
  unfold appendB at e
  split at e
  · rename_i st xt0 s x ht hx1
    obtain ⟨s', x', hl, hs, hx⟩ := ha.two
    have hargs : args' = #[s', x'] := by apply Array.ext'; simpa using hl
    subst hargs
    split at e
    · rename_i el xt hu hxt0
      cases hi : P.info? el with
      | none => simp [hi] at e
      | some i =>
        simp only [hi] at e
        cases hel : elemsB P h i.size x with
        | none => simp [hel] at e
        | some xn =>
          obtain ⟨xs, n⟩ := xn
          simp only [hel] at e
          split at e
          · cases e
          · rename_i hc
            simp only [Bool.or_eq_true, beq_iff_eq, Bool.not_eq_true', not_or, Bool.not_eq_true, Bool.not_eq_false] at hc
            obtain ⟨⟨⟨⟨hc1, hnz1⟩, hnz2⟩, hone⟩, hzo⟩ := hc
            have hxt : ∃ xt d, ts[1]? = some xt ∧ P.underlying xt = some d ∧ ∀ k, d ≠ .int k := ⟨xt0, xt, hx1, hxt0, fun k hk => by subst hk; simp [intT] at hc1⟩
            have hsz : szOf P el = some i.size := szOf_info hi
            obtain ⟨hlen, hxl, hfirst⟩ := sim_elems hr hx hel
            obtain ⟨ys, hy1, hy2⟩ := hfirst n (Nat.le_refl _)
            rw [← hxl, List.take_length] at hy2
            split at e
            · -- nothing is appended
              rename_i hn0
              subst hn0
              have hys : ys = #[] := by
                have := hy2.length
                apply Array.ext'; simp at this ⊢; rw [hxl] at this; simpa using this
              subst hys
              have same : ∀ (a : Option Addr) (len c : Nat), len ≤ c → s' = .slice a len c → VRel P g w v s' → h' = h → Ends P g h w v h' ((Builtin.append_ ts t #[s', x']).run P w) := by
                intro a len c hle hs' hv hh
                subst hh
                subst hs'
                refine Ends.still hr ⟨_, run_append_in ht hu hsz hxt (hlen w) (hy1 w rfl) (by omega) (fun ad _ => by simp [storeCells]) (fun _ => rfl), hv⟩
              unfold appendNone at e
              have hs0 := hs
              split at e
              · cases e; simp only [VRel] at hs; exact same none 0 0 (Nat.le_refl _) hs hs0 rfl
              · cases e; simp only [VRel] at hs; obtain ⟨a, c, hs⟩ := hs; exact same (some a) 0 c (Nat.zero_le _) hs hs0 rfl
              · rename_i b off len cap
                simp only [VRel] at hs; obtain ⟨blk, base, c, _, hs', hcap, _⟩ := hs
                split at e
                · rename_i hge
                  cases e
                  refine same _ len c ?_ hs' hs0 rfl
                  cases cap with
                  | none => exact hcap
                  | some k => simp only [capOk] at hcap; subst hcap; simpa [capGe] using hge
                · cases e
              · rename_i cs len cap
                simp only [VRel] at hs; obtain ⟨blk, off, c, hs', _, hcap, _⟩ := hs
                split at e
                · rename_i hge
                  cases e
                  refine same _ len c ?_ hs' hs0 rfl
                  cases cap with
                  | none => exact hcap
                  | some k => simp only [capOk] at hcap; subst hcap; simpa [capGe] using hge
                · cases e
              · cases e
            · rename_i hn0
              have hpos : 0 < n := by omega
              unfold zeroOk at hzo
              cases hzb : zeroB P el with
              | none => simp [hzb] at hzo
              | some z =>
              simp only [hzb, Bool.and_eq_true, beq_iff_eq] at hzo
              obtain ⟨z', hz', hzr⟩ := r_zero hzb w
              have hzsz : z'.cells.size = i.size := by
                have := ((hzr g).cells' hzo.1).length
                simp at this; omega
              -- a new row
              have fresh : ∀ (sh : Bool) (hB : BHeap), HRel P g hB w → ∀ (a : Option Addr) (len c : Nat) (old : List BV) (old' : Array Value), s' = .slice a len c → c < len + n → roomB i.bytes (len + n) = true → VRels P g w old old'.toList → old.length = len * i.size →
                  (∀ w' : World, w'.heap = w.heap → (Builtin.firstCells i.size len (.slice a len c)).run P w' = .ok old' w') →
                  Ends P g hB w (.slice hB.next 0 (len + n) none) (hB.new (.cells (old ++ xs) el sh)) ((Builtin.append_ ts t #[s', x']).run P w) := by
                intro sh hB hrB a len c old old' hs' hgt hroom hov hol hold
                subst hs'
                simp only [roomB, decide_eq_true_eq] at hroom
                obtain ⟨cap, rest, k1, k2, k3⟩ := run_append_new (P := P) (w := w) (t := t) (a := a) ht hu hi hz' hxt (hlen w) hy1 hold hgt hroom hnz2
                refine Ends.made hrB fun hr' hm => ?_
                refine ⟨_, _, k3, ?_⟩
                have hov' := hov.append hy2
                have hlo : old'.size = len * i.size := by have := hov.length; simp at this; omega
                have hln : ys.size = n * i.size := by have := hy2.length; simp at this; omega
                have h1 := real_row hr' (c := old' ++ ys ++ rest) (lo := 0) (hi := 0) (e := el) (s := sh) (w' := { w with heap := w.heap.push (.cells (old' ++ ys ++ rest) el), drawn := w.drawn + 1 })
                  (by rw [BHeap.get_new, if_pos rfl]) hm hov' (fun j y hj => by
                    have hlt := (List.getElem?_eq_some_iff.1 hj).1
                    rw [Array.getElem?_append_left (by simpa using hlt), ← Array.toList_append, Array.getElem?_toList] at *
                    simpa using hj) rfl ⟨rfl, rfl, rfl⟩ (by omega) (fun _ => ⟨rfl, rfl⟩)
                refine ⟨h1.1, h1.2, ?_⟩
                simp only [VRel]
                refine ⟨_, _, cap, Gh.upd_same _ _ _ _, rfl, k1, fun _ => ⟨el, cap * i.size, ?_, ?_⟩⟩
                · have : (old' ++ ys ++ rest).size = cap * i.size := by
                    simp only [Array.size_append, hlo, hln, k2, hzsz]
                    rw [← Nat.add_mul, ← Nat.add_mul]; congr 1; omega
                  have hh : (w.heap.push (.cells (old' ++ ys ++ rest) el))[w.heap.size]? = some (.cells (old' ++ ys ++ rest) el) := by simp
                  simp only [World.shape?, hh, this]
                · rw [szOf_cellsOf hsz]; omega
              unfold appendSome at e
              split at e
              · split at e
                · rename_i hroom
                  cases e
                  simp only [VRel] at hs
                  have := fresh false h hr none 0 0 [] #[] hs (by omega) (by simpa using hroom) (by simp [VRels]) (by simp) (fun _ _ => rfl)
                  simpa using this
                · cases e
              · rename_i b off len c
                simp only [VRel] at hs; obtain ⟨blk, base, c', hm, hs', hcap, _⟩ := hs
                simp only [capOk] at hcap; subst hcap
                split at e
                · rename_i cs e' sh hb
                  split at e
                  · rename_i hle
                    cases hp : putCells cs (off + len * i.size) xs with
                    | none => simp [hp] at e
                    | some cs' =>
                      simp [hp] at e
                      obtain ⟨rfl, rfl⟩ := e
                      obtain ⟨w', h1, h2, h3⟩ := sim_put hr hb hm hy2 hone hp
                      subst hs'
                      refine Ends.of_w ⟨_, w', run_append_in ht hu hsz hxt (hlen w) (hy1 w rfl) hle (fun ad had => ?_) (fun hc => by cases hc), h2, h3, Ph.put hm _, ?_⟩
                      · cases had; rw [addr_add, Nat.add_assoc]; exact h1
                      · simp only [VRel]; exact ⟨blk, base, _, hm, rfl, rfl, fun hc => by cases hc⟩
                  · rename_i hgt
                    split at e
                    · rename_i hroom
                      cases htk : takeCells cs off (len * i.size) with
                      | none => simp [htk] at e
                      | some old =>
                        simp [htk] at e
                        obtain ⟨rfl, rfl⟩ := e
                        obtain ⟨cc, lo, hi', vs, hw, hv, _, hcs, _⟩ := hr.cells hb hm
                        obtain ⟨g1, g2⟩ := hv.takeCells htk
                        exact fresh false h hr (some ⟨blk, base + off, none⟩) len c' old ((vs.drop off).take (len * i.size)).toArray hs' (by omega) hroom (by simpa using g1) (takeCells_some htk).2
                          (fun w' hw' => by simp only [Builtin.firstCells]; exact run_loadCells_at _ g2 (hcs.drop.take.of_heap hw'))
                    · cases e
                · cases e
              · rename_i b off len
                simp only [VRel] at hs; obtain ⟨blk, base, c, hm, hs', hcap, htail⟩ := hs
                simp only [capOk] at hcap
                split at e
                · rename_i cs e' sh hb
                  split at e
                  · rename_i hcond
                    obtain ⟨q1, q2, rfl⟩ := hcond
                    cases e
                    obtain ⟨cc, lo, hi', vs, hw, hv, hcc, hcs, hfz, hsh⟩ := hr.cells hb hm
                    have hvl := hv.length
                    by_cases hle : len + n ≤ c
                    · -- in place
                      obtain ⟨e1, tot, hsh1, htot⟩ := htail (by simp)
                      have hsh2 : w.shape? blk = some (e', cc.size) := by simp [World.shape?, hw]
                      rw [hsh2] at hsh1; cases hsh1
                      rw [szOf_cellsOf hsz] at htot
                      have hyl : ys.size = n * i.size := by have := hy2.length; simp at this; omega
                      have hfit : base + off + len * i.size + ys.size ≤ cc.size := by
                        have : (len + n) * i.size ≤ c * i.size := Nat.mul_le_mul_right _ hle
                        rw [Nat.add_mul] at this; omega
                      have hstore := run_storeCells_row (P := P) blk (base + off + len * i.size) e' lo hi' ys.toList 0 cc w hw (by simpa using hfit) (allOne hy2 hone) hfz
                      simp only [Nat.add_zero] at hstore
                      subst hs'
                      have hrun := run_append_in (P := P) (t := t) (w := w) (w' := w.putBlk blk (.cells (setMany cc (base + off + len * i.size) ys.toList) e' (lo, hi'))) (a := some ⟨blk, base + off, none⟩) ht hu hsz hxt (hlen w) (hy1 w rfl) hle (fun ad had => by cases had; rw [addr_add]; exact hstore) (fun hc => by cases hc)
                      have hmv := hr.move (off := off) (o' := .cells (cs.drop off ++ xs) e' sh) (co' := .cells (setMany cc (base + off + len * i.size) ys.toList) e' (lo, hi')) (w' := w.putBlk blk (.cells (setMany cc (base + off + len * i.size) ys.toList) e' (lo, hi'))) hb hm hw rfl ⟨rfl, rfl, rfl⟩
                        (fun s hs => by
                          have hlt := (Array.getElem?_eq_some_iff.1 hw).1
                          rw [hsh2] at hs
                          simp only [World.shape?, putBlk_heap_same hlt, setMany_size]; exact hs)
                        (fun hmono => by
                          simp only [ORel]
                          refine ⟨_, lo, hi', rfl, ⟨vs.drop off ++ ys.toList, (VRels.mono hmono _ _ (hv.drop off)).append (VRels.mono hmono _ _ hy2), fun j y hj => ?_⟩, by simpa using hfz, hsh⟩
                          rw [setMany_get _ _ _ _ (by simpa using hfit)]
                          rw [List.getElem?_append] at hj
                          simp only [List.length_drop] at hj
                          have hl1 : vs.length - off = len * i.size := by omega
                          rw [hl1] at hj
                          by_cases hj1 : j < len * i.size
                          · rw [if_pos hj1, List.getElem?_drop] at hj
                            rw [if_neg (by omega)]
                            have := hcc _ _ hj
                            rwa [show base + (off + j) = base + off + j by omega] at this
                          · rw [if_neg hj1] at hj
                            have hlt := (List.getElem?_eq_some_iff.1 hj).1
                            simp only [Array.length_toList] at hlt
                            rw [if_pos (by simp only [Array.length_toList]; omega), show base + off + j - (base + off + len * i.size) = j - len * i.size by omega]
                            exact hj)
                      refine ⟨_, _, _, hrun, hmv.1, hmv.2, ?_, ?_⟩
                      · intro b1 hb1 hm1
                        refine ⟨by rw [Gh.upd_other g (by omega)]; exact hm1, ?_⟩
                        rw [BHeap.get_new, if_neg (by simp; omega), BHeap.get_put, if_neg (fun ee => by subst ee; rw [hm] at hm1; cases hm1)]
                      · simp only [VRel]
                        refine ⟨_, _, c, Gh.upd_same _ _ _ _, by simp, hle, fun _ => ⟨e', cc.size, ?_, ?_⟩⟩
                        · have hlt := (Array.getElem?_eq_some_iff.1 hw).1
                          simp only [World.shape?, putBlk_heap_same hlt, setMany_size]
                        · rw [szOf_cellsOf hsz]; omega
                    · -- anew; the old row is given up
                      obtain ⟨hd1, hd2⟩ := hr.drop b
                      have hk := fresh sh _ hd1 (some ⟨blk, base + off, none⟩) len c (cs.drop off) ((vs.drop off).take (len * i.size)).toArray hs' (by omega) q2 (by
                          have hle2 : (vs.drop off).length = len * i.size := by simp; omega
                          rw [List.take_of_length_le (by omega)]
                          simpa using hv.drop off) (by simp; omega)
                        (fun w' hw' => by simp only [Builtin.firstCells]; exact run_loadCells_at _ (by simp; omega) (hcs.drop.take.of_heap hw'))
                      obtain ⟨v2, g2, w2, k1, k2, k3, k4, k5⟩ := hk
                      refine ⟨v2, g2, w2, k1, k2, hd2.trans k3, ?_, k5⟩
                      exact (Ph.put hm none).trans (Nat.le_refl _) k4
                  · cases e
                · cases e
              · rename_i cs len c
                simp only [VRel] at hs; obtain ⟨blk, off, c', hs', hf, hcap, vs, hv, hcs⟩ := hs
                simp only [capOk] at hcap; subst hcap
                split at e
                · cases e
                · rename_i hgt
                  split at e
                  · rename_i hroom
                    cases htk : takeCells cs 0 (len * i.size) with
                    | none => simp [htk] at e
                    | some old =>
                      simp [htk] at e
                      obtain ⟨rfl, rfl⟩ := e
                      obtain ⟨g1, g2⟩ := hv.takeCells htk
                      have hcs' : CellsAt w blk off (vs.drop 0) := by simpa using hcs
                      exact fresh false h hr (some ⟨blk, off, none⟩) len c' old ((vs.drop 0).take (len * i.size)).toArray hs' (by omega) hroom (by simpa using g1) (takeCells_some htk).2
                        (fun w' hw' => by simp only [Builtin.firstCells]; exact run_loadCells_at _ g2 (hcs'.take.of_heap hw'))
                  · cases e
              · cases e
    · cases e
  · cases e
end
end Go.PB

set_option linter.unusedSimpArgs false
set_option linter.unusedVariables false
namespace Go.PB
open Go

section
variable {P : Program} {g : Gh} {h : BHeap} {w : World}

def NR (P : Program) (g : Gh) (w : World) : BNext → Result Next → Prop
  | .value v, r => ∃ v', r = .ok (.value v') w ∧ VRel P g w v v'
  | .skip, r => r = .ok .skip w
  | .enter f args, r => ∃ args', r = .ok (.enter f args') w ∧ VRels P g w args args'.toList
  | .round l f tmps a b, r => ∃ l' tmps', r = .ok (.round l' f tmps' a b) w ∧ g.m l = some (l', 0) ∧ VRels P g w tmps tmps'.toList
  | .defer d, r => ∃ d', r = .ok (.defer d') w ∧ DRel P g w d d'
  | .recover, r => r = .ok .recover w
  | .panic v, r => ∃ v', r = .halt (.panic v') w ∧ VRel P g w v v'

/-- how an operation ends -/
def Done (P : Program) (g : Gh) (h : BHeap) (w : World) (n : BNext) (h' : BHeap) (r : Result Next) : Prop :=
  ∃ g' w', HRel P g' h' w' ∧ Ext g h w g' h' w' ∧ Ph g h g' h' ∧ NR P g' w' n r

theorem Done.of_ends {v : BV} {h' : BHeap} {s : Sem Value} (he : Ends P g h w v h' (s.run P w)) : Done P g h w (.value v) h' ((do pure (.value (← s)) : Sem Next).run P w) := by
  obtain ⟨v', g', w', e, h1, h2, h3, h4⟩ := he
  exact ⟨g', w', h1, h2, h3, v', by simp [e], h4⟩

theorem Done.of_still (hr : HRel P g h w) {v : BV} {s : Sem Value} (he : ∃ v', s.run P w = .ok v' w ∧ VRel P g w v v') : Done P g h w (.value v) h ((do pure (.value (← s)) : Sem Next).run P w) :=
  Done.of_ends (Ends.still hr he)

theorem Done.of_unit {h' : BHeap} {s : Sem Unit} (he : ∃ w', s.run P w = .ok () w' ∧ HRel P g h' w' ∧ Ext g h w g h' w' ∧ Ph g h g h') : Done P g h w .skip h' ((do s; pure .skip : Sem Next).run P w) := by
  obtain ⟨w', e, h1, h2, h3⟩ := he
  exact ⟨g, w', h1, h2, h3, by simp [NR, e]⟩

theorem Done.pure (hr : HRel P g h w) {n : BNext} {r : Result Next} (hn : NR P g w n r) : Done P g h w n h r := ⟨g, w, hr, Ext.refl _ _ _, Ph.refl _ _, hn⟩

theorem sim_builtin (hr : HRel P g h w) {b : Builtin} {ts : Array TypeId} {t : TypeId} {cs : Array Bool} {args : List BV} {args' : Array Value} {n : BNext} {h' : BHeap} (ha : VRels P g w args args'.toList) (e : builtinB P h b ts args = some (n, h')) :
    Done P g h w n h' ((builtin b ts t cs args').run P w) := by
  have hv : ∀ {r : Option (BV × BHeap)} {s : Sem Value}, (∀ v h1, r = some (v, h1) → Ends P g h w v h1 (s.run P w)) → (r.map fun (x : BV × BHeap) => (BNext.value x.1, x.2)) = some (n, h') → Done P g h w n h' ((do pure (.value (← s)) : Sem Next).run P w) := by
    intro r s hs he
    cases r with
    | none => cases he
    | some x => obtain ⟨v, h1⟩ := x; simp at he; obtain ⟨rfl, rfl⟩ := he; exact Done.of_ends (hs v h1 rfl)
  cases b <;> simp only [builtinB] at e
  case append => exact hv (fun v h1 he => sim_append hr ha he) e
  case copy => exact hv (fun v h1 he => sim_copy hr ha he) e
  case delete => exact hv (fun v h1 he => Ends.of_w (sim_delete hr ha he)) e
  case clear => exact hv (fun v h1 he => sim_clear hr ha he) e
  case len =>
    cases hl : lenB P h ts args with
    | none => simp [hl] at e
    | some v =>
      simp [hl] at e
      obtain ⟨rfl, rfl⟩ := e
      exact Done.of_still hr (sim_len hr ha hl)
  case min =>
    cases args with
    | nil => cases e
    | cons x r =>
      simp only [VRels] at ha
      obtain ⟨x', r', hl, hx, hrr⟩ := ha
      cases hf : r.foldlM minB x with
      | none => simp [hf] at e
      | some v =>
        simp [hf] at e
        obtain ⟨rfl, rfl⟩ := e
        obtain ⟨v', h1, h2⟩ := sim_fold (P := P) (g := g) (w := w) (f' := Builtin.min2) (fun x y z x' y' => sim_min2) r r' x v x' hrr hx hf
        refine Done.of_still (s := Builtin.min_ ts t args') hr ⟨v', ?_, h2⟩
        simp only [Builtin.min_, hl]; exact h1
  case max =>
    cases args with
    | nil => cases e
    | cons x r =>
      simp only [VRels] at ha
      obtain ⟨x', r', hl, hx, hrr⟩ := ha
      cases hf : r.foldlM maxB x with
      | none => simp [hf] at e
      | some v =>
        simp [hf] at e
        obtain ⟨rfl, rfl⟩ := e
        obtain ⟨v', h1, h2⟩ := sim_fold (P := P) (g := g) (w := w) (f' := Builtin.max2) (fun x y z x' y' => sim_max2) r r' x v x' hrr hx hf
        refine Done.of_still (s := Builtin.max_ ts t args') hr ⟨v', ?_, h2⟩
        simp only [Builtin.max_, hl]; exact h1
  case panic =>
    split at e
    · rename_i tt x
      cases e
      obtain ⟨v', hl, hx⟩ := ha.one
      have hargs : args' = #[v'] := by apply Array.ext'; simpa using hl
      subst hargs
      have hx0 := hx
      simp only [VRel] at hx
      obtain ⟨x', rfl, _⟩ := hx
      exact Done.pure hr ⟨_, by simp [builtin, Instr.panic], hx0⟩
    · cases e
  case recover => cases e; exact Done.pure hr rfl
  all_goals cases e

theorem sim_callFunc (hr : HRel P g h w) {f : FuncId} {args : List BV} {args' : Array Value} {n : BNext} (ha : VRels P g w args args'.toList) (e : callFuncB P f args = some n) :
    NR P g w n ((callFunc f args').run P w) := by
  unfold callFuncB at e
  split at e
  · rename_i hb
    cases e
    unfold hasBody at hb
    split at hb
    · rename_i fn hf
      simp only [Bool.and_eq_true, Bool.not_eq_true', Option.isSome_iff_ne_none] at hb
      obtain ⟨hb1, hb2⟩ := hb
      have hnn : fn.body.isNone = false := by cases hfb : fn.body with | none => exact absurd hfb hb1 | some _ => rfl
      refine ⟨args', ?_, ha⟩
      simp only [callFunc, Sem.run_bind, run_program, Result.andThen_ok, hf, hb2, hnn, Bool.false_eq_true, if_false, Sem.run_pure]
    · cases hb
  · cases e

theorem sim_method {t : TypeId} {v r : BV} {v' : Value} {name : String} {f : FuncId} (hv : VRel P g w v v') (e : methodB P t v name = some (f, r)) (fuel : Nat) :
    ∃ r', (method (fuel + 1) t v' name).run P w = .ok (f, r') w ∧ VRel P g w r r' := by
  unfold methodB at e
  cases hi : P.info? t with
  | none => simp [hi] at e
  | some i =>
    simp only [hi] at e
    cases hm : i.methods.find? (·.name == name) with
    | none => simp [hm] at e
    | some m =>
      simp only [hm] at e
      split at e
      · cases e
      · rename_i hp
        have hp : m.path = #[] := by simpa using hp
        split at e
        · rename_i f1 el hf hu
          cases e
          refine ⟨v', ?_, hv⟩
          simp [method, r_info hi, hm, hp, follow, hf, receiverAt, r_underlying hu, Place.get]
        · cases e
        · rename_i f1 d hnp hf hu
          cases e
          refine ⟨v', ?_, hv⟩
          simp only [method, Sem.run_bind, r_info hi, Result.andThen_ok, hm, hp, follow, Sem.run_pure, hf, receiverAt, r_underlying hu]
          cases d <;> first
            | (exact absurd rfl (hnp _))
            | (simp [follow, Place.get, receiverAt, r_underlying hu, hf])
        · cases e

theorem fuel_eq (P : Program) : P.types.size + Made.depth - 1 + 1 = P.types.size + Made.depth := by
  have : 0 < Made.depth := by decide
  omega

theorem fold_set (w : World) : ∀ (ps : List Nat) (as : List BV) (as' : List Value) (ts : List BV) (ts' : Array Value), VRels P g w as as' → VRels P g w ts ts'.toList →
    VRels P g w ((ps.zip as).foldl (fun tmps (x : Nat × BV) => tmps.set x.1 x.2) ts) ((ps.zip as').foldl (fun (tmps : Array Value) (x : Nat × Value) => tmps.setIfInBounds x.1 x.2) ts').toList := by
  intro ps
  induction ps with
  | nil => intro as as' ts ts' _ h; simpa using h
  | cons p ps ih =>
    intro as as' ts ts' ha h
    cases as with
    | nil => simp only [VRels] at ha; subst ha; simpa using h
    | cons a as =>
      simp only [VRels] at ha; obtain ⟨a', ar, rfl, h1, h2⟩ := ha
      simp only [List.zip_cons_cons, List.foldl_cons]
      exact ih as ar _ _ h2 (by simpa using h.set p h1)

theorem sim_invoke (hr : HRel P g h w) {t : BTarget} {t' : Target} {args : List BV} {args' : Array Value} {n : BNext} {h' : BHeap} (ht : TgRel P g w t t') (ha : VRels P g w args args'.toList) (e : invokeB P h t args = some (n, h')) :
    Done P g h w n h' ((invoke t' args').run P w) := by
  unfold invokeB at e
  split at e
  · rename_i b ts ty cs
    simp only [TgRel] at ht; subst ht
    simp only [invoke]
    exact sim_builtin hr ha e
  · rename_i f captured
    simp only [TgRel] at ht; obtain ⟨c', rfl, hc⟩ := ht
    cases hcf : callFuncB P f (args ++ captured) with
    | none => simp [hcf] at e
    | some n1 =>
      simp [hcf] at e; obtain ⟨rfl, rfl⟩ := e
      simp only [invoke]
      exact Done.pure hr (sim_callFunc hr (by rw [Array.toList_append]; exact ha.append hc) hcf)
  · rename_i name captured
    simp only [TgRel] at ht; obtain ⟨c', rfl, hc⟩ := ht
    split at e
    · rename_i t v rest
      simp only [VRels] at ha; obtain ⟨x', r', hl, hx, hrr⟩ := ha
      simp only [VRel] at hx; obtain ⟨v', rfl, hv⟩ := hx
      cases hm : methodB P t v name with
      | none => simp [hm] at e
      | some fr =>
        obtain ⟨f, r⟩ := fr
        simp only [hm, Option.bind_some] at e
        cases hcf : callFuncB P f (r :: rest) with
        | none => simp [hcf] at e
        | some n1 =>
          simp [hcf] at e; obtain ⟨rfl, rfl⟩ := e
          obtain ⟨rr, h1, h2⟩ := sim_method hv hm (P.types.size + Made.depth - 1)
          have hfuel : P.types.size + Made.depth - 1 + 1 = P.types.size + Made.depth := fuel_eq P
          rw [hfuel] at h1
          have h0 : args'[0]? = some (.iface t v') := by rw [← Array.getElem?_toList, hl]; rfl
          have hex : (args'.extract 1 args'.size).toList = r' := by
            rw [Array.toList_extract, hl]
            have hsz : args'.size = r'.length + 1 := by rw [← Array.length_toList, hl]; rfl
            simp [List.extract_eq_take_drop, hsz]
          refine Done.pure hr ?_
          have := sim_callFunc hr (args' := #[rr] ++ args'.extract 1 args'.size) (by rw [Array.toList_append, hex]; exact VRels.cons h2 hrr) hcf
          simp only [invoke, h0, callMethod, Sem.run_bind, run_program, Result.andThen_ok, h1]
          exact this
    · cases e
  · rename_i t name captured
    simp only [TgRel] at ht; obtain ⟨c', rfl, hc⟩ := ht
    split at e
    · rename_i x rest
      simp only [VRels] at ha; obtain ⟨x', r', hl, hx, hrr⟩ := ha
      split at e
      · rename_i ms hu
        split at e
        · rename_i t2 v2
          simp only [VRel] at hx; obtain ⟨v', rfl, hv⟩ := hx
          cases hm : methodB P t2 v2 name with
          | none => simp [hm] at e
          | some fr =>
            obtain ⟨f, r⟩ := fr
            simp only [hm, Option.bind_some] at e
            cases hcf : callFuncB P f (r :: rest) with
            | none => simp [hcf] at e
            | some n1 =>
              simp [hcf] at e; obtain ⟨rfl, rfl⟩ := e
              obtain ⟨rr, h1, h2⟩ := sim_method hv hm (P.types.size + Made.depth - 1)
              have hfuel : P.types.size + Made.depth - 1 + 1 = P.types.size + Made.depth := fuel_eq P
              rw [hfuel] at h1
              have h0 : args'[0]? = some (.iface t2 v') := by rw [← Array.getElem?_toList, hl]; rfl
              have hex : (args'.extract 1 args'.size).toList = r' := by
                rw [Array.toList_extract, hl]
                have hsz : args'.size = r'.length + 1 := by rw [← Array.length_toList, hl]; rfl
                simp [List.extract_eq_take_drop, hsz]
              refine Done.pure hr ?_
              have := sim_callFunc hr (args' := #[rr] ++ args'.extract 1 args'.size) (by rw [Array.toList_append, hex]; exact VRels.cons h2 hrr) hcf
              simp only [invoke, h0, Sem.run_bind, r_underlying hu, Result.andThen_ok, Sem.run_pure, callMethod, run_program, h1]
              exact this
        · cases e
      · rename_i d hni hu
        cases hm : methodB P t x name with
        | none => simp [hm] at e
        | some fr =>
          obtain ⟨f, r⟩ := fr
          simp only [hm, Option.bind_some] at e
          cases hcf : callFuncB P f (r :: rest) with
          | none => simp [hcf] at e
          | some n1 =>
            simp [hcf] at e; obtain ⟨rfl, rfl⟩ := e
            obtain ⟨rr, h1, h2⟩ := sim_method hx hm (P.types.size + Made.depth - 1)
            have hfuel : P.types.size + Made.depth - 1 + 1 = P.types.size + Made.depth := fuel_eq P
            rw [hfuel] at h1
            have h0 : args'[0]? = some x' := by rw [← Array.getElem?_toList, hl]; rfl
            have hex : (args'.extract 1 args'.size).toList = r' := by
              rw [Array.toList_extract, hl]
              have hsz : args'.size = r'.length + 1 := by rw [← Array.length_toList, hl]; rfl
              simp [List.extract_eq_take_drop, hsz]
            refine Done.pure hr ?_
            have := sim_callFunc hr (args' := #[rr] ++ args'.extract 1 args'.size) (by rw [Array.toList_append, hex]; exact VRels.cons h2 hrr) hcf
            simp only [invoke, h0, Sem.run_bind, r_underlying hu, Result.andThen_ok]
            cases d <;> first
              | (exact absurd rfl (hni _))
              | (simp only [Sem.run_pure, Result.andThen_ok, Sem.run_bind, callMethod, run_program, h1]; exact this)
      · cases e
    · cases e
  · rename_i l
    simp only [TgRel] at ht; obtain ⟨blk, hm, rfl⟩ := ht
    split at e
    · rename_i r hb
      split at e
      · cases e
      · rename_i hlen
        cases e
        obtain ⟨_, o', hw, ho⟩ := hr.obj _ _ _ _ hb hm
        simp only [ORel] at ho
        obtain ⟨_, r', rfl, hlr⟩ := ho
        obtain ⟨a1, a2, a3, a4, a5, a6, a7, a8⟩ := hlr
        have hget : (getObj blk).run P w = .ok (.loop r') w := by simp [getObj, Sem.run, hw]
        refine Done.pure hr ⟨blk, (r'.params.zip args').foldl (fun tmps (x : Nat × Value) => tmps.setIfInBounds x.1 x.2) r'.tmps, ?_, hm, ?_⟩
        · have hsz : args'.size = r'.params.size := by
            have := ha.length; rw [← a5]; simp at this; omega
          simp only [invoke, Instr.yield, Instr.getLoop, Sem.run_bind, hget, Result.andThen_ok, Sem.run_pure]
          rw [if_neg (by simpa using hsz)]
          simp only [Sem.run_pure, a3, a6, a7]
        · have := fold_set (P := P) (g := g) w r'.params.toList args args'.toList r.tmps r'.tmps ha a4
          rw [a5]
          rw [← Array.foldl_toList, Array.toList_zip]
          exact this
    · cases e
  · cases e

theorem sim_ofFunc (hr : HRel P g h w) {f : BV} {f' : Value} {args : List BV} {args' : Array Value} {d : BDef} (hf : VRel P g w f f') (ha : VRels P g w args args'.toList) (e : ofFuncB f args = some d) :
    ∃ d', (Deferred.ofValue f' args').run P w = .ok d' w ∧ DRel P g w d d' := by
  unfold ofFuncB at e
  split at e
  · rename_i fn first captured
    simp only [VRel] at hf; obtain ⟨a', c', rfl, h1, h2⟩ := hf
    cases e
    exact ⟨_, rfl, ⟨c', rfl, h2⟩, by rw [Array.toList_append]; exact h1.append ha⟩
  · rename_i l
    simp only [VRel] at hf; obtain ⟨blk, hm, rfl⟩ := hf
    cases e
    exact ⟨_, rfl, ⟨blk, hm, rfl⟩, by simpa using ha⟩
  · cases e
  · cases e

theorem sim_resolve (hr : HRel P g h w) {ρ : Operand → BV} {σ : Operand → Value} {c : Call} {ty : TypeId} {d : BDef} (hρ : ∀ x ∈ c.operands.toList, VRel P g w (ρ x) (σ x)) (e : resolveB ρ c ty = some d) :
    ∃ d', (resolve σ c ty).run P w = .ok d' w ∧ DRel P g w d d' := by
  have hargs : VRels P g w (c.args.toList.map ρ) (c.args.map σ).toList := by
    rw [Array.toList_map]
    exact VRels.map fun a ha => hρ a (by simp [Call.operands, ha])
  unfold resolveB at e
  dsimp only at e
  split at e
  · rename_i b hc
    cases e
    refine ⟨{ target := .builtin b c.argTypes ty (c.args.map fun | .const _ => true | _ => false), args := c.args.map σ }, by simp only [resolve, hc]; rfl, rfl, hargs⟩
  · rename_i recv name hc
    cases e
    refine ⟨{ target := .fn (.method name) #[], args := #[σ recv] ++ c.args.map σ }, by simp only [resolve, hc]; rfl, ⟨#[], rfl, VRels.nil⟩, ?_⟩
    rw [Array.toList_append]
    exact VRels.cons (hρ recv (by simp [Call.operands, hc])) hargs
  · rename_i f hc
    obtain ⟨d', h1, h2⟩ := sim_ofFunc hr (hρ f (by simp [Call.operands, hc])) hargs e
    exact ⟨d', by simp only [resolve, hc]; exact h1, h2⟩

def vnil : Value → Nat
  | .nilIface => 1 | .agg _ => 2 | _ => 0
def bnil : BV → Nat
  | .nili => 1 | .agg _ => 2 | _ => 0

theorem VRel.nilk {b : BV} {v : Value} (hv : VRel P g w b v) (hk : b.known = true) : bnil b = vnil v := by
  cases b <;> simp only [VRel] at hv <;> first
    | (simp [BV.known] at hk; done)
    | (subst hv; rfl)
    | (obtain ⟨_, rfl, _⟩ := hv; rfl)
    | (obtain ⟨_, _, rfl⟩ := hv; rfl)
    | (obtain ⟨_, _, rfl, _⟩ := hv; rfl)
    | (obtain ⟨_, _, _, rfl⟩ := hv; rfl)
    | (obtain ⟨_, _, _, rfl, _⟩ := hv; rfl)
    | (obtain ⟨_, _, _, _, rfl, _⟩ := hv; rfl)

theorem eqGuard_other {op : BinOp} (t : TypeId) (x y : Operand) {a b : Value} (hk : vnil a ≠ vnil b ∨ vnil a = 0) : eqGuard op t x y a b = pure () := by
  cases op <;> first
    | rfl
    | (cases a <;> cases b <;> first
        | rfl
        | (simp [vnil] at hk; done))

theorem eqGuardIn_false (P : Program) (w : World) : ∀ (d : Nat) (t : TypeId) (a b : Value) (D : Nat), P.eqGuardType d t = false → d ≤ D → True := fun _ _ _ _ _ _ _ => trivial

theorem run_eqGuard {op : BinOp} {t : TypeId} {x y : Operand} {a b : BV} {a' b' : Value} (ha : VRel P g w a a') (hb : VRel P g w b b') (e : eqGuardB P op t x y a b = true) (hk : (op = .eql ∨ op = .neq) → a.known = true ∧ b.known = true) : (eqGuard op t x y a' b').run P w = .ok () w := by
  by_cases ho : op = .eql ∨ op = .neq
  · obtain ⟨k1, k2⟩ := hk ho
    have n1 := ha.nilk k1
    have n2 := hb.nilk k2
    by_cases hc : vnil a' ≠ vnil b' ∨ vnil a' = 0
    · rw [eqGuard_other t x y hc]; rfl
    · simp only [not_or, Decidable.not_not, ne_eq] at hc
      obtain ⟨h1, h2⟩ := hc
      -- both nil, or both aggregates
      cases a <;> simp [bnil] at n1 <;> first
        | (rw [← n1] at h2; exact absurd rfl h2)
        | skip
      · -- nil
        simp only [VRel] at ha; subst ha
        cases b <;> simp [bnil] at n2 <;> first
          | (rw [← h1] at n2; cases n2; done)
          | skip
        simp only [VRel] at hb; subst hb
        rcases ho with rfl | rfl
        all_goals
          simp only [eqGuardB, Bool.or_eq_true] at e
          simp only [eqGuard]
          rw [if_neg (by simp)]
          rw [if_pos (by cases x <;> cases y <;> first | rfl | (simp at e; done))]
          rfl
      · simp only [VRel] at ha; obtain ⟨us, rfl, _⟩ := ha
        cases b <;> simp [bnil] at n2 <;> first
          | (rw [← h1] at n2; cases n2; done)
          | skip
        simp only [VRel] at hb; obtain ⟨vs, rfl, _⟩ := hb
        rcases ho with rfl | rfl
        all_goals
          simp only [eqGuardB] at e
          simp only [eqGuard]
          rw [if_neg (by simp)]
          simp only [Sem.run_bind, run_program, Result.andThen_ok, e, if_true]
          rfl
  · have : eqGuard op t x y a' b' = pure () := by cases op <;> first | rfl | (simp at ho)
    rw [this]; rfl

theorem binB_known {op : BinOp} {t : TypeId} {x y v : BV} (e : binB P h op t x y = some v) (ho : op = .eql ∨ op = .neq) : x.known = true ∧ y.known = true := by
  unfold binB at e
  split at e <;> first
    | exact ⟨rfl, rfl⟩
    | (cases hq : eqB P h 12 t x y with
       | none => simp [hq] at e
       | some r => exact eqB_known hq)
    | (cases e; done)

theorem prel {ps : Array (Nat × Operand)} {ρ : Operand → BV} {σ : Operand → Value} (hρ : ∀ x ∈ (ps.toList.map (·.2)), VRel P g w (ρ x) (σ x)) :
    PRel P g w (ps.toList.map fun (i, x) => (i, ρ x)) (ps.toList.map fun (i, x) => (i, σ x)) := by
  refine ⟨by simp, fun j i v hj => ?_⟩
  rw [List.getElem?_map] at hj ⊢
  cases hp : ps.toList[j]? with
  | none => simp [hp] at hj
  | some q =>
    obtain ⟨i', x⟩ := q
    simp [hp] at hj
    obtain ⟨rfl, rfl⟩ := hj
    exact ⟨σ x, by simp [hp], hρ x (List.mem_map.2 ⟨_, List.mem_of_getElem? hp, rfl⟩)⟩

theorem orelv {x : Option Operand} {ρ : Operand → BV} {σ : Operand → Value} (hρ : ∀ y ∈ x, VRel P g w (ρ y) (σ y)) : ORelV P g w (x.map ρ) (x.map σ) := by
  cases x with
  | none => exact .inl ⟨rfl, rfl⟩
  | some y => exact .inr ⟨_, _, rfl, rfl, hρ y rfl⟩

theorem sim_mark (hr : HRel P g h w) {t : TypeId} {x v : BV} {x' : Value} {h' : BHeap} (hx : VRel P g w x x') (e : markB P h t x = some (v, h')) : Ends P g h w v h' ((convert t t x').run P w) := by
  unfold markB at e
  split at e
  · rename_i el hd
    split at e
    · rename_i b off len cap hel
      split at e
      · rename_i cs e' hb
        cases e
        have hx0 := hx
        simp only [VRel] at hx
        obtain ⟨blk, base, c, hm, rfl, hcap, htail⟩ := hx
        obtain ⟨_, o', hw, ho⟩ := hr.obj _ _ _ _ hb hm
        simp only [ORel] at ho
        obtain ⟨ca, lo, hi, rfl, hvs, hfr, hz⟩ := ho
        obtain ⟨rfl, rfl⟩ := hz trivial
        have hlt : blk < w.heap.size := hr.img b blk base hm
        have hput := hr.write (o' := .cells cs e' true) (co' := .cells ca e' (ca.size, ca.size + 1)) hb hm hw (w' := w.putBlk blk (.cells ca e' (ca.size, ca.size + 1))) rfl ⟨rfl, rfl, rfl⟩
          (fun s hs => by simp [World.shape?, hw] at hs; simp [World.shape?, putBlk_heap_same hlt, hs]) (fun hmono => by
            simp only [ORel]
            obtain ⟨vs, h1, h2⟩ := hvs
            exact ⟨ca, _, _, rfl, ⟨vs, VRels.mono hmono _ _ h1, h2⟩, fun i hi => by omega, fun h => by cases h⟩)
        refine Ends.of_w ⟨_, w.putBlk blk (.cells ca e' (ca.size, ca.size + 1)), ?_, hput.1, hput.2, Ph.put hm _, VRel.mono hput.2.mono _ _ hx0⟩
        have hfreeze : World.freeze w ⟨blk, ca.size, none⟩ 1 = w.putBlk blk (.cells ca e' (ca.size, ca.size + 1)) := by
          simp only [World.freeze]
          rw [if_neg (by omega)]
          unfold World.putBlk
          congr 1
          apply Array.ext_getElem?
          intro i
          rw [Array.getElem?_modify]
          by_cases ei : blk = i
          · subst ei; rw [Array.getElem?_setIfInBounds_self_of_lt hlt]; simp [hw]
          · rw [if_neg ei, Array.getElem?_setIfInBounds_ne ei]
        refine (Sem.run_bind P w _ _).trans ?_
        rw [r_underlying hd, Result.andThen_ok]
        refine (Sem.run_bind P w _ _).trans ?_
        rw [r_underlying hd, Result.andThen_ok]
        refine (Sem.run_bind P w (underlying el) _).trans ?_
        rw [r_underlying hel, Result.andThen_ok]
        have hsh : w.shape? blk = some (e', ca.size) := by simp [World.shape?, hw]
        simp only [beq_self_eq_true, markStringish, Sem.run_bind, run_shape, Result.andThen_ok, hsh, run_freeze, hfreeze, Sem.run_pure]
      · cases e
    · cases e
  · rename_i d hnd hd
    obtain ⟨rfl, h1⟩ := sim_convert hr hx e (fun el hel => by rw [hel] at hd; cases hd; exact hnd _ rfl)
    exact Ends.still hr h1
  · cases e

/-- **ONE OPERATION.** -/
theorem sim_op (hr : HRel P g h w) {o : Oper} {ρ : Operand → BV} {σ : Operand → Value} {n : BNext} {h' : BHeap} (hρ : ∀ x ∈ o.op.operands.toList, VRel P g w (ρ x) (σ x)) (e : opB P h ρ o = some (n, h')) :
    Done P g h w n h' ((execOp σ o).run P w) := by
  obtain ⟨dst, op, ty, pos, after, guard⟩ := o
  have hv : ∀ {r : Option BV} {s : Sem Value}, (∀ v, r = some v → ∃ v', s.run P w = .ok v' w ∧ VRel P g w v v') → (r.map fun x => (BNext.value x, h)) = some (n, h') → Done P g h w n h' ((do pure (.value (← s)) : Sem Next).run P w) := by
    intro r s hs he
    cases r with
    | none => cases he
    | some x => simp at he; obtain ⟨rfl, rfl⟩ := he; exact Done.of_still hr (hs x rfl)
  have hvh : ∀ {r : Option (BV × BHeap)} {s : Sem Value}, (∀ v h1, r = some (v, h1) → Ends P g h w v h1 (s.run P w)) → (r.map fun (x : BV × BHeap) => (BNext.value x.1, x.2)) = some (n, h') → Done P g h w n h' ((do pure (.value (← s)) : Sem Next).run P w) := by
    intro r s hs he
    cases r with
    | none => cases he
    | some x => obtain ⟨v, h1⟩ := x; simp at he; obtain ⟨rfl, rfl⟩ := he; exact Done.of_ends (hs v h1 rfl)
  have hu : ∀ {r : Option BHeap} {s : Sem Unit}, (∀ h1, r = some h1 → ∃ w', s.run P w = .ok () w' ∧ HRel P g h1 w' ∧ Ext g h w g h1 w' ∧ Ph g h g h1) → (r.map fun x => (BNext.skip, x)) = some (n, h') → Done P g h w n h' ((do s; pure .skip : Sem Next).run P w) := by
    intro r s hs he
    cases r with
    | none => cases he
    | some x => simp at he; obtain ⟨rfl, rfl⟩ := he; exact Done.of_unit (hs x rfl)
  cases op <;> simp only [opB] at e <;> simp only [Op.operands] at hρ
  case move x => cases e; exact Done.pure hr ⟨_, rfl, hρ x (by simp)⟩
  case assign x => cases e; exact Done.pure hr ⟨_, rfl, hρ x (by simp)⟩
  case pick c a b =>
    have hc := hρ c (by simp)
    have ha := hρ a (by simp)
    have hb := hρ b (by simp)
    cases hcc : ρ c <;> simp [hcc] at e
    rename_i bb
    rw [hcc] at hc
    simp only [VRel] at hc
    obtain ⟨rfl, rfl⟩ := e
    refine Done.pure hr ⟨if bb then σ a else σ b, ?_, ?_⟩
    · simp [execOp, hc, asBool]
    · cases bb <;> simpa
  case alloc t =>
    refine hvh (fun v h1 he => ?_) e
    cases hz : zeroB P t with
    | none => simp [hz] at he
    | some z =>
      simp only [hz, Option.bind_some, allocB] at he
      split at he
      · rename_i hone
        cases he
        exact Ends.made hr fun hr' hm => real_alloc hr' hz (by rw [BHeap.get_new, if_pos rfl]) hm hone
      · cases he
  case box t x =>
    refine hvh (fun v h1 he => ?_) e
    simp only [allocB] at he
    split at he
    · rename_i hone
      cases he
      exact Ends.made hr fun hr' hm => real_box hr' (by rw [BHeap.get_new, if_pos rfl]) hm (hρ x (by simp)) hone
    · cases he
  case build t parts =>
    refine hv (fun v he => ?_) e
    have := sim_build (prel (P := P) (g := g) (w := w) (ps := parts) (ρ := ρ) (σ := σ) (fun x hx => hρ x (by simpa using hx))) he
    have e1 : (parts.map fun (x : Nat × Operand) => (x.1, σ x.2)) = (parts.toList.map fun (x : Nat × Operand) => (x.1, σ x.2)).toArray := by apply Array.ext'; simp
    show ∃ v', (Instr.build t (parts.map fun (x : Nat × Operand) => (x.1, σ x.2))).run P w = .ok v' w ∧ VRel P g w v v'
    rw [e1]; exact this
  case buildSlice t len parts =>
    refine hvh (fun v h1 he => ?_) e
    have hp := prel (P := P) (g := g) (w := w) (ps := parts) (ρ := ρ) (σ := σ) (fun x hx => hρ x (by simpa using hx))
    have hh : ∃ ob, h1 = h.new ob := by
      unfold buildSliceB at he
      split at he
      · split at he
        · dsimp only at he
          split at he
          · cases he
          · split at he
            · split at he
              · cases he; exact ⟨_, rfl⟩
              · cases he
            · cases he
        · cases he
      · cases he
    obtain ⟨ob, rfl⟩ := hh
    have e1 : (parts.map fun (x : Nat × Operand) => (x.1, σ x.2)) = (parts.toList.map fun (x : Nat × Operand) => (x.1, σ x.2)).toArray := by apply Array.ext'; simp
    show Ends P g h w v (h.new ob) ((Instr.buildSlice t len (parts.map fun (x : Nat × Operand) => (x.1, σ x.2))).run P w)
    rw [e1]
    exact Ends.made (o := ob) (v := v) hr fun hr' hm => real_buildSlice hr' hp he rfl rfl hm
  case load t a => exact hv (fun v he => sim_load hr (hρ a (by simp)) he) e
  case store t a x => exact hu (fun h1 he => sim_store hr (hρ a (by simp)) (hρ x (by simp)) he) e
  case nilCheck x =>
    have hx := hρ x (by simp)
    cases hxx : ρ x <;> simp [hxx] at e <;> rw [hxx] at hx <;> have hx0 := hx <;> simp only [VRel] at hx
    case ptr b off =>
      obtain ⟨rfl, rfl⟩ := e
      obtain ⟨_, _, _, h1⟩ := hx
      exact Done.pure hr ⟨σ x, by simp [execOp, h1], hx0⟩
    case rptr cs =>
      obtain ⟨rfl, rfl⟩ := e
      obtain ⟨_, _, h1, _⟩ := hx
      exact Done.pure hr ⟨σ x, by simp [execOp, h1], hx0⟩
    case iface t v =>
      obtain ⟨rfl, rfl⟩ := e
      obtain ⟨_, h1, _⟩ := hx
      exact Done.pure hr ⟨σ x, by simp [execOp, h1], hx0⟩
    case func fn a b =>
      obtain ⟨_, _, h1, _⟩ := hx
      cases fn <;> simp at e <;> obtain ⟨rfl, rfl⟩ := e <;> exact Done.pure hr ⟨σ x, by simp [execOp, h1], hx0⟩
    case yield l =>
      obtain ⟨rfl, rfl⟩ := e
      obtain ⟨_, _, h1⟩ := hx
      exact Done.pure hr ⟨σ x, by simp [execOp, h1], hx0⟩
  case binOp op t x y yt =>
    split at e
    · rename_i hg
      refine hv (s := do eqGuard op t x y (σ x) (σ y); binOp op t (σ x) (σ y)) (fun v he => ?_) e
      obtain ⟨v', h1, h2⟩ := sim_bin hr (hρ x (by simp)) (hρ y (by simp)) he
      refine ⟨v', ?_, h2⟩
      have := run_eqGuard (hρ x (by simp)) (hρ y (by simp)) hg (binB_known he)
      simp [this, h1]
    · cases e
  case unOp op t x => exact hv (fun v he => sim_un (hρ x (by simp)) he) e
  case convert src dst x =>
    split at e
    · rename_i heq
      have heq : src = dst := by simpa using heq
      subst heq
      exact hvh (fun v h1 he => sim_mark hr (hρ x (by simp)) he) e
    · refine hvh (fun v h1 he => ?_) e
      by_cases hs : ∃ el, P.underlying dst = some (.slice el)
      · obtain ⟨el, hd⟩ := hs
        unfold convertB at he
        split at he
        · rename_i hd2 _; rw [hd] at hd2; cases hd2
        · rename_i hd2 _; rw [hd] at hd2; cases hd2
        · rename_i hd2 _; rw [hd] at hd2; cases hd2
        · rename_i d el2 s hs2 hd2 hx2
          split at he
          · rename_i hel hsz
            cases he
            have hx := hρ x (by simp)
            rw [hx2] at hx
            simp only [VRel] at hx
            have hrun : (convert src dst (σ x)).run P w = (Conv.stringToBytes el2 ⟨s.toArray⟩).run P w := by
              rw [hx]
              refine (Sem.run_bind P w _ _).trans ?_
              rw [r_underlying hs2, Result.andThen_ok]
              refine (Sem.run_bind P w _ _).trans ?_
              rw [r_underlying hd2, Result.andThen_ok]
              cases d <;> (refine (Sem.run_bind P w (underlying el2) _).trans ?_; rw [r_underlying hel, Result.andThen_ok])
            rw [hrun]
            exact Ends.made hr fun hr' hm => real_bytes hr' (szOf_cellsOf hsz) (by rw [BHeap.get_new, if_pos rfl]) hm
          · cases he
        · rename_i hd2 _ _; rw [hd] at hd2; cases hd2
        · cases he
      · obtain ⟨rfl, h1⟩ := sim_convert hr (hρ x (by simp)) he (fun el hel => hs ⟨el, hel⟩)
        exact Ends.still hr h1
  case sliceToArrayPointer t x =>
    refine hv (fun v he => ?_) e
    have hx := hρ x (by simp)
    unfold arrayAtB at he
    split at he
    · rename_i m el b off len cap hu hxx
      split at he
      · rename_i hle
        cases he
        rw [hxx] at hx
        simp only [VRel] at hx
        obtain ⟨blk, base, c, hm, h1, _, _⟩ := hx
        refine ⟨.pointer (some ⟨blk, base + off, none⟩), ?_, by simp only [VRel]; exact ⟨blk, base, hm, rfl⟩⟩
        rw [h1]
        simp only [Instr.arrayAt, Sem.run_bind, r_underlying hu, Result.andThen_ok]
        rw [if_neg (by omega)]; rfl
      · cases he
    · rename_i m el cs len cap hu hxx
      split at he
      · rename_i hle
        cases he
        rw [hxx] at hx
        simp only [VRel] at hx
        obtain ⟨blk, off, c, h1, hf, _, hvs⟩ := hx
        refine ⟨.pointer (some ⟨blk, off, none⟩), ?_, by simp only [VRel]; exact ⟨blk, off, rfl, hf, hvs⟩⟩
        rw [h1]
        simp only [Instr.arrayAt, Sem.run_bind, r_underlying hu, Result.andThen_ok]
        rw [if_neg (by omega)]; rfl
      · cases he
    · cases he
  case makeInterface t x =>
    split at e
    · cases e
    · rename_i d hu2 hni
      cases e
      refine Done.pure hr ⟨.iface t (σ x), ?_, by simp only [VRel]; exact ⟨_, rfl, hρ x (by simp)⟩⟩
      simp only [execOp, Instr.makeInterface, Sem.run_bind]
      first
        | rw [r_underlying hu2]
        | rw [r_underlying hni]
      cases d <;> first
        | rfl
        | (exact absurd rfl (hni _))
        | (exact absurd rfl (hu2 _))
    · cases e
  case makeFunc fn first captured =>
    have hf : VRels P g w (first.toList.map ρ) (first.map σ).toList := by rw [Array.toList_map]; exact VRels.map fun a ha => hρ a (by simp [ha])
    have hc : VRels P g w (captured.toList.map ρ) (captured.map σ).toList := by rw [Array.toList_map]; exact VRels.map fun a ha => hρ a (by simp [ha])
    cases fn <;> simp at e <;> obtain ⟨rfl, rfl⟩ := e <;>
      exact Done.pure hr ⟨_, rfl, by simp only [VRel]; exact ⟨_, _, rfl, hf, hc⟩⟩
  case makeMap t r =>
    have hm : ∀ (hh : (r.map ρ = none ∧ r.map σ = none) ∨ ∃ q n, r.map ρ = some (.int q n) ∧ r.map σ = some (.int q n)) k el, P.underlying t = some (.map k el) → Done P g h w (.value (.map h.next)) (h.new (.map [] 0)) ((execOp σ { dst, op := .makeMap t r, type := ty, pos, after, guard }).run P w) := by
      intro hh k el hu2
      refine Done.of_ends (s := Instr.makeMap t (r.map σ)) ?_
      exact Ends.made hr fun hr' hm => real_map hr' hu2 (by rw [BHeap.get_new, if_pos rfl]) hm hh
    cases r with
    | none =>
      simp only [Option.map_none] at e
      split at e
      · cases e; exact hm (.inl ⟨rfl, rfl⟩) _ _ (by assumption)
      · cases e
    | some x =>
      have hx := hρ x (by simp)
      cases hxx : ρ x <;> simp [hxx] at e
      rename_i q i
      rw [hxx] at hx
      simp only [VRel] at hx
      split at e
      · simp at e; obtain ⟨rfl, rfl⟩ := e; exact hm (.inr ⟨q, i, by simp [hxx], by simp [hx]⟩) _ _ (by assumption)
      · cases e
  case makeSlice t l c =>
    refine hvh (fun v h1 he => ?_) e
    have hh : ∃ ob, h1 = h.new ob := by
      unfold makeSliceB at he
      split at he
      · split at he
        · split at he
          · cases he; exact ⟨_, rfl⟩
          · cases he
        · cases he
      · cases he
    obtain ⟨ob, rfl⟩ := hh
    exact Ends.made (o := ob) (v := v) hr fun hr' hm => real_makeSlice hr' (hρ l (by simp)) (hρ c (by simp)) he rfl rfl hm
  case slice t x lo hi mx =>
    exact hv (fun v he => sim_slice hr (hρ x (by simp)) (orelv fun y hy => hρ y (by simp at hy; simp [hy])) (orelv fun y hy => hρ y (by simp at hy; simp [hy])) (orelv fun y hy => hρ y (by simp at hy; simp [hy])) he) e
  case fieldAddr t x i => exact hv (fun v he => sim_fieldAddr (hρ x (by simp)) he) e
  case field t x i => exact hv (fun v he => sim_field (hρ x (by simp)) he) e
  case indexAddr t x i => exact hv (fun v he => sim_indexAddr (hρ x (by simp)) (hρ i (by simp)) he) e
  case index t x i => exact hv (fun v he => sim_index (hρ x (by simp)) (hρ i (by simp)) he) e
  case lookup t x i ok => exact hv (fun v he => sim_lookup hr (hρ x (by simp)) (hρ i (by simp)) he) e
  case mapUpdate t m k x => exact hu (fun h1 he => sim_mapUpdate hr (hρ m (by simp)) (hρ k (by simp)) (hρ x (by simp)) he) e
  case insert t m k x => exact hu (fun h1 he => sim_mapUpdate hr (hρ m (by simp)) (hρ k (by simp)) (hρ x (by simp)) he) e
  case mapEntry t m k => exact hvh (fun v h1 he => Ends.of_w (sim_mapEntry hr (hρ m (by simp)) (hρ k (by simp)) he)) e
  case entryStore t m s x => exact hu (fun h1 he => sim_entryStore hr (hρ m (by simp)) (hρ s (by simp)) (hρ x (by simp)) he) e
  case range t x => exact hvh (fun v h1 he => sim_range hr (hρ x (by simp)) he) e
  case next it s => exact hvh (fun v h1 he => sim_next hr (hρ it (by simp)) he) e
  case entry it => exact hv (fun v he => sim_entry hr (hρ it (by simp)) he) e
  case typeAssert x xt a ok => exact hv (fun v he => sim_assert (hρ x (by simp)) he) e
  case extract t i =>
    have hx := hρ t (by simp)
    cases hxx : ρ t <;> simp [hxx] at e
    rename_i vs
    rw [hxx] at hx
    simp only [VRel] at hx
    obtain ⟨vs', h1, h2⟩ := hx
    obtain ⟨v, hv1, rfl, rfl⟩ := e
    obtain ⟨v', hv2, hv3⟩ := h2.get hv1
    refine Done.of_still (s := Instr.extract (σ t) i) hr ⟨v', ?_, hv3⟩
    simp only [Array.getElem?_toList] at hv2
    simp [Instr.extract, h1, hv2]
  case call c =>
    cases hd : resolveB ρ c ty with
    | none => simp [hd] at e
    | some d =>
      simp only [hd, Option.bind_some] at e
      obtain ⟨d', h1, h2, h3⟩ := sim_resolve hr hρ hd
      have := sim_invoke hr h2 h3 e
      simp only [execOp, Sem.run_bind, h1, Result.andThen_ok]
      exact this
  case defer c =>
    cases hd : resolveB ρ c ty with
    | none => simp [hd] at e
    | some d =>
      simp [hd] at e
      obtain ⟨rfl, rfl⟩ := e
      obtain ⟨d', h1, h2⟩ := sim_resolve hr hρ hd
      exact Done.pure hr ⟨d', by simp [execOp, h1], h2⟩
  case panic x =>
    have hx := hρ x (by simp)
    cases hxx : ρ x <;> simp [hxx] at e
    rename_i t v
    rw [hxx] at hx
    have hx0 := hx
    simp only [VRel] at hx
    obtain ⟨v', h1, _⟩ := hx
    obtain ⟨rfl, rfl⟩ := e
    exact Done.pure hr ⟨σ x, by simp [execOp, h1, Instr.panic], hx0⟩
  all_goals cases e
end
end Go.PB

