/- What B's operations do is what the model's do: slices that are made; bytes of a string; addresses, fields, slices. -/
import Derived.Test.YthjdcddpoihcdaaGreatDoorPosO2
set_option linter.unusedSimpArgs false
set_option linter.unusedVariables false
namespace Go.PB
open Go

section
variable {P : Program} {g : Gh} {h : BHeap} {w : World}

theorem repl_length (z : List BV) (n : Nat) : (repl z n).length = n * z.length := by
  induction n with
  | zero => simp [repl]
  | succ n ih => simp [repl, ih, Nat.succ_mul]; omega

theorem repl_get (z : List BV) (hz : 0 < z.length) : ∀ (n i : Nat), i < n * z.length → (repl z n)[i]? = z[i % z.length]? := by
  intro n
  induction n with
  | zero => intro i h; omega
  | succ n ih =>
    intro i hi
    simp only [repl]
    rw [List.getElem?_append]
    split
    · rename_i hlt; rw [Nat.mod_eq_of_lt hlt]
    · rename_i hge
      rw [Nat.succ_mul] at hi
      rw [ih _ (by omega)]
      congr 1
      conv => rhs; rw [show i = (i - z.length) + z.length by omega, Nat.add_mod_right]

theorem VRels.repl {z : List BV} {zs : Array Value} (hz : VRels P g w z zs.toList) (hp : 0 < z.length) (n : Nat) :
    VRels P g w (repl z n) ((Array.range (n * z.length)).map (fun i => zs[i % zs.size]!)).toList := by
  have hl := hz.length
  simp at hl
  refine VRels.of_get (by simp [repl_length]) fun i b v hb hv => ?_
  have hi : i < n * z.length := by
    have := (List.getElem?_eq_some_iff.1 hb).1
    rwa [repl_length] at this
  rw [repl_get z hp n i hi] at hb
  obtain ⟨u, hu, hr⟩ := hz.get hb
  have : v = u := by
    simp only [Array.toList_map, Array.toList_range, List.getElem?_map, List.getElem?_range hi, Option.map_some, Option.some.injEq] at hv
    rw [← hv]
    simp only [Array.getElem?_toList] at hu
    rw [← hl] at hu
    simp [getElem!_def, hu]
  rw [this]; exact hr

theorem real_buildSlice (hr : HRel P g h w) {b : Nat} {t : TypeId} {len : Nat} {ps : List (Nat × BV)} {qs : List (Nat × Value)} {v : BV} {h1 h2 : BHeap}
    (hp : PRel P g w ps qs) (e : buildSliceB P h1 t len ps = some (v, h2)) (hb : h.get b = h2.get h1.next) (hbn : b = h1.next) (hm : g.m b = none) :
    Real P g h w b v ((Instr.buildSlice t len qs.toArray).run P w) := by
  unfold buildSliceB at e
  split at e
  · rename_i el hu
    split at e
    · rename_i size' z hs hz
      dsimp only at e
      split at e
      · cases e
      · rename_i hc
        simp only [not_or, Nat.not_lt, Decidable.not_not] at hc
        obtain ⟨hc1, hc2, hc3⟩ := hc
        cases hf : fillB (fun i => some (i * (size' + 1), size' + 1)) (repl z.cells len) ps with
        | none => simp [hf] at e
        | some cs =>
          simp only [hf] at e
          split at e
          · rename_i hone
            simp only [Option.some.injEq, Prod.mk.injEq] at e
            obtain ⟨rfl, rfl⟩ := e
            rw [BHeap.get_new, if_pos rfl] at hb
            obtain ⟨z', hz', hzr⟩ := r_zero hz w
            have hzc := (hzr g).cells hc3
            have hzl := hzc.length
            simp at hzl
            obtain ⟨c', hf1, hf2⟩ := sim_fill ps qs _ cs ((Array.range (len * (size' + 1))).map (fun i => z'.cells[i % z'.cells.size]!)) hp (by
              have := hzc.repl (by omega) len
              rw [hc2] at this; exact this) hf
            have hrun : (Instr.buildSlice t len qs.toArray).run P w = .ok (.slice (some ⟨w.heap.size, 0, none⟩) len len) { w with heap := w.heap.push (.cells c' el) } := by
              simp only [Instr.buildSlice, Sem.run_bind, r_underlying hu, Result.andThen_ok, r_sizeOf hs]
              rw [if_neg (by simp only [Nat.succ_eq_add_one]; omega)]
              simp only [Nat.succ_eq_add_one]
              by_cases h0 : len * (size' + 1) = 0
              · rw [if_pos h0]
                have hl0 : len = 0 := by rcases Nat.mul_eq_zero.1 h0 with h0 | h0 <;> omega
                subst hl0
                have hfe : Instr.fill (fun i => some (i * (size' + 1), size' + 1)) ((Array.range (0 * (size' + 1))).map (fun i => (#[] : Array Value)[i % (#[] : Array Value).size]!)) qs = some c' := by
                  have e0 : (Array.range (0 * (size' + 1))).map (fun i => (#[] : Array Value)[i % (#[] : Array Value).size]!) = (Array.range (0 * (size' + 1))).map (fun i => z'.cells[i % z'.cells.size]!) := by simp
                  rw [e0]; exact hf1
                simp only [Sem.run_bind, Sem.run_pure, Result.andThen_ok]
                rw [hfe]
                simp [newRow]
              · rw [if_neg h0]
                simp only [Sem.run_bind, Sem.run_pure, hz', Result.andThen_ok]
                rw [hf1]
                simp [newRow]
            refine ⟨_, _, hrun, ?_⟩
            have h1' := real_row hr (vs := c'.toList) (c := c') (lo := 0) (hi := 0) (w' := { w with heap := w.heap.push (.cells c' el) }) hb hm hf2 (fun i x hi => by simpa using hi) rfl ⟨rfl, rfl, rfl⟩ (by omega) (fun _ => ⟨rfl, rfl⟩)
            refine ⟨h1'.1, h1'.2, ?_⟩
            simp only [VRel]
            refine ⟨_, _, _, by rw [← hbn]; exact Gh.upd_same _ _ _ _, rfl, rfl, fun e => by cases e⟩
          · cases e
    · cases e
  · cases e

theorem wrap_small {c : Int} (h0 : 0 ≤ c) (h1 : c < 2 ^ 40) : IntKind.i64.wrap c = c := by
  have e1 : (IntKind.i64).bits = 64 := rfl
  have e2 : (IntKind.i64).signed = true := rfl
  simp only [IntKind.wrap, e1, e2, Bool.true_and, decide_eq_true_eq]
  have : c % (2 ^ 64 : Int) = c := Int.emod_eq_of_lt h0 (by omega)
  rw [this, if_neg (by omega)]

theorem real_makeSlice (hr : HRel P g h w) {b : Nat} {t : TypeId} {l c : BV} {l' c' : Value} {v : BV} {h1 h2 : BHeap}
    (hl : VRel P g w l l') (hc : VRel P g w c c') (e : makeSliceB P h1 t l c = some (v, h2)) (hb : h.get b = h2.get h1.next) (hbn : b = h1.next) (hm : g.m b = none) :
    Real P g h w b v ((Instr.makeSlice t l' c').run P w) := by
  unfold makeSliceB at e
  split at e
  · rename_i el kl li kc ci hu
    simp only [VRel] at hl hc
    subst hl hc
    split at e
    · rename_i i z hi hz
      split at e
      · rename_i hcond
        obtain ⟨c1, c2, c3, c4, c5, c6, c7⟩ := hcond
        simp only [Option.some.injEq, Prod.mk.injEq] at e
        obtain ⟨rfl, rfl⟩ := e
        rw [BHeap.get_new, if_pos rfl] at hb
        obtain ⟨z', hz', hzr⟩ := r_zero hz w
        have hzc := (hzr g).cells c7
        have hzl := hzc.length
        simp at hzl
        have hsz : szOf P el = some i.size := szOf_info hi
        have hw1 := wrap_small (c := li) c1 (by omega)
        have hw2 := wrap_small (c := ci) (by omega) c3
        have hrun : (Instr.makeSlice t (.int kl li) (.int kc ci)).run P w = .ok (.slice (some ⟨w.heap.size, 0, none⟩) li.toNat ci.toNat)
            { w with heap := w.heap.push (.cells ((Array.range (ci.toNat * i.size)).map (fun j => z'.cells[j % z'.cells.size]!)) el) } := by
          simp only [Instr.makeSlice, Sem.run_bind, r_underlying hu, Result.andThen_ok, asInt, asIntOf, Sem.run_pure, r_info hi, hw1, hw2]
          have hd : (decide (ci < 0) || decide ((i.bytes : Int) * ci > 2 ^ 48)) = false := by
            simp only [Bool.or_eq_false_iff, decide_eq_false_iff_not]; omega
          rw [if_neg (by simp only [hd, Bool.false_or, Bool.or_eq_true, decide_eq_true_eq]; omega)]
          simp only [Sem.run_bind, run_askRoom, Result.andThen_ok, r_sizeOf hsz]
          by_cases h0 : ci.toNat * i.size = 0
          · rw [if_pos h0, h0]
            have e0 : Array.range 0 = #[] := rfl
            simp [newRow, e0]
          · rw [if_neg h0]
            simp [newRow, hz']
        refine ⟨_, _, hrun, ?_⟩
        have h1' := real_row hr (vs := ((Array.range (ci.toNat * i.size)).map (fun j => z'.cells[j % z'.cells.size]!)).toList) (lo := 0) (hi := 0)
          (w' := { w with heap := w.heap.push (.cells ((Array.range (ci.toNat * i.size)).map (fun j => z'.cells[j % z'.cells.size]!)) el) }) hb hm
          (by have := hzc.repl (by omega) ci.toNat
              rw [c6] at this; exact this) (fun i x hi => by rw [Array.getElem?_toList] at hi; exact hi) rfl ⟨rfl, rfl, rfl⟩ (by omega) (fun _ => ⟨rfl, rfl⟩)
        refine ⟨h1'.1, h1'.2, ?_⟩
        simp only [VRel]
        refine ⟨_, _, _, by rw [← hbn]; exact Gh.upd_same _ _ _ _, rfl, rfl, fun e => by cases e⟩
      · cases e
    · cases e
  · cases e

theorem freeze_push (w : World) (c : Array Value) (e : TypeId) (k : Nat) :
    (World.freeze { w with heap := w.heap.push (.cells c e (0, 0)) } ⟨w.heap.size, k, none⟩ 1) = { w with heap := w.heap.push (.cells c e (k, k + 1)) } := by
  simp only [World.freeze]
  rw [if_neg (by omega)]
  congr 1
  apply Array.ext_getElem?
  intro i
  rw [Array.getElem?_modify]
  by_cases ei : w.heap.size = i
  · subst ei; simp
  · rw [if_neg ei, Array.getElem?_push, Array.getElem?_push, if_neg (fun e => ei e.symm), if_neg (fun e => ei e.symm)]

theorem real_bytes (hr : HRel P g h w) {b : Nat} {el : TypeId} {s : List UInt8} (hu : P.cellsOf el = 1)
    (hb : h.get b = some (.cells (s.map fun c => BV.int .u8 c.toNat) el true)) (hm : g.m b = none) :
    Real P g h w b (.slice b 0 s.length none) ((Conv.stringToBytes el ⟨s.toArray⟩).run P w) := by
  let q : Question := .appendCap s.length 0 el
  let cap := q.cut (w.tape w.drawn q)
  have hcap : s.length ≤ cap := by
    show s.length ≤ Question.cut (.appendCap s.length 0 el) _
    simp only [Question.cut]; omega
  let c : Array Value := (s.map fun x => Value.int .u8 x.toNat).toArray ++ Array.replicate (cap - s.length) (.int .u8 0)
  have hcs : c.size = cap := by simp [c]; omega
  have hrun : (Conv.stringToBytes el ⟨s.toArray⟩).run P w = .ok (.slice (some ⟨w.heap.size, 0, none⟩) s.length cap) { w with heap := w.heap.push (.cells c el (cap, cap + 1)), drawn := w.drawn + 1 } := by
    simp only [Conv.stringToBytes, Sem.run_bind, run_choose, Question.forced, Bool.false_eq_true, if_false, Result.andThen_ok]
    have e1 : (ByteArray.mk s.toArray).size = s.length := by simp [ByteArray.size]
    simp only [e1, newRow, Sem.run_bind, run_newObj, Result.andThen_ok, Sem.run_pure, markStringish, run_shape]
    have e2 : (Array.map (fun (b : UInt8) => Value.int IntKind.u8 b.toNat) s.toArray ++ Array.replicate (Question.cut (.appendCap s.length 0 el) (w.tape w.drawn (.appendCap s.length 0 el)) - s.length) (Value.int .u8 0)) = c := by
      simp [c, cap, q]
    rw [e2]
    have e3 : World.shape? { w with drawn := w.drawn + 1, heap := w.heap.push (.cells c el) } w.heap.size = some (el, cap) := by
      simp [World.shape?, hcs]
    simp only [e3, run_freeze, Result.andThen_ok]
    have := freeze_push { w with drawn := w.drawn + 1 } c el cap
    simp only at this
    rw [this]
  refine ⟨_, _, hrun, ?_⟩
  have h1' := real_row hr (vs := s.map fun x => Value.int .u8 x.toNat) (c := c) (lo := cap) (hi := cap + 1)
    (w' := { w with heap := w.heap.push (.cells c el (cap, cap + 1)), drawn := w.drawn + 1 }) hb hm
    (VRels.map fun a _ => by simp [VRel]) (fun i x hi => by
      have hlt := (List.getElem?_eq_some_iff.1 hi).1
      simp only [List.length_map] at hlt
      simp only [c]
      rw [Array.getElem?_append_left (by simpa using hlt)]
      simpa using hi) rfl ⟨rfl, rfl, rfl⟩ (by rw [hcs]; omega) (fun e => by cases e)
  refine ⟨h1'.1, h1'.2, ?_⟩
  simp only [VRel]
  refine ⟨_, _, _, Gh.upd_same _ _ _ _, rfl, hcap, fun _ => ⟨el, cap, ?_, ?_⟩⟩
  · simp [World.shape?, hcs]
  · rw [hu]; omega

/-! addresses -/
theorem sim_fieldAddr {t : TypeId} {x v : BV} {x' : Value} {i : Nat} (hx : VRel P g w x x') (e : fieldAddrB P t x i = some v) :
    ∃ v', (Instr.fieldAt t x' i).run P w = .ok v' w ∧ VRel P g w v v' := by
  unfold fieldAddrB at e
  split at e
  · rename_i fs hu
    cases hf : fs[i]? with
    | none => simp [hf] at e
    | some f =>
      simp only [hf] at e
      split at e
      · rename_i n hs
        have hrun : ∀ a : Addr, (Instr.fieldAt t (.pointer (some a)) i).run P w = .ok (.pointer (some (a.add f.offset))) w := fun a => by
          simp only [Instr.fieldAt, Sem.run_bind, r_underlying hu, Result.andThen_ok, hf, Instr.sureAddr, Sem.run_pure, fieldPlace, r_sizeOf hs]
          rw [if_neg (by omega)]
          simp
        cases x with
        | ptr b off =>
          simp only [Option.some.injEq] at e; subst e
          simp only [VRel] at hx
          obtain ⟨blk, base, hm, rfl⟩ := hx
          refine ⟨_, hrun _, ?_⟩
          simp only [VRel, addr_add]
          exact ⟨blk, base, hm, by rw [Nat.add_assoc]⟩
        | rptr cs =>
          simp only [Option.some.injEq] at e; subst e
          simp only [VRel] at hx
          obtain ⟨blk, off, rfl, hf', vs, hv, hc⟩ := hx
          refine ⟨_, hrun _, ?_⟩
          simp only [VRel, addr_add]
          exact ⟨blk, _, rfl, hf', vs.drop f.offset, hv.drop _, hc.drop⟩
        | _ => simp at e
      · cases e
  · cases e

theorem asIntOf_run {k : IntKind} {n : Int} : (asIntOf (.int k n)).run P w = .ok (k, n) w := rfl

theorem sim_indexAddr {t : TypeId} {x ix v : BV} {x' ix' : Value} (hx : VRel P g w x x') (hi : VRel P g w ix ix') (e : indexAddrB P t x ix = some v) :
    ∃ v', (Instr.indexAt t x' ix').run P w = .ok v' w ∧ VRel P g w v v' := by
  unfold indexAddrB at e
  cases ix with
  | int k i =>
    simp only [VRel] at hi; subst hi
    dsimp only at e
    split at e
    · cases e
    · rename_i hneg
      split at e
      · rename_i len el hu
        cases hs : szOf P el with
        | none => simp [hs] at e
        | some size =>
          simp only [hs] at e
          split at e
          · rename_i hlt
            have hrun : ∀ a : Addr, (Instr.indexAt t (.pointer (some a)) (.int k i)).run P w = .ok (.pointer (some (a.add (i.toNat * size)))) w := fun a => by
              simp only [Instr.indexAt, Sem.run_bind, asIntOf_run, Result.andThen_ok, r_underlying hu, Instr.sureAddr, Sem.run_pure]
              rw [if_pos ⟨by omega, by omega⟩]
              simp [r_sizeOf hs]
            cases x with
            | ptr b off =>
              simp only [Option.some.injEq] at e; subst e
              simp only [VRel] at hx
              obtain ⟨blk, base, hm, rfl⟩ := hx
              refine ⟨_, hrun _, ?_⟩
              simp only [VRel, addr_add]
              exact ⟨blk, base, hm, by rw [Nat.add_assoc]⟩
            | rptr cs =>
              simp only [Option.some.injEq] at e; subst e
              simp only [VRel] at hx
              obtain ⟨blk, off, rfl, hf', vs, hv, hc⟩ := hx
              refine ⟨_, hrun _, ?_⟩
              simp only [VRel, addr_add]
              exact ⟨blk, _, rfl, hf', vs.drop _, hv.drop _, hc.drop⟩
            | _ => simp at e
          · cases e
      · rename_i el hu
        cases hs : szOf P el with
        | none => simp [hs] at e
        | some size =>
          simp only [hs] at e
          have hrun : ∀ (a : Addr) (len c : Nat), i.toNat < len → (Instr.indexAt t (.slice (some a) len c) (.int k i)).run P w = .ok (.pointer (some (a.add (i.toNat * size)))) w := fun a len c hlt => by
            simp only [Instr.indexAt, Sem.run_bind, asIntOf_run, Result.andThen_ok, r_underlying hu, Sem.run_pure]
            rw [if_pos ⟨by omega, by omega⟩]
            simp [r_sizeOf hs]
          cases x with
          | slice b off len cap =>
            dsimp only at e
            split at e
            · rename_i hlt
              simp only [Option.some.injEq] at e; subst e
              simp only [VRel] at hx
              obtain ⟨blk, base, c, hm, rfl, _⟩ := hx
              refine ⟨_, hrun _ _ _ hlt, ?_⟩
              simp only [VRel, addr_add]
              exact ⟨blk, base, hm, by rw [Nat.add_assoc]⟩
            · cases e
          | rslice cs len cap =>
            dsimp only at e
            split at e
            · rename_i hlt
              simp only [Option.some.injEq] at e; subst e
              simp only [VRel] at hx
              obtain ⟨blk, off, c, rfl, hf', _, vs, hv, hc⟩ := hx
              refine ⟨_, hrun _ _ _ hlt, ?_⟩
              simp only [VRel, addr_add]
              exact ⟨blk, _, rfl, hf', vs.drop _, hv.drop _, hc.drop⟩
            · cases e
          | _ => simp at e
      · cases e
  | _ => simp at e

theorem sim_index {t : TypeId} {x ix v : BV} {x' ix' : Value} (hx : VRel P g w x x') (hi : VRel P g w ix ix') (e : indexB P t x ix = some v) :
    ∃ v', (Instr.index t x' ix').run P w = .ok v' w ∧ VRel P g w v v' := by
  unfold indexB at e
  cases ix with
  | int k i =>
    simp only [VRel] at hi; subst hi
    dsimp only at e
    split at e
    · cases e
    · rename_i hneg
      split at e
      · rename_i len el cs hu
        cases hs : szOf P el with
        | none => simp [hs] at e
        | some size =>
          simp only [hs] at e
          split at e
          · rename_i hlt
            simp only [VRel] at hx
            obtain ⟨vs, rfl, hv⟩ := hx
            obtain ⟨v', h1, h2⟩ := sim_part hv e
            refine ⟨v', ?_, h2⟩
            simp only [Instr.index, Sem.run_bind, asIntOf_run, Result.andThen_ok, r_underlying hu]
            rw [if_pos ⟨by omega, by omega⟩]
            simp [r_sizeOf hs, h1]
          · cases e
      · rename_i s hu
        simp only [VRel] at hx; subst hx
        cases hsi : s[i.toNat]? with
        | none => simp [hsi] at e
        | some c =>
          simp [hsi] at e; subst e
          refine ⟨.int .u8 c.toNat, ?_, by simp [VRel]⟩
          simp only [Instr.index, Sem.run_bind, asIntOf_run, Result.andThen_ok, r_underlying hu]
          rw [if_pos (by omega)]
          obtain ⟨hlt, hcc⟩ := List.getElem?_eq_some_iff.1 hsi
          have : (ByteArray.mk s.toArray)[i.toNat]? = some c := by
            rw [getElem?_pos (ByteArray.mk s.toArray) i.toNat (by simpa [ByteArray.size] using hlt)]
            congr 1
          simp [this]
      · cases e
  | _ => simp at e

theorem sim_field {t : TypeId} {x v : BV} {x' : Value} {i : Nat} (hx : VRel P g w x x') (e : fieldB P t x i = some v) :
    ∃ v', (Instr.field t x' i).run P w = .ok v' w ∧ VRel P g w v v' := by
  unfold fieldB at e
  split at e
  · rename_i fs cs hu
    cases hf : fs[i]? with
    | none => simp [hf] at e
    | some f =>
      simp only [hf] at e
      simp only [VRel] at hx
      obtain ⟨vs, rfl, hv⟩ := hx
      obtain ⟨v', h1, h2⟩ := sim_part hv e
      refine ⟨v', ?_, h2⟩
      simp [Instr.field, r_underlying hu, hf, asAgg, h1]
  · cases e
end
end Go.PB
