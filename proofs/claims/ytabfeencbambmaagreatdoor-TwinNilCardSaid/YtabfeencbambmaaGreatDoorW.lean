/- What twin.may, pick.subjects and the searches over many zero turns answer; they keep all memory. -/
import Derived.Test.YtabfeencbambmaaGreatDoorProg
import Derived.Test.YtabfeencbambmaaGreatDoorPosS
import Derived.WalkKit
import Derived.ProofKit
import Derived.OpenShut
import Derived.Handy
import Derived.Deep.RegionWith
set_option linter.unusedSimpArgs false
set_option linter.unusedVariables false
namespace Go.Proofs.YtabfeencbambmaaGreatDoor.twinNil
open Go Go.ChangeShapes Go.WideShapes Go.ChangeAt Go.RowKit Go.Op
theorem kept_cell {w0 w : World} (hk : Go.PB.Kept w0 w) {b : Nat} (hb : b < w0.heap.size) (o : Nat) : w.cell? ⟨b, o, none⟩ = w0.cell? ⟨b, o, none⟩ := by
  simp [World.cell?, hk.heap b hb]
theorem kept_frozen {w0 w : World} (hk : Go.PB.Kept w0 w) {b : Nat} (hb : b < w0.heap.size) (o : Nat) : w.frozen? ⟨b, o, none⟩ = w0.frozen? ⟨b, o, none⟩ := by
  simp [World.frozen?, hk.heap b hb]
theorem set_size (w : World) (a : Addr) (v : Value) : (w.setCell a v).heap.size = w.heap.size := by simp
theorem set_other {w : World} {b i j : Nat} {v u : Value} (hij : i ≠ j) (h : w.cell? ⟨b, j, none⟩ = some u) : (w.setCell ⟨b, i, none⟩ v).cell? ⟨b, j, none⟩ = some u := by
  rw [World.cell?_setCell_other _ _ _ _ (by intro e; cases e; exact hij rfl)]; exact h
theorem set_same {w : World} {b i : Nat} {v u : Value} (h : w.cell? ⟨b, i, none⟩ = some u) : (w.setCell ⟨b, i, none⟩ v).cell? ⟨b, i, none⟩ = some v := World.cell?_setCell_same _ _ _ h
theorem set_frozen (w : World) (a b : Addr) (v : Value) : (w.setCell a v).frozen? b = w.frozen? b := by simp
theorem kept_set {w w1 : World} (hk : Go.PB.Kept w w1) {b : Nat} (hb : w.heap.size ≤ b) (i : Nat) (v : Value) : Go.PB.Kept w (w1.setCell ⟨b, i, none⟩ v) :=
  ⟨by rw [set_size]; exact hk.size, fun c hc => by
    rw [← hk.heap c hc]
    simp only [World.setCell, Array.getElem?_modify]
    rw [if_neg (by omega)], hk.os, hk.output, hk.tape⟩
theorem kept_al {w w1 : World} (hk : Go.PB.Kept w w1) (o : Obj) : Go.PB.Kept w (w1.alloc o) := hk.trans' (Go.PB.kept_alloc _ _)
theorem kept_drew {w w1 : World} (hk : Go.PB.Kept w w1) : Go.PB.Kept w w1.drew := ⟨hk.size, hk.heap, hk.os, hk.output, hk.tape⟩
theorem mixedP : Tryz.prog.follows .mixedOrders = true := by kernel_rfl
theorem own_nil (w : World) : Calls Tryz.prog 50 #[.slice none 0 0] w fun e w' => e = .returned (.tuple #[.slice none 0 0, .int .i64 0]) ∧ Go.PB.Kept w w' := by
  have e : (Go.PB.callB Tryz.prog 400 50 [.nils] Go.PB.h0).map (·.1) = some (.tuple [.nils, .int .i64 0]) := by kernel_rfl
  obtain ⟨⟨v, h'⟩, e1, e2⟩ := Option.map_eq_some_iff.1 e
  subst e2
  refine (Go.PB.closed_callA mixedP e1 w _ (by simp [Go.PB.VRels, Go.PB.VRel])).mono ?_
  rintro ed w' ⟨v', g', rfl, hk, hv⟩
  simp only [Go.PB.VRel, Go.PB.VRels] at hv
  obtain ⟨vs, rfl, a, ar, h1, rfl, b, br, rfl, rfl, rfl⟩ := hv
  refine ⟨?_, hk⟩
  have : vs = #[.slice none 0 0, .int .i64 0] := by apply Array.ext'; simpa using h1
  rw [this]
theorem names_nil (w : World) : Calls Tryz.prog 51 #[.slice none 0 0] w fun e w' => e = .returned (.slice none 0 0) ∧ Go.PB.Kept w w' := by
  have e : (Go.PB.callB Tryz.prog 400 51 [.nils] Go.PB.h0).map (·.1) = some .nils := by kernel_rfl
  obtain ⟨⟨v, h'⟩, e1, e2⟩ := Option.map_eq_some_iff.1 e
  subst e2
  refine (Go.PB.closed_callA mixedP e1 w _ (by simp [Go.PB.VRels, Go.PB.VRel])).mono ?_
  rintro ed w' ⟨v', g', rfl, hk, hv⟩
  simp only [Go.PB.VRel] at hv
  subst hv
  exact ⟨rfl, hk⟩
theorem clone_nil (w : World) : Calls Tryz.prog 52 #[.slice none 0 0] w fun e w' => e = .returned (.slice none 0 0) ∧ Go.PB.Kept w w' := by
  have e : (Go.PB.callB Tryz.prog 400 52 [.nils] Go.PB.h0).map (·.1) = some .nils := by kernel_rfl
  obtain ⟨⟨v, h'⟩, e1, e2⟩ := Option.map_eq_some_iff.1 e
  subst e2
  refine (Go.PB.closed_callA mixedP e1 w _ (by simp [Go.PB.VRels, Go.PB.VRel])).mono ?_
  rintro ed w' ⟨v', g', rfl, hk, hv⟩
  simp only [Go.PB.VRel] at hv
  subst hv
  exact ⟨rfl, hk⟩

set_option maxHeartbeats 2000000 in
set_option maxRecDepth 100000 in
theorem subjects_one {w : World} {bl ol c : Nat} (hbl : bl < w.heap.size) (h0 : w.cell? ⟨bl, ol, none⟩ = some (.int .i64 0)) (h1 : w.cell? ⟨bl, ol + 1, none⟩ = some (.slice none 0 0)) (h2 : w.cell? ⟨bl, ol + 2, none⟩ = some (.slice none 0 0)) (h3 : w.cell? ⟨bl, ol + 3, none⟩ = some (.slice none 0 0)) :
    Calls Tryz.prog 17 #[.slice (some ⟨bl, ol, none⟩) 1 c] w fun e w' => (∃ b k, e = .returned (.slice (some ⟨b, 0, none⟩) 1 k) ∧ b < w'.heap.size ∧ w'.cell? ⟨b, 0, none⟩ = some (.int .i64 0)) ∧ Go.PB.Kept w w' := by
  go_enter Tryz.func17, Tryz.ntmps17
  go_wp2
  refine wp_loop_rounds 2 ?_
  rw [rounds_succ]
  go_wp2_with (first | (go_at_call 50; refine (own_nil _).mono ?_; rintro e w1 ⟨rfl, hk1⟩; have s1 : w.heap.size < w1.heap.size := Nat.lt_of_lt_of_le (by simp) hk1.size; have w1c0 : w1.cell? ⟨w.heap.size, 0, none⟩ = some (.int .i64 0) := (kept_cell hk1 (by simp) 0).trans (by simp); have w1c1 : w1.cell? ⟨w.heap.size, 1, none⟩ = some (.slice none 0 0) := (kept_cell hk1 (by simp) 1).trans (by simp); have w1c2 : w1.cell? ⟨w.heap.size, 2, none⟩ = some (.slice none 0 0) := (kept_cell hk1 (by simp) 2).trans (by simp); have w1c3 : w1.cell? ⟨w.heap.size, 3, none⟩ = some (.slice none 0 0) := (kept_cell hk1 (by simp) 3).trans (by simp); have w1f0 : w1.frozen? ⟨w.heap.size, 0, none⟩ = false := (kept_frozen hk1 (by simp) 0).trans (by simp); have w1f1 : w1.frozen? ⟨w.heap.size, 1, none⟩ = false := (kept_frozen hk1 (by simp) 1).trans (by simp); have w1f2 : w1.frozen? ⟨w.heap.size, 2, none⟩ = false := (kept_frozen hk1 (by simp) 2).trans (by simp); have w1f3 : w1.frozen? ⟨w.heap.size, 3, none⟩ = false := (kept_frozen hk1 (by simp) 3).trans (by simp)) | (go_at_call 51; refine (names_nil _).mono ?_; rintro e w2 ⟨rfl, hk2⟩; have t2 : w.heap.size < (w1.setCell ⟨w.heap.size, 1, none⟩ (.slice none 0 0)).heap.size := Nat.lt_of_lt_of_le s1 (Nat.le_of_eq (set_size _ _ _).symm); have s2 : w.heap.size < w2.heap.size := Nat.lt_of_lt_of_le t2 hk2.size; have w2c0 : w2.cell? ⟨w.heap.size, 0, none⟩ = some (.int .i64 0) := (kept_cell hk2 t2 0).trans (set_other (by omega) w1c0); have w2c1 : w2.cell? ⟨w.heap.size, 1, none⟩ = some (.slice none 0 0) := (kept_cell hk2 t2 1).trans (set_same w1c1); have w2c2 : w2.cell? ⟨w.heap.size, 2, none⟩ = some (.slice none 0 0) := (kept_cell hk2 t2 2).trans (set_other (by omega) w1c2); have w2c3 : w2.cell? ⟨w.heap.size, 3, none⟩ = some (.slice none 0 0) := (kept_cell hk2 t2 3).trans (set_other (by omega) w1c3); have w2f0 : w2.frozen? ⟨w.heap.size, 0, none⟩ = false := (kept_frozen hk2 t2 0).trans ((set_frozen _ _ _ _).trans w1f0); have w2f1 : w2.frozen? ⟨w.heap.size, 1, none⟩ = false := (kept_frozen hk2 t2 1).trans ((set_frozen _ _ _ _).trans w1f1); have w2f2 : w2.frozen? ⟨w.heap.size, 2, none⟩ = false := (kept_frozen hk2 t2 2).trans ((set_frozen _ _ _ _).trans w1f2); have w2f3 : w2.frozen? ⟨w.heap.size, 3, none⟩ = false := (kept_frozen hk2 t2 3).trans ((set_frozen _ _ _ _).trans w1f3)) | (go_at_call 52; refine (clone_nil _).mono ?_; rintro e w3 ⟨rfl, hk3⟩; have t3 : w.heap.size < (w2.setCell ⟨w.heap.size, 2, none⟩ (.slice none 0 0)).heap.size := Nat.lt_of_lt_of_le s2 (Nat.le_of_eq (set_size _ _ _).symm); have s3 : w.heap.size < w3.heap.size := Nat.lt_of_lt_of_le t3 hk3.size; have w3c0 : w3.cell? ⟨w.heap.size, 0, none⟩ = some (.int .i64 0) := (kept_cell hk3 t3 0).trans (set_other (by omega) w2c0); have w3c1 : w3.cell? ⟨w.heap.size, 1, none⟩ = some (.slice none 0 0) := (kept_cell hk3 t3 1).trans (set_other (by omega) w2c1); have w3c2 : w3.cell? ⟨w.heap.size, 2, none⟩ = some (.slice none 0 0) := (kept_cell hk3 t3 2).trans (set_same w2c2); have w3c3 : w3.cell? ⟨w.heap.size, 3, none⟩ = some (.slice none 0 0) := (kept_cell hk3 t3 3).trans (set_other (by omega) w2c3); have w3f0 : w3.frozen? ⟨w.heap.size, 0, none⟩ = false := (kept_frozen hk3 t3 0).trans ((set_frozen _ _ _ _).trans w2f0); have w3f1 : w3.frozen? ⟨w.heap.size, 1, none⟩ = false := (kept_frozen hk3 t3 1).trans ((set_frozen _ _ _ _).trans w2f1); have w3f2 : w3.frozen? ⟨w.heap.size, 2, none⟩ = false := (kept_frozen hk3 t3 2).trans ((set_frozen _ _ _ _).trans w2f2); have w3f3 : w3.frozen? ⟨w.heap.size, 3, none⟩ = false := (kept_frozen hk3 t3 3).trans ((set_frozen _ _ _ _).trans w2f3)))
  rw [rounds_succ]
  go_wp2
  go_ret
  have q1 : Go.PB.Kept w w1 := (Go.PB.kept_alloc _ _).trans' hk1
  have q2 : Go.PB.Kept w w2 := (kept_set q1 (Nat.le_refl _) _ _).trans' hk2
  have q3 : Go.PB.Kept w w3 := (kept_set q2 (Nat.le_refl _) _ _).trans' hk3
  refine ⟨⟨_, _, rfl, by simp, by simp; rw [World.cell?_alloc_at _ _ _ _ (by simp)]; simp [Array.getElem?_append]⟩, ?_⟩
  repeat' (first | exact q3 | refine kept_al ?_ _ | refine kept_drew ?_ | refine kept_set ?_ (Nat.le_refl _) _ _)

/-- what is asked of the memory at a Play of one empty subject -/
structure OnePlay (w : World) (bp op bl ol c : Nat) (a : Addr) : Prop where
  hbp : bp < w.heap.size
  hbl : bl < w.heap.size
  now : w.cell? ⟨bp, op + 1, none⟩ = some (.pointer (some a))
  last : w.cell? ⟨bp, op + 3, none⟩ = some (.slice (some ⟨bl, ol, none⟩) 1 c)
  h0 : w.cell? ⟨bl, ol, none⟩ = some (.int .i64 0)
  h1 : w.cell? ⟨bl, ol + 1, none⟩ = some (.slice none 0 0)
  h2 : w.cell? ⟨bl, ol + 2, none⟩ = some (.slice none 0 0)
  h3 : w.cell? ⟨bl, ol + 3, none⟩ = some (.slice none 0 0)
theorem OnePlay.keep {w w' : World} {bp op bl ol c : Nat} {a : Addr} (h : OnePlay w bp op bl ol c a) (hk : Go.PB.Kept w w') : OnePlay w' bp op bl ol c a :=
  ⟨Nat.lt_of_lt_of_le h.hbp hk.size, Nat.lt_of_lt_of_le h.hbl hk.size, (kept_cell hk h.hbp _).trans h.now, (kept_cell hk h.hbp _).trans h.last, (kept_cell hk h.hbl _).trans h.h0, (kept_cell hk h.hbl _).trans h.h1, (kept_cell hk h.hbl _).trans h.h2, (kept_cell hk h.hbl _).trans h.h3⟩

set_option maxHeartbeats 2000000 in
set_option maxRecDepth 100000 in
theorem subjects_any {w : World} {bp op bl ol c : Nat} {a : Addr} (h : OnePlay w bp op bl ol c a) :
    Calls Tryz.prog 29 #[.pointer (some ⟨bp, op, none⟩)] w fun e w' => (∃ b k, e = .returned (.slice (some ⟨b, 0, none⟩) 1 k) ∧ b < w'.heap.size ∧ w'.cell? ⟨b, 0, none⟩ = some (.int .i64 0)) ∧ Go.PB.Kept w w' := by
  have hn := h.now
  have hl := h.last
  have hbp := h.hbp
  go_enter Tryz.func29, Tryz.ntmps29
  go_wp2_with (first | (go_at_call 17; refine (subjects_one h.hbl h.h0 h.h1 h.h2 h.h3).mono ?_; rintro e w1 ⟨⟨x, k, rfl, hx1, hx2⟩, hk1⟩) | go_in)
  go_ret
  exact ⟨⟨_, _, rfl, by assumption, by assumption⟩, by assumption⟩

set_option maxHeartbeats 2000000 in
set_option maxRecDepth 100000 in
theorem may_true {w : World} {bp op bl ol c : Nat} {a : Addr} (h : OnePlay w bp op bl ol c a) :
    Calls Tryz.prog 28 #[.pointer (some ⟨bp, op, none⟩), .agg #[.int .i64 0, .int .i64 0]] w fun e w' => e = .returned (.bool true) ∧ Go.PB.Kept w w' := by
  have hn := h.now
  have hl := h.last
  have hbp := h.hbp
  go_enter Tryz.func28, Tryz.ntmps28
  go_wp2
  have h2 := h.keep (Go.PB.kept_alloc w (.cells #[.int .i64 0, .int .i64 0] 24))
  go_region_with (go_at_call 29; refine (subjects_any (bl := bl) (ol := ol) (c := c) (a := a) ?_).mono ?_; exact h.keep (kept_drew (Go.PB.kept_alloc _ _)); rintro e w1 ⟨⟨x, k, rfl, hx1, hx2⟩, hk1⟩; have f0 : w1.cell? ⟨w.heap.size, 0, none⟩ = some (.int .i64 0) := (kept_cell hk1 (by simp) 0).trans (by simp))
  all_goals go_wp2
  all_goals go_ret
  all_goals exact ⟨rfl, (kept_drew (Go.PB.kept_alloc _ _)).trans' (by assumption)⟩
end Go.Proofs.YtabfeencbambmaaGreatDoor.twinNil

namespace Go.Proofs.YtabfeencbambmaaGreatDoor.twinNil
open Go Go.ChangeShapes Go.WideShapes Go.ChangeAt Go.RowKit Go.Op

set_option maxHeartbeats 2000000 in
set_option maxRecDepth 100000 in
theorem not_may {w : World} {bp op bl ol c : Nat} {a : Addr} (h : OnePlay w bp op bl ol c a) {bc : Nat} (hbc : bc < w.heap.size) (hc : w.cell? ⟨bc, 0, none⟩ = some (.pointer (some ⟨bp, op, none⟩))) :
    Calls Tryz.prog 27 #[.agg #[.int .i64 0, .int .i64 0], .pointer (some ⟨bc, 0, none⟩)] w fun e w' => e = .returned (.bool false) ∧ Go.PB.Kept w w' := by
  go_enter Tryz.func27, Tryz.ntmps27
  go_wp2_with (go_at_call 28; refine (may_true (h.keep (Go.PB.kept_alloc _ _))).mono ?_; rintro e w1 ⟨rfl, hk1⟩)
  go_ret
  exact ⟨rfl, (Go.PB.kept_alloc _ _).trans' (by assumption)⟩

set_option maxHeartbeats 2000000 in
set_option maxRecDepth 100000 in
theorem index_none {w : World} {bp op bl ol c : Nat} {a : Addr} (h : OnePlay w bp op bl ol c a) {bc : Nat} (hbc : bc < w.heap.size) (hc : w.cell? ⟨bc, 0, none⟩ = some (.pointer (some ⟨bp, op, none⟩)))
    {bs os n cs : Nat} (hbs : bs < w.heap.size) (hn : n ≤ 1099511627776) (hz : ∀ i, i < n → w.cell? ⟨bs, os + i * 2, none⟩ = some (.int .i64 0) ∧ w.cell? ⟨bs, os + i * 2 + 1, none⟩ = some (.int .i64 0)) :
    Calls Tryz.prog 60 #[.slice (some ⟨bs, os, none⟩) n cs, .func (.func 27) #[] #[.pointer (some ⟨bc, 0, none⟩)]] w fun e w' => e = .returned (.int .i64 (-1)) ∧ Go.PB.Kept w w' := by
  go_enter Tryz.func60, Tryz.ntmps60
  go_wp2
  go_loopw [8] (fun v8 wr => ∃ i : Nat, v8 = .int .i64 i ∧ i ≤ n ∧ Go.PB.Kept w wr) (fun v8 _ => n - (intOf v8).toNat)
  case atStart => exact ⟨0, rfl, Nat.zero_le _, Go.PB.Kept.refl _⟩
  case round =>
    obtain ⟨i, rfl, hi, hkr⟩ := hrel
    by_cases hlt : i < n
    · have z0 : wr.cell? ⟨bs, os + i * 2, none⟩ = some (.int .i64 0) := (kept_cell hkr hbs _).trans (hz i hlt).1
      have z1 : wr.cell? ⟨bs, os + i * 2 + 1, none⟩ = some (.int .i64 0) := (kept_cell hkr hbs _).trans (hz i hlt).2
      clear hz
      go_wp2_with (go_at_call 27; refine (not_may (h.keep hkr) (Nat.lt_of_lt_of_le hbc hkr.size) ((kept_cell hkr hbc _).trans hc)).mono ?_; rintro e w1 ⟨rfl, hk1⟩)
      go_roundw
      case rel => exact ⟨i + 1, by go_num, by omega, hkr.trans' (by assumption)⟩
      case measure => simp [intOf]; omega
    · go_wp2
      go_ret
      exact ⟨rfl, hkr⟩

set_option maxHeartbeats 2000000 in
set_option maxRecDepth 100000 in
theorem contains_none {w : World} {bp op bl ol c : Nat} {a : Addr} (h : OnePlay w bp op bl ol c a) {bc : Nat} (hbc : bc < w.heap.size) (hc : w.cell? ⟨bc, 0, none⟩ = some (.pointer (some ⟨bp, op, none⟩)))
    {bs os n cs : Nat} (hbs : bs < w.heap.size) (hn : n ≤ 1099511627776) (hz : ∀ i, i < n → w.cell? ⟨bs, os + i * 2, none⟩ = some (.int .i64 0) ∧ w.cell? ⟨bs, os + i * 2 + 1, none⟩ = some (.int .i64 0)) :
    Calls Tryz.prog 26 #[.slice (some ⟨bs, os, none⟩) n cs, .func (.func 27) #[] #[.pointer (some ⟨bc, 0, none⟩)]] w fun e w' => e = .returned (.bool false) ∧ Go.PB.Kept w w' := by
  go_enter Tryz.func26, Tryz.ntmps26
  go_wp2_with (go_at_call 60; refine (index_none h hbc hc hbs hn hz).mono ?_; rintro e w1 ⟨rfl, hk1⟩)
  go_ret
  exact ⟨rfl, by assumption⟩
end Go.Proofs.YtabfeencbambmaaGreatDoor.twinNil

namespace Go.Proofs.YtabfeencbambmaaGreatDoor.twinNil
open Go Go.ChangeShapes Go.WideShapes Go.ChangeAt Go.RowKit Go.Op

set_option maxHeartbeats 2000000 in
set_option maxRecDepth 100000 in
theorem contains_first {w : World} {bh oh n ch : Nat} (h0 : w.cell? ⟨bh, oh, none⟩ = some (.int .i64 0)) :
    Calls Tryz.prog 25 #[.slice (some ⟨bh, oh, none⟩) (n + 1) ch, .int .i64 0] w fun e w' => e = .returned (.bool true) ∧ Go.PB.Kept w w' := by
  go_enter Tryz.func25, Tryz.ntmps25
  go_wp2
  refine wp_loop_rounds 1 ?_
  rw [rounds_succ]
  go_wp2
  go_ret
  exact ⟨rfl, Go.PB.Kept.refl _⟩
end Go.Proofs.YtabfeencbambmaaGreatDoor.twinNil

