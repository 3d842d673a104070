/- twin.Alike at one Play twice and many zero turns. -/
import Derived.Test.YtabfeencbambmaaGreatDoorW
set_option linter.unusedSimpArgs false
set_option linter.unusedVariables false
namespace Go.Proofs.YtabfeencbambmaaGreatDoor.twinNil
open Go Go.ChangeShapes Go.WideShapes Go.ChangeAt Go.RowKit Go.Op

theorem own_keep {w w' : World} {b e s n : Nat} {v : Value} {xs : List Value} (hk : Go.PB.Kept w w') (h : w.ownsRow b e s v n xs) : w'.ownsRow b e s v n xs := by
  obtain ⟨h1, h2⟩ := h
  refine ⟨h1, ?_⟩
  rcases h2 with h2 | ⟨g, cap, cur, e1, e2, e3, e4⟩
  · exact .inl h2
  · exact .inr ⟨g, cap, cur, e1, e2, (hk.heap g (Array.getElem?_eq_some_iff.1 e3).1).trans e3, e4⟩
theorem info24 : (Tryz.prog.info? 24).map (fun i => (i.zero, i.size, i.bytes)) = some (some (.agg #[.int .i64 0, .int .i64 0]), 2, 16) := by kernel_rfl
theorem kept_grown {w w1 w2 : World} {v : Value} {n : Nat} {xs : List Value} (hk : Go.PB.Kept w w1) (ho : w1.ownsRow w.heap.size 24 2 v n xs) (hg : w1.grownBy w2 v.ownBlock) : Go.PB.Kept w w2 := by
  refine ⟨Nat.le_trans hk.size hg.size, fun c hc => ?_, hg.os.trans hk.os, hg.output.trans hk.output, hg.tape.trans hk.tape⟩
  rw [← hk.heap c hc]
  refine hg.block c (Nat.lt_of_lt_of_le hc hk.size) ?_
  rcases ho.2 with ⟨rfl, _⟩ | ⟨g, cap, cur, rfl, hb, _⟩
  · intro e; cases e
  · intro e
    simp only [Value.ownBlock, Option.some.injEq] at e
    omega

set_option maxHeartbeats 2000000 in
set_option maxRecDepth 100000 in
theorem alike_long {S1 S2 : World → Prop} {w : World} {bp op bl ol bs os n cs : Nat} (hn : n ≤ 1099511627776) (hbig : 65536 < n)
    (hW1 : Calls Tryz.prog 18 #[.pointer (some ⟨bp, op, none⟩)] w fun e w1 => (∃ a, e = .returned (.pointer (some a))) ∧ S1 w1)
    (hW2 : ∀ w1, S1 w1 → Calls Tryz.prog 18 #[.pointer (some ⟨bp, op, none⟩)] w1 fun e w2 => (∃ a, e = .returned (.pointer (some a))) ∧ S2 w2)
    (hG : ∀ w2, S2 w2 → (∃ c a, OnePlay w2 bp op bl ol c a) ∧ bs < w2.heap.size ∧ ∀ i, i < n → w2.cell? ⟨bs, os + i * 2, none⟩ = some (.int .i64 0) ∧ w2.cell? ⟨bs, os + i * 2 + 1, none⟩ = some (.int .i64 0)) :
    Calls Tryz.prog 9 #[.pointer (some ⟨bp, op, none⟩), .pointer (some ⟨bp, op, none⟩), .slice (some ⟨bs, os, none⟩) n cs] w fun e w' => e = .returned (.tuple #[.int .i64 0, .int .i64 0, .bool false, .int .i64 4]) ∧ ∃ w2, S2 w2 ∧ Go.PB.Kept w2 w' := by
  go_enter Tryz.func9, Tryz.ntmps9
  go_wp2_with (first
    | (go_at_call 18; refine (hW2 _ hs1).mono ?_; rintro e w2 ⟨⟨a2, rfl⟩, hs2⟩; obtain ⟨⟨c, a, h⟩, hbs, hz⟩ := hG _ hs2)
    | (go_at_call 29; refine (subjects_any (h.keep hk3)).mono ?_; rintro e w4 ⟨⟨x4, k4, rfl, _, _⟩, hk4⟩)
    | (go_at_call 29; refine (subjects_any h).mono ?_; rintro e w3 ⟨⟨x3, k3, rfl, _, _⟩, hk3⟩)
    | (go_at_call 18; refine hW1.mono ?_; rintro e w1 ⟨⟨a1, rfl⟩, hs1⟩))
  have hk24 : Go.PB.Kept w2 w4 := hk3.trans' hk4
  obtain ⟨i0, hi0, hz0, hz1, hz2⟩ := info_parts info24
  go_loopw [10, 30] (fun v10 v30 wr => ∃ i : Nat, v30 = .int .i64 i ∧ i ≤ n ∧ Go.PB.Kept w4 wr ∧ wr.ownsRow w4.heap.size 24 2 v10 i (List.replicate (2 * i) (.int .i64 0))) (fun _ v30 _ => n - (intOf v30).toNat)
  case atStart => exact ⟨0, rfl, Nat.zero_le _, Go.PB.Kept.refl _, World.ownsRow_nil _ _ _ _⟩
  case round =>
    obtain ⟨i, rfl, hi, hkr, hown⟩ := hrel
    by_cases hlt : i < n
    · have z0 : wr.cell? ⟨bs, os + i * 2, none⟩ = some (.int .i64 0) := (kept_cell (hk24.trans' hkr) hbs _).trans (hz i hlt).1
      have z1 : wr.cell? ⟨bs, os + i * 2 + 1, none⟩ = some (.int .i64 0) := (kept_cell (hk24.trans' hkr) hbs _).trans (hz i hlt).2
      clear hz
      go_wp2_with (first | (go_at_call 28; refine (may_true ((h.keep (hk24.trans' hkr)).keep (Go.PB.kept_alloc _ _))).mono ?_; rintro e w5 ⟨rfl, hk5⟩; have t0 : w5.cell? ⟨wr.heap.size, 0, none⟩ = some (.int .i64 0) := (kept_cell hk5 (by simp) 0).trans (by simp); have t1 : w5.cell? ⟨wr.heap.size, 1, none⟩ = some (.int .i64 0) := (kept_cell hk5 (by simp) 1).trans (by simp); have hown5 := own_keep ((Go.PB.kept_alloc _ _).trans' hk5) hown; have hk45 := hkr.trans' ((Go.PB.kept_alloc _ _).trans' hk5)) | (at_builtin; refine wpList_append_own _ rfl _ _ 39 rfl w4.heap.size 24 i0 (.agg #[.int .i64 0, .int .i64 0]) 2 16 Tryz.underlying39 hi0 hz0 hz1 hz2 rfl (by decide) _ _ _ rfl (hown5.alloc _) ⟨w5.heap.size, 0, none⟩ 1 1 [.int .i64 0, .int .i64 0] rfl rfl ?c1 ?c2 ?c3 ?c4 ?c5 ?_) | go_in)
      case c1 =>
        intro j u hj
        match j, hj with
        | 0, hj => simp at hj; subst hj; simp [Addr.add]
        | 1, hj => simp at hj; subst hj; simp [Addr.add]
      case c2 => intro u hu; simp at hu; subst hu; rfl
      case c3 => unfold maxLen; omega
      case c4 => omega
      case c5 => have := hk45.size; simp; omega
      · intro v' w6 hown6 hgrow _
        have hrep : List.replicate (2 * (i + 1)) (Value.int .i64 0) = List.replicate (2 * i) (.int .i64 0) ++ [.int .i64 0, .int .i64 0] := by
          rw [show 2 * (i + 1) = 2 * i + 1 + 1 by omega, List.replicate_succ', List.replicate_succ', List.append_assoc]; rfl
        have hk46 := kept_grown (kept_al hk45 _) (hown5.alloc _) hgrow
        rw [← hrep] at hown6
        clear hrep hgrow hown5 hown
        go_wp2
        go_roundw
        case rel => exact ⟨i + 1, by go_num, by omega, hk46, hown6⟩
        case measure => simp [intOf]; omega
    · go_wp2
      (try simp only [Exit.inBlock, Exit.then])
      refine bodyPost_ret (v := .tuple #[.int .i64 0, .int .i64 0, .bool false, .int .i64 4]) ?_ rfl ⟨rfl, w2, hs2, hk24.trans' hkr⟩
      have hr : Tryz.f9.results = #[.tmp 6, .tmp 7, .tmp 8, .tmp 9] := by kernel_rfl
      simp [results, hr]
end Go.Proofs.YtabfeencbambmaaGreatDoor.twinNil

