/- twin.Turns and twin.Parted at too many zero turns. -/
import Derived.Test.YtabfeencbambmaaGreatDoorY
import Derived.Test.YtabfeencbambmaaGreatDoorW
set_option linter.unusedSimpArgs false
set_option linter.unusedVariables false
namespace Go.Proofs.YtabfeencbambmaaGreatDoor.twinNil
open Go Go.ChangeShapes Go.WideShapes Go.ChangeAt Go.RowKit Go.Op

/-- blocks from a number on are as they were -/
structure New (b : Nat) (w w' : World) : Prop where
  size : w.heap.size ≤ w'.heap.size
  same : ∀ c, b ≤ c → c < w.heap.size → w'.heap[c]? = w.heap[c]?
theorem New.cell {b : Nat} {w w' : World} (h : New b w w') {c : Nat} (hb : b ≤ c) (hc : c < w.heap.size) (o : Nat) : w'.cell? ⟨c, o, none⟩ = w.cell? ⟨c, o, none⟩ := by
  simp [World.cell?, h.same c hb hc]
/-- blocks between two numbers are as they were -/
structure NewTo (b k : Nat) (w w' : World) : Prop where
  size : w.heap.size ≤ w'.heap.size
  same : ∀ c, b ≤ c → c < k → w'.heap[c]? = w.heap[c]?
theorem NewTo.cell {b k : Nat} {w w' : World} (h : NewTo b k w w') {c : Nat} (hb : b ≤ c) (hc : c < k) (o : Nat) : w'.cell? ⟨c, o, none⟩ = w.cell? ⟨c, o, none⟩ := by
  simp [World.cell?, h.same c hb hc]

set_option maxHeartbeats 2000000 in
set_option maxRecDepth 100000 in
theorem turns_long {S1 : Nat → World → Addr → Prop} {S2 : World → Prop} {w : World} {bp op bl0 ol0 bs os n cs : Nat} (hn : n ≤ 1099511627776)
    (hW : ∀ w0, Go.PB.Kept w w0 → Calls Tryz.prog 18 #[.pointer (some ⟨bp, op, none⟩)] w0 fun e w1 => ∃ a, e = .returned (.pointer (some a)) ∧ S1 w0.heap.size w1 a ∧ New w.heap.size w0 w1)
    (hH : ∀ k w1 a, S1 k w1 a → Calls Tryz.prog 11 #[.pointer (some a), .int .i64 1, .int .i64 0] w1 fun e w2 => (∃ bh oh nh ch, e = .returned (.tuple #[.slice (some ⟨bh, oh, none⟩) (nh + 1) ch, .int .i64 0]) ∧ w2.cell? ⟨bh, oh, none⟩ = some (.int .i64 0) ∧ bh < w2.heap.size) ∧ S2 w2 ∧ NewTo w.heap.size k w1 w2)
    (hG : ∀ w2, S2 w2 → (∃ c a, OnePlay w2 bp op bl0 ol0 c a) ∧ bs < w2.heap.size ∧ ∀ i, i < n → w2.cell? ⟨bs, os + i * 2, none⟩ = some (.int .i64 0) ∧ w2.cell? ⟨bs, os + i * 2 + 1, none⟩ = some (.int .i64 0)) :
    Calls Tryz.prog 8 #[.pointer (some ⟨bp, op, none⟩), .int .i64 1, .int .i64 0, .slice (some ⟨bs, os, none⟩) n cs] w fun e w' => (∃ v, e = .returned (.tuple #[v, .int .i64 0])) ∧ ∃ w2, S2 w2 ∧ Go.PB.Kept w2 w' := by
  go_enter Tryz.func8, Tryz.ntmps8
  go_wp2_with (first
    | (go_at_call 18; refine (hW _ (Go.PB.kept_alloc _ _)).mono ?_; rintro e w1 ⟨a1, rfl, hs1, hn1⟩; have p1 : w1.cell? ⟨w.heap.size, 0, none⟩ = some (.pointer (some ⟨bp, op, none⟩)) := (hn1.cell (Nat.le_refl _) (by simp) 0).trans (by simp); have l1 : w.heap.size < w1.heap.size := Nat.lt_of_lt_of_le (by simp) hn1.size)
    | (go_at_call 11; refine (hH _ _ _ hs1).mono ?_; rintro e w2 ⟨⟨bh, oh, nh, ch, rfl, hh0, hbh⟩, hs2, hn2⟩; have p2 : w2.cell? ⟨w.heap.size, 0, none⟩ = some (.pointer (some ⟨bp, op, none⟩)) := (hn2.cell (Nat.le_refl _) (by simp) 0).trans p1; have l2 : w.heap.size < w2.heap.size := Nat.lt_of_lt_of_le l1 hn2.size; obtain ⟨⟨c, a, h⟩, hbs, hz⟩ := hG _ hs2)
    | (go_at_call 26; refine (contains_none h l2 p2 hbs hn hz).mono ?_; rintro e w3 ⟨rfl, hk3⟩; have p3 : w3.cell? ⟨w.heap.size, 0, none⟩ = some (.pointer (some ⟨bp, op, none⟩)) := (kept_cell hk3 l2 0).trans p2)
    | (go_at_call 29; refine (subjects_any (h.keep hk3)).mono ?_; rintro e w4 ⟨⟨bo, ko, rfl, ho1, ho2⟩, hk4⟩))
  have hk24 : Go.PB.Kept w2 w4 := hk3.trans' hk4
  obtain ⟨i0, hi0, hz0, hz1, hz2⟩ := info_parts info24
  go_loopw [13, 34] (fun v13 v34 wr => ∃ i : Nat, v34 = .int .i64 i ∧ i ≤ n ∧ Go.PB.Kept w4 wr ∧ wr.ownsRow w4.heap.size 24 2 v13 i (List.replicate (2 * i) (.int .i64 0))) (fun _ v34 _ => n - (intOf v34).toNat)
  case atStart => exact ⟨0, rfl, Nat.zero_le _, Go.PB.Kept.refl _, World.ownsRow_nil _ _ _ _⟩
  case round =>
    obtain ⟨i, rfl, hi, hkr, hown⟩ := hrel
    by_cases hlt : i < n
    · have z0 : wr.cell? ⟨bs, os + i * 2, none⟩ = some (.int .i64 0) := (kept_cell (hk24.trans' hkr) hbs _).trans (hz i hlt).1
      have z1 : wr.cell? ⟨bs, os + i * 2 + 1, none⟩ = some (.int .i64 0) := (kept_cell (hk24.trans' hkr) hbs _).trans (hz i hlt).2
      have o0 : wr.cell? ⟨bo, 0, none⟩ = some (.int .i64 0) := (kept_cell hkr ho1 _).trans ho2
      have ol : bo < wr.heap.size := Nat.lt_of_lt_of_le ho1 hkr.size
      have q0 : wr.cell? ⟨bh, oh, none⟩ = some (.int .i64 0) := (kept_cell (hk24.trans' hkr) hbh _).trans hh0
      have ql : bh < wr.heap.size := Nat.lt_of_lt_of_le hbh (hk24.trans' hkr).size
      clear hz
      go_wp2_with (first | (go_at_call 25; refine (contains_first (bh := bh) (oh := oh) (n := nh) (ch := ch) ?_).mono ?_; exact (kept_cell (Go.PB.kept_alloc _ _) ql _).trans q0; rintro e w5 ⟨rfl, hk5⟩; have t0 : w5.cell? ⟨wr.heap.size, 0, none⟩ = some (.int .i64 0) := (kept_cell hk5 (by simp) 0).trans (by simp); have t1 : w5.cell? ⟨wr.heap.size, 1, none⟩ = some (.int .i64 0) := (kept_cell hk5 (by simp) 1).trans (by simp); have hown5 := own_keep ((Go.PB.kept_alloc _ _).trans' hk5) hown; have hk45 := hkr.trans' ((Go.PB.kept_alloc _ _).trans' hk5)) | (at_builtin; refine wpList_append_own _ rfl _ _ 39 rfl w4.heap.size 24 i0 (.agg #[.int .i64 0, .int .i64 0]) 2 16 Tryz.underlying39 hi0 hz0 hz1 hz2 rfl (by decide) _ _ _ rfl (hown5.alloc _) ⟨w5.heap.size, 0, none⟩ 1 1 [.int .i64 0, .int .i64 0] rfl rfl ?c1 ?c2 ?c3 ?c4 ?c5 ?_) | go_in)
      case c1 =>
        intro j u hj
        match j, hj with
        | 0, hj => simp at hj; subst hj; simp [Addr.add]
        | 1, hj => simp at hj; subst hj; simp [Addr.add]
      case c2 => intro u hu; simp at hu; subst hu; rfl
      case c3 => unfold maxLen; omega
      case c4 => omega
      case c5 => have := hk45.size; simp; omega
      · intro v' w6 hown6 hgrow _
        have hrep : List.replicate (2 * (i + 1)) (Value.int .i64 0) = List.replicate (2 * i) (.int .i64 0) ++ [.int .i64 0, .int .i64 0] := by
          rw [show 2 * (i + 1) = 2 * i + 1 + 1 by omega, List.replicate_succ', List.replicate_succ', List.append_assoc]; rfl
        have hk46 := kept_grown (kept_al hk45 _) (hown5.alloc _) hgrow
        rw [← hrep] at hown6
        clear hrep hgrow hown5 hown
        go_wp2
        go_roundw
        case rel => exact ⟨i + 1, by go_num, by omega, hk46, hown6⟩
        case measure => simp [intOf]; omega
    · go_wp2
      go_ret2
      exact ⟨⟨_, rfl⟩, w2, hs2, hk24.trans' hkr⟩
end Go.Proofs.YtabfeencbambmaaGreatDoor.twinNil

namespace Go.Proofs.YtabfeencbambmaaGreatDoor.twinNil
open Go Go.ChangeShapes Go.WideShapes Go.ChangeAt Go.RowKit Go.Op

theorem NewTo.less {b b' k : Nat} {w w' : World} (h : NewTo b k w w') (hb : b ≤ b') : NewTo b' k w w' := ⟨h.size, fun c hc hl => h.same c (Nat.le_trans hb hc) hl⟩
theorem New.less {b b' : Nat} {w w' : World} (h : New b w w') (hb : b ≤ b') : New b' w w' := ⟨h.size, fun c hc hl => h.same c (Nat.le_trans hb hc) hl⟩

set_option maxHeartbeats 2000000 in
set_option maxRecDepth 100000 in
theorem parted_long {S1 : Nat → World → Addr → Prop} {S2 : World → Prop} {w : World} {bp op bl0 ol0 bs os n cs : Nat} (hn : n ≤ 1099511627776) (hbig : 65536 < n)
    (hW : ∀ w0, Go.PB.Kept w w0 → Calls Tryz.prog 18 #[.pointer (some ⟨bp, op, none⟩)] w0 fun e w1 => ∃ a, e = .returned (.pointer (some a)) ∧ S1 w0.heap.size w1 a ∧ New w.heap.size w0 w1)
    (hH : ∀ k w1 a, S1 k w1 a → Calls Tryz.prog 11 #[.pointer (some a), .int .i64 1, .int .i64 0] w1 fun e w2 => (∃ bh oh nh ch, e = .returned (.tuple #[.slice (some ⟨bh, oh, none⟩) (nh + 1) ch, .int .i64 0]) ∧ w2.cell? ⟨bh, oh, none⟩ = some (.int .i64 0) ∧ bh < w2.heap.size) ∧ S2 w2 ∧ NewTo w.heap.size k w1 w2)
    (hG : ∀ w2, S2 w2 → (∃ c a, OnePlay w2 bp op bl0 ol0 c a) ∧ bs < w2.heap.size ∧ ∀ i, i < n → w2.cell? ⟨bs, os + i * 2, none⟩ = some (.int .i64 0) ∧ w2.cell? ⟨bs, os + i * 2 + 1, none⟩ = some (.int .i64 0)) :
    Calls Tryz.prog 10 #[.pointer (some ⟨bp, op, none⟩), .int .i64 1, .int .i64 0, .slice (some ⟨bs, os, none⟩) n cs] w fun e w' => e = .returned (.tuple #[.int .i64 0, .int .i64 0, .bool false, .int .i64 4]) ∧ ∃ w2, S2 w2 ∧ Go.PB.Kept w2 w' := by
  have hT : ∀ w0, Go.PB.Kept w w0 → Calls Tryz.prog 8 #[.pointer (some ⟨bp, op, none⟩), .int .i64 1, .int .i64 0, .slice (some ⟨bs, os, none⟩) n cs] w0 fun e w' => (∃ v, e = .returned (.tuple #[v, .int .i64 0])) ∧ ∃ w2, S2 w2 ∧ Go.PB.Kept w2 w' := fun w0 hk0 =>
    turns_long (S1 := S1) hn
      (fun w1 hk1 => (hW w1 (hk0.trans' hk1)).mono fun e w2 ⟨a, h1, h2, h3⟩ => ⟨a, h1, h2, h3.less hk0.size⟩)
      (fun k w1 a hs => (hH k w1 a hs).mono fun e w2 ⟨h1, h2, h3⟩ => ⟨h1, h2, h3.less hk0.size⟩) hG
  clear hW hH
  go_enter Tryz.func10, Tryz.ntmps10
  go_wp2_with (go_at_call 8; refine (hT _ ?_).mono ?_; (first | exact Go.PB.Kept.refl _ | exact Go.PB.kept_alloc _ _ | exact (Go.PB.kept_alloc _ _).trans' (Go.PB.kept_alloc _ _)); rintro e w3 ⟨⟨v, rfl⟩, w2, hs2, hk2⟩)
  (try simp only [Exit.inBlock, Exit.then])
  refine bodyPost_ret (v := .tuple #[.int .i64 0, .int .i64 0, .bool false, .int .i64 4]) ?_ rfl ⟨rfl, w2, hs2, by assumption⟩
  have hr : Tryz.f10.results = #[.tmp 8, .tmp 9, .tmp 10, .tmp 11] := by kernel_rfl
  simp [results, hr]
end Go.Proofs.YtabfeencbambmaaGreatDoor.twinNil

