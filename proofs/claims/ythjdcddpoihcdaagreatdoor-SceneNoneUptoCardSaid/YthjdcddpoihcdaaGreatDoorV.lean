/- The Go function posternlaw30.SceneNone, walked: its calls by their contracts. -/
import Derived.Test.YthjdcddpoihcdaaGreatDoorW
import Derived.Test.YthjdcddpoihcdaaGreatDoorJ
import Derived.Laws.ResultCell
import Derived.Deep.RegionWith
import Derived.Lib.SmallJoins
namespace Go.Proofs.YthjdcddpoihcdaaGreatDoor.sceneNone
open Go Go.ChangeShapes Go.WideShapes Go.ChangeAt Go.RowKit Go.Op Go.Deep
set_option linter.unusedVariables false
set_option linter.unusedSimpArgs false

theorem of_nil (v : Value) (w : World) : Calls Tryz.prog 6 #[.pointer none, v] w fun e w' => e = .returned (.tuple #[.agg #[.slice none 0 0, .slice none 0 0, .slice none 0 0, .int .i64 0, .slice none 0 0, .slice none 0 0, .slice none 0 0], .int .i64 1]) ∧ Go.PB.Kept w w' := by
  go_enter Tryz.func6, Tryz.ntmps6
  go_wp2
  (try simp only [Exit.inBlock, Exit.then])
  refine bodyPost_ret (v := .tuple #[.agg #[.slice none 0 0, .slice none 0 0, .slice none 0 0, .int .i64 0, .slice none 0 0, .slice none 0 0, .slice none 0 0], .int .i64 1]) ?_ rfl ⟨rfl, by repeat' (first | exact Go.PB.Kept.refl _ | exact Go.PB.kept_alloc _ _ | refine Go.PB.Kept.trans' ?_ (Go.PB.kept_alloc _ _))⟩
  rw [results_cell_tmp rfl]
  go_simp

theorem of_zero (v : Value) (w : World) (B : Nat) (hB : B < w.heap.size) (h0 : w.cell? ⟨B, 0, none⟩ = some (.pointer none)) (h1 : w.cell? ⟨B, 1, none⟩ = some (.pointer none))
    (h2 : w.cell? ⟨B, 2, none⟩ = some (.slice none 0 0)) (h3 : w.cell? ⟨B, 3, none⟩ = some (.slice none 0 0)) (h4 : w.cell? ⟨B, 4, none⟩ = some (.slice none 0 0)) :
    Calls Tryz.prog 6 #[.pointer (some ⟨B, 0, none⟩), v] w fun e w' => e = .returned (.tuple #[.agg #[.slice none 0 0, .slice none 0 0, .slice none 0 0, .int .i64 0, .slice none 0 0, .slice none 0 0, .slice none 0 0], .int .i64 1]) ∧ Go.PB.Kept w w' := by
  have hc : ∀ (o : Obj) (j : Nat), (w.alloc o).cell? ⟨B, j, none⟩ = w.cell? ⟨B, j, none⟩ := fun o j => World.cell?_alloc_lt _ _ ⟨B, j, none⟩ hB
  go_enter Tryz.func6, Tryz.ntmps6
  go_wp2
  (try simp only [Exit.inBlock, Exit.then])
  refine bodyPost_ret (v := .tuple #[.agg #[.slice none 0 0, .slice none 0 0, .slice none 0 0, .int .i64 0, .slice none 0 0, .slice none 0 0, .slice none 0 0], .int .i64 1]) ?_ rfl ⟨rfl, by repeat' (first | exact Go.PB.Kept.refl _ | exact Go.PB.kept_alloc _ _ | refine Go.PB.Kept.trans' ?_ (Go.PB.kept_alloc _ _))⟩
  rw [results_cell_tmp rfl]
  go_simp

theorem plain_any (w : World) : Calls Tryz.prog 7 #[.agg #[.slice none 0 0, .slice none 0 0, .slice none 0 0, .int .i64 0, .slice none 0 0, .slice none 0 0, .slice none 0 0], .agg #[.slice none 0 0, .slice none 0 0, .slice none 0 0, .int .i64 0, .slice none 0 0, .slice none 0 0, .slice none 0 0]] w fun e w' => e = .returned (.bool true) ∧ Go.PB.Kept w w' :=
  Go.PB.comes_end mixedP (tbl := []) (fuel := 1000) (n := 600) (args := [.agg [.nils, .nils, .nils, .int .i64 0, .nils, .nils, .nils], .agg [.nils, .nils, .nils, .int .i64 0, .nils, .nils, .nils]]) (Go.PB.comes_first (by kernel_rfl)) (by kernel_rfl) w _ (by simp only [Go.PB.VRels, Go.PB.VRel]; exact ⟨_, _, rfl, ⟨_, rfl, by simp⟩, _, _, rfl, ⟨_, rfl, by simp⟩, rfl⟩)

theorem kept_row {w w' : World} {cs : Array Value} {t : TypeId} {f : Nat × Nat} (hk : Go.PB.Kept (w.alloc (.cells cs t f)) w') (j : Nat) : w'.cell? ⟨w.heap.size, j, none⟩ = cs[j]? :=
  (kept_cell hk (by simp) j).trans (by unfold World.cell?; rw [show (w.alloc (.cells cs t f)).heap[w.heap.size]? = some (.cells cs t f) from Array.getElem?_push_size]; rfl)
theorem kept_row3 {w w' : World} {cs : Array Value} {t : TypeId} {f : Nat × Nat} {o1 o2 : Obj} (hk : Go.PB.Kept (((w.alloc (.cells cs t f)).alloc o1).alloc o2) w') (j : Nat) : w'.cell? ⟨w.heap.size, j, none⟩ = cs[j]? :=
  kept_row (((Go.PB.kept_alloc _ o1).trans' (Go.PB.kept_alloc _ o2)).trans' hk) j
theorem lt2 (w : World) (o o1 o2 : Obj) : w.heap.size + 1 < (((w.alloc o).alloc o1).alloc o2).heap.size := by
  show _ < (((w.heap.push o).push o1).push o2).size
  simp only [Array.size_push]
  omega
theorem row2 (w : World) (o o2 : Obj) (cs : Array Value) (t : TypeId) (j : Nat) : (((w.alloc o).alloc (.cells cs t)).alloc o2).cell? ⟨w.heap.size + 1, j, none⟩ = cs[j]? := by
  have h := kept_row (Go.PB.kept_alloc ((w.alloc o).alloc (.cells cs t)) o2) j
  rwa [show (w.alloc o).heap.size = w.heap.size + 1 from Array.size_push ..] at h
theorem kept_alloc_cell {w w' : World} {o : Obj} (hk : Go.PB.Kept (w.alloc o) w') {b : Nat} (hb : b < w.heap.size) (j : Nat) : w'.cell? ⟨b, j, none⟩ = w.cell? ⟨b, j, none⟩ :=
  kept_cell ((Go.PB.kept_alloc w o).trans' hk) hb j

theorem awake_any (w : World) : Calls Tryz.prog 5 #[] w fun e w' => e = .returned (.bool true) ∧ Go.PB.Kept w w' := Go.PB.comes_end mixed C57 E w #[] (by show Go.PB.VRels _ _ _ [] []; simp [Go.PB.VRels])

set_option maxHeartbeats 1000000 in
set_option maxRecDepth 100000 in
theorem scene_none {W : World} {m : Nat} {a b : Int} {s : ByteArray} {oa : Option Addr} {len cap : Nat} (hl : len ≤ maxLen)
    (hcell : ∀ i, i < len → ∃ (b off : Nat) (cs' : List Value), oa = some ⟨b, off, none⟩ ∧ b < W.heap.size ∧ cs'.length = 5 ∧ (∀ j, j < 5 → W.cell? ⟨b, off + (i * 5 + j), none⟩ = cs'[j]?) ∧ GV W m cs') :
    Calls Tryz.prog 3 #[.agg #[.int .i64 a, .int .i64 b, .string s, .slice oa len cap]] W fun e w' => e = .returned (.bool true) ∧ Go.PB.Kept W w' := by
  have hk2 : Go.PB.Kept W ((W.alloc (.cells #[.int .i64 a, .int .i64 b, .string s, .slice oa len cap] 28)).alloc (.cells #[.int .i64 a, .int .i64 b, .string s, .slice oa len cap] 28)) := (Go.PB.kept_alloc _ _).trans' (Go.PB.kept_alloc _ _)
  have hf := fits_any (w := (W.alloc (.cells #[.int .i64 a, .int .i64 b, .string s, .slice oa len cap] 28)).alloc (.cells #[.int .i64 a, .int .i64 b, .string s, .slice oa len cap] 28)) (B := W.heap.size + 1) (m := m) (a := a) (b := b) (s := s) (oa := oa) (len := len) (cap := cap)
    (by simp) (by simp) (by simp) (by simp) (by simp) hl (fun i hi => by
      obtain ⟨b', off, cs', g1, g2, g3, g4, g5⟩ := hcell i hi
      exact ⟨b', off, cs', g1, Nat.lt_of_lt_of_le g2 hk2.size, g3, fun j hj => (kept_cell hk2 g2 _).trans (g4 j hj), gv_kept hk2 m cs' g5⟩)
  clear hcell
  go_enter Tryz.func3, Tryz.ntmps3
  go_wp2_with (first
    | (go_at_call 4; refine hf.mono ?_; rintro e w1 ⟨⟨bb, rfl⟩, hk1⟩; have q0 : w1.cell? ⟨W.heap.size, 0, none⟩ = some (.int .i64 a) := (kept_cell hk1 (by simp <;> omega) 0).trans (by simp); have q1 : w1.cell? ⟨W.heap.size, 1, none⟩ = some (.int .i64 b) := (kept_cell hk1 (by simp <;> omega) 1).trans (by simp); have q2 : w1.cell? ⟨W.heap.size, 2, none⟩ = some (.string s) := (kept_cell hk1 (by simp <;> omega) 2).trans (by simp); have q3 : w1.cell? ⟨W.heap.size, 3, none⟩ = some (.slice oa len cap) := (kept_cell hk1 (by simp <;> omega) 3).trans (by simp); have qs : W.heap.size < w1.heap.size := Nat.lt_of_lt_of_le (by simp <;> omega) hk1.size; clear hf)
    | (go_at_call_of 6 (Value.pointer none); refine (of_nil _ _).mono ?_; rintro e w2 ⟨rfl, hk3⟩; have r0 : w2.cell? ⟨W.heap.size, 0, none⟩ = some (.int .i64 a) := (kept_alloc_cell hk3 qs 0).trans q0; have r1 : w2.cell? ⟨W.heap.size, 1, none⟩ = some (.int .i64 b) := (kept_alloc_cell hk3 qs 1).trans q1; have r2 : w2.cell? ⟨W.heap.size, 2, none⟩ = some (.string s) := (kept_alloc_cell hk3 qs 2).trans q2; have r3 : w2.cell? ⟨W.heap.size, 3, none⟩ = some (.slice oa len cap) := (kept_alloc_cell hk3 qs 3).trans q3; have rs : W.heap.size < w2.heap.size := Nat.lt_of_lt_of_le (Nat.lt_of_lt_of_le qs (Go.PB.kept_alloc _ _).size) hk3.size)
    | (go_at_call 6; refine (of_zero _ _ (w2.heap.size + 1) (lt2 _ _ _ _) (row2 _ _ _ _ _ 0) (row2 _ _ _ _ _ 1) (row2 _ _ _ _ _ 2) (row2 _ _ _ _ _ 3) (row2 _ _ _ _ _ 4)).mono ?_; rintro e w3 ⟨rfl, hk6⟩; have hs3 : w2.heap.size < w3.heap.size := Nat.lt_of_lt_of_le (Nat.lt_of_succ_lt (lt2 _ _ _ _)) hk6.size; have a0 : w3.cell? ⟨w2.heap.size, 0, none⟩ = some (.slice none 0 0) := kept_row3 hk6 0; have a1 : w3.cell? ⟨w2.heap.size, 1, none⟩ = some (.slice none 0 0) := kept_row3 hk6 1; have a2 : w3.cell? ⟨w2.heap.size, 2, none⟩ = some (.slice none 0 0) := kept_row3 hk6 2; have a3 : w3.cell? ⟨w2.heap.size, 3, none⟩ = some (.int .i64 0) := kept_row3 hk6 3; have a4 : w3.cell? ⟨w2.heap.size, 4, none⟩ = some (.slice none 0 0) := kept_row3 hk6 4; have a5 : w3.cell? ⟨w2.heap.size, 5, none⟩ = some (.slice none 0 0) := kept_row3 hk6 5; have a6 : w3.cell? ⟨w2.heap.size, 6, none⟩ = some (.slice none 0 0) := kept_row3 hk6 6)
    | (go_at_call 5; refine (awake_any _).mono ?_; rintro e w9 ⟨rfl, hk9⟩)
    | (go_at_call 7; refine (plain_any _).mono ?_; rintro e w4 ⟨rfl, hk4⟩; have b0 : w4.cell? ⟨w3.heap.size, 0, none⟩ = some (.slice none 0 0) := kept_row hk4 0; have b1 : w4.cell? ⟨w3.heap.size, 1, none⟩ = some (.slice none 0 0) := kept_row hk4 1; have b2 : w4.cell? ⟨w3.heap.size, 2, none⟩ = some (.slice none 0 0) := kept_row hk4 2; have b3 : w4.cell? ⟨w3.heap.size, 3, none⟩ = some (.int .i64 0) := kept_row hk4 3; have b4 : w4.cell? ⟨w3.heap.size, 4, none⟩ = some (.slice none 0 0) := kept_row hk4 4; have b5 : w4.cell? ⟨w3.heap.size, 5, none⟩ = some (.slice none 0 0) := kept_row hk4 5; have b6 : w4.cell? ⟨w3.heap.size, 6, none⟩ = some (.slice none 0 0) := kept_row hk4 6)
    | (go_at_call 7; refine (plain_any _).mono ?_; rintro e w5 ⟨rfl, hk5⟩))
  · go_ret
    exact ⟨rfl, (hk2.trans' hk1).trans' (by assumption)⟩
  · go_ret
    exact ⟨rfl, (((((hk2.trans' hk1).trans' ((Go.PB.kept_alloc _ _).trans' hk3)).trans' ((((Go.PB.kept_alloc _ _).trans' (Go.PB.kept_alloc _ _)).trans' (Go.PB.kept_alloc _ _)).trans' hk6)).trans' ((Go.PB.kept_alloc _ _).trans' hk4)).trans' (by assumption)).trans' (by assumption)⟩
theorem cellsCue : Tryz.prog.cellsOf 28 = 4 := by kernel_rfl
theorem cellsTurn : Tryz.prog.cellsOf 23 = 2 := by kernel_rfl
theorem cellsQuest : Tryz.prog.cellsOf 26 = 2 := by kernel_rfl
theorem four {α : Type} : ∀ (l : List α), l.length = 4 → ∃ a b c d, l = [a, b, c, d]
  | [a, b, c, d], _ => ⟨a, b, c, d, rfl⟩
theorem two {α : Type} : ∀ (l : List α), l.length = 2 → ∃ a b, l = [a, b]
  | [a, b], _ => ⟨a, b, rfl⟩

set_option maxRecDepth 100000 in
theorem args_of {H : Type} {enc : TypeId × Value → H} {W : World} {base : Nat} {v : Value} {d : DataW H} {ps : List MemPlace} (hv : Value.okWide Tryz.prog W .any base 28 v)
    (h : DataW.Trod enc Tryz.prog W 0 (fun _ => true) true 28 v d ps) :
    ∃ (a b : Int) (s : ByteArray) (oa : Option Addr) (len cap m : Nat), v = .agg #[.int .i64 a, .int .i64 b, .string s, .slice oa len cap] ∧ len ≤ maxLen ∧
      ∀ i, i < len → ∃ (b off : Nat) (cs' : List Value), oa = some ⟨b, off, none⟩ ∧ b < W.heap.size ∧ cs'.length = 5 ∧ (∀ j, j < 5 → W.cell? ⟨b, off + (i * 5 + j), none⟩ = cs'[j]?) ∧ GV W m cs' := by
  obtain ⟨cs, rfl, hsz⟩ := okWide_struct (t := 28) Tryz.underlying28 hv
  obtain ⟨l⟩ := cs
  rw [cellsCue] at hsz
  obtain ⟨c0, c1, c2, c3, rfl⟩ := four l hsz
  obtain ⟨fuel, hf⟩ := h
  obtain ⟨xs, n, _, hx, _, hlen, hg⟩ := DataW.trod_struct Tryz.underlying28 hf
  have g0 : DataW.trod enc Tryz.prog W 0 (fun _ => true) true n 23 [c0, c1] = xs[0]? := by
    have e : DataW.trod enc Tryz.prog W 0 (fun _ => true) true n 23 ((List.drop 0 [c0, c1, c2, c3]).take (Tryz.prog.cellsOf 23)) = xs[0]? := hg 0 _ rfl
    rw [cellsTurn] at e
    exact e
  have g1 : DataW.trod enc Tryz.prog W 0 (fun _ => true) true n 26 [c2, c3] = xs[1]? := by
    have e : DataW.trod enc Tryz.prog W 0 (fun _ => true) true n 26 ((List.drop 2 [c0, c1, c2, c3]).take (Tryz.prog.cellsOf 26)) = xs[1]? := hg 1 _ rfl
    rw [cellsQuest] at e
    exact e
  obtain ⟨y0, y1, rfl⟩ := two xs hlen
  obtain ⟨n1, zs, _, _, hz, hf1⟩ := open_fields Tryz.underlying23 (by kernel_rfl) (by kernel_rfl) g0
  rw [cellsTurn] at hz
  obtain ⟨z0, z1, rfl⟩ := two zs hz
  obtain ⟨a, e0, _, _⟩ := DataW.trod_int Tryz.underlying3 (hf1 0 _ c0 rfl rfl)
  obtain ⟨b, e1, _, _⟩ := DataW.trod_int Tryz.underlying3 (hf1 1 _ c1 rfl rfl)
  obtain ⟨n2, us, _, _, hu, hf2⟩ := open_fields Tryz.underlying26 (by kernel_rfl) (by kernel_rfl) g1
  rw [cellsQuest] at hu
  obtain ⟨u0, u1, rfl⟩ := two us hu
  obtain ⟨s, e2, _, _⟩ := DataW.trod_string Tryz.underlying9 (hf2 0 _ c2 rfl rfl)
  obtain ⟨oa, len, cap, e3, hl, hi⟩ := list_of (fun f _ cs x hx => gv_of f cs x hx) (hf2 1 _ c3 rfl rfl)
  simp at e0 e1 e2
  subst e0 e1 e2 e3
  exact ⟨a, b, s, oa, len, cap, _, rfl, hl, hi⟩
end Go.Proofs.YthjdcddpoihcdaaGreatDoor.sceneNone
