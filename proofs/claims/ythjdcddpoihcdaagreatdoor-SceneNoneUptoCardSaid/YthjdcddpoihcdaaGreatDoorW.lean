/- Whether a value is more than may be said of plain data: whatever finite value is handed in, the call returns a truth value and leaves all memory. -/
import Derived.Test.YthjdcddpoihcdaaGreatDoorProg
import Derived.Test.YthjdcddpoihcdaaGreatDoorPosN
import Derived.WalkKit
import Derived.ProofKit
import Derived.OpenShut
import Derived.Deep.Slices
import Derived.Deep.Fields
import Derived.Handy
namespace Go.Proofs.YthjdcddpoihcdaaGreatDoor.sceneNone
open Go Go.ChangeShapes Go.WideShapes Go.ChangeAt Go.RowKit Go.Op
set_option linter.unusedVariables false
set_option linter.unusedSimpArgs false

/-- the cells of a value of the type Value, its list's too, to a depth -/
def GV (w0 : World) : Nat → List Value → Prop
  | 0, _ => False
  | m + 1, cs => ∃ (k n r : Int) (s : ByteArray) (oa : Option Addr) (len cap : Nat), cs = [.int .u8 k, .int .i64 n, .string s, .slice oa len cap, .int .i64 r] ∧ s.size ≤ maxLen ∧ len ≤ maxLen ∧
      ∀ i, i < len → ∃ (b off : Nat) (cs' : List Value), oa = some ⟨b, off, none⟩ ∧ b < w0.heap.size ∧ cs'.length = 5 ∧ (∀ j, j < 5 → w0.cell? ⟨b, off + (i * 5 + j), none⟩ = cs'[j]?) ∧ GV w0 m cs'

theorem gv_more {w0 : World} : ∀ (m m' : Nat) (cs : List Value), m ≤ m' → GV w0 m cs → GV w0 m' cs := by
  intro m
  induction m with
  | zero => intro m' cs _ h; exact h.elim
  | succ m ih =>
    intro m' cs hm h
    match m', hm with
    | p + 1, hm =>
      obtain ⟨k, n, r, s, oa, len, cap, h1, h2, h3, h4⟩ := h
      refine ⟨k, n, r, s, oa, len, cap, h1, h2, h3, fun i hi => ?_⟩
      obtain ⟨b, off, cs', g1, g2, g3, g4, g5⟩ := h4 i hi
      exact ⟨b, off, cs', g1, g2, g3, g4, ih p cs' (by omega) g5⟩

theorem cells5 : Tryz.prog.cellsOf 62 = 5 := by kernel_rfl
/-- a struct whose fields are one cell each -/
theorem open_fields {H : Type} {enc : TypeId × Value → H} {P : Program} {w : World} {base : Nat} {spare : Nat → Bool} {held : Bool} {t : TypeId} {fs : Array Field} {fuel : Nat} {cs : List Value} {x : DataW H × List MemPlace}
    (hu : P.underlying t = some (.struct fs)) (hone : Go.Deep.oneCellFields P fs = true) (hC : P.cellsOf t = fs.size) (h : DataW.trod enc P w base spare held fuel t cs = some x) :
    ∃ (n : Nat) (ys : List (DataW H × List MemPlace)), fuel = n + 1 ∧ cs.length = P.cellsOf t ∧ ys.length = P.cellsOf t ∧ ∀ (j : Nat) (f : Field) (c : Value), fs[j]? = some f → cs[j]? = some c → DataW.trod enc P w base spare held n f.type [c] = ys[j]? := by
  obtain ⟨ys, n, hn, _, hl, hy, hf⟩ := DataW.trod_struct hu h
  refine ⟨n, ys, hn, hl, hy.trans hC.symm, fun j f c hj hc => ?_⟩
  obtain ⟨ho, hk⟩ := Go.Deep.hone_of hone j f hj
  have h1 := hf j f hj
  rw [ho, hk] at h1
  obtain ⟨hlt, hce⟩ := List.getElem?_eq_some_iff.1 hc
  rw [← h1, List.drop_eq_getElem_cons hlt, hce]
  rfl

/-- the list of a value -/
theorem list_of {H : Type} {enc : TypeId × Value → H} {sp : Nat → Bool} {held : Bool} {w0 : World} {fuel : Nat} {c3 : Value} {y : DataW H × List MemPlace}
    (ih : ∀ (f : Nat), f < fuel → ∀ (cs : List Value) (x : DataW H × List MemPlace), DataW.trod enc Tryz.prog w0 0 sp held f 62 cs = some x → GV w0 f cs)
    (h : DataW.trod enc Tryz.prog w0 0 sp held fuel 24 [c3] = some y) :
    ∃ (oa : Option Addr) (len cap : Nat), c3 = .slice oa len cap ∧ len ≤ maxLen ∧
      ∀ i, i < len → ∃ (b off : Nat) (cs' : List Value), oa = some ⟨b, off, none⟩ ∧ b < w0.heap.size ∧ cs'.length = 5 ∧ (∀ j, j < 5 → w0.cell? ⟨b, off + (i * 5 + j), none⟩ = cs'[j]?) ∧ GV w0 (fuel - 1) cs' := by
  rcases DataW.trod_slice Tryz.underlying24 h with ⟨h0, _⟩ | ⟨a, len, cap, elems, rest, n, rfl, h0, _, _, hlc, hcap, hel, hat, _, _⟩
  · cases h0
    exact ⟨none, 0, 0, rfl, by omega, fun i hi => by omega⟩
  · cases h0
    refine ⟨some a, len, cap, rfl, by omega, fun i hi => ?_⟩
    have key : ∀ i, i < len → ∃ cs' x, w0.cells? 0 (a.add (i * 5)) 5 = some cs' ∧ DataW.trod enc Tryz.prog w0 0 sp held n 62 cs' = some x := by
      intro i hi
      have hi1 := hat i hi
      have he : elems[i]? = some (elems[i]'(by omega)) := List.getElem?_eq_getElem (by omega)
      rw [he, cells5] at hi1
      obtain ⟨cs', hc, ht⟩ := Option.bind_eq_some_iff.1 hi1
      exact ⟨cs', _, hc, ht⟩
    obtain ⟨cs', x', hc, ht⟩ := key i hi
    obtain ⟨_, hl, hcell⟩ := World.cells?_some hc
    obtain ⟨cs0, x0, hc0, _⟩ := key 0 (by omega)
    obtain ⟨_, hl0, hcell0⟩ := World.cells?_some hc0
    have hz := hcell0 0 (by omega)
    obtain ⟨b, off, spot⟩ := a
    have hspot : spot = none := by
      cases spot with
      | none => rfl
      | some x =>
        exfalso
        rw [List.getElem?_eq_getElem (by omega)] at hz
        simp only [Addr.add, Nat.zero_mul, if_true, World.cell?] at hz
        split at hz <;> simp at hz
    subst hspot
    have hb : b < w0.heap.size := by
      rcases Nat.lt_or_ge b w0.heap.size with hlt | hge
      · exact hlt
      · exfalso
        rw [List.getElem?_eq_getElem (by omega)] at hz
        simp [Addr.add, World.cell?, Array.getElem?_eq_none hge] at hz
    refine ⟨b, off, cs', rfl, hb, hl, fun j hj => ?_, ih n (by omega) cs' _ ht⟩
    have := hcell j hj
    rw [Go.Deep.add_add] at this
    rw [Go.WideShapes.add_plain] at this
    exact this

theorem five {α : Type} : ∀ (l : List α), l.length = 5 → ∃ a b c d e, l = [a, b, c, d, e]
  | [a, b, c, d, e], _ => ⟨a, b, c, d, e, rfl⟩

theorem gv_of {H : Type} {enc : TypeId × Value → H} {sp : Nat → Bool} {held : Bool} {w0 : World} : ∀ (fuel : Nat) (cs : List Value) (x : DataW H × List MemPlace),
    DataW.trod enc Tryz.prog w0 0 sp held fuel 62 cs = some x → GV w0 fuel cs := by
  intro fuel
  induction fuel using Nat.strongRecOn with
  | _ fuel ih =>
    intro cs x h
    obtain ⟨n, ys, rfl, hl, hn, hf⟩ := open_fields Tryz.underlying62 (by kernel_rfl) (by kernel_rfl) h
    rw [cells5] at hl hn
    obtain ⟨c0, c1, c2, c3, c4, rfl⟩ := five cs hl
    obtain ⟨y0, y1, y2, y3, y4, rfl⟩ := five ys hn
    · have g0 := hf 0 _ c0 rfl rfl
      have g1 := hf 1 _ c1 rfl rfl
      have g2 := hf 2 _ c2 rfl rfl
      have g3 := hf 3 _ c3 rfl rfl
      have g4 := hf 4 _ c4 rfl rfl
      obtain ⟨k, e0, _, _⟩ := DataW.trod_int Tryz.underlying60 g0
      obtain ⟨q, e1, _, _⟩ := DataW.trod_int Tryz.underlying2 g1
      obtain ⟨s, e2, _, hs⟩ := DataW.trod_string Tryz.underlying9 g2
      obtain ⟨r, e4, _, _⟩ := DataW.trod_int Tryz.underlying34 g4
      obtain ⟨oa, len, cap, e3, hlen, hi⟩ := list_of (fun f hlt cs x hx => ih f (by omega) cs x hx) g3
      simp at e0 e1 e2 e4
      subst e0 e1 e2 e3 e4
      refine ⟨k, q, r, s, oa, len, cap, rfl, hs, hlen, fun i hlt => ?_⟩
      obtain ⟨b, off, cs', h1, h2, h3, h4, h5⟩ := hi i hlt
      exact ⟨b, off, cs', h1, h2, h3, h4, gv_more _ _ _ (by omega) h5⟩

theorem kept_cell {w0 w : World} (hk : Go.PB.Kept w0 w) {b : Nat} (hb : b < w0.heap.size) (o : Nat) : w.cell? ⟨b, o, none⟩ = w0.cell? ⟨b, o, none⟩ := by
  simp [World.cell?, hk.heap b hb]

theorem gv_kept {w w' : World} (hk : Go.PB.Kept w w') : ∀ (m : Nat) (cs : List Value), GV w m cs → GV w' m cs := by
  intro m
  induction m with
  | zero => intro cs h; exact h.elim
  | succ m ih =>
    rintro cs ⟨k, n, r, s, oa, len, cap, h1, h2, h3, h4⟩
    refine ⟨k, n, r, s, oa, len, cap, h1, h2, h3, fun i hi => ?_⟩
    obtain ⟨b, off, cs', g1, g2, g3, g4, g5⟩ := h4 i hi
    exact ⟨b, off, cs', g1, Nat.lt_of_lt_of_le g2 hk.size, g3, fun j hj => (kept_cell hk g2 _).trans (g4 j hj), ih cs' g5⟩

theorem gv_shape {w : World} : ∀ (m : Nat) (cs : List Value), GV w m cs → ∃ (k n r : Int) (s : ByteArray) (oa : Option Addr) (len cap : Nat), cs = [.int .u8 k, .int .i64 n, .string s, .slice oa len cap, .int .i64 r]
  | 0, _, h => h.elim
  | _ + 1, _, ⟨k, n, r, s, oa, len, cap, h, _⟩ => ⟨k, n, r, s, oa, len, cap, h⟩

set_option maxHeartbeats 4000000 in
theorem room_any : ∀ (m : Nat) (cs : List Value) (w : World), GV w m cs → ∀ left : Int, -1152921504606846976 ≤ left → left ≤ 1152921504606846976 →
    Calls Tryz.prog 27 #[.agg cs.toArray, .int .i64 left] w fun e w' => (∃ r : Int, e = .returned (.int .i64 r) ∧ -1152921504606846976 ≤ r ∧ r ≤ 1152921504606846976) ∧ Go.PB.Kept w w' := by
  intro m
  induction m with
  | zero => intro cs w h; exact h.elim
  | succ m ih =>
    rintro cs w ⟨k, n, r, s, oa, len, cap, rfl, hs, hl, hcell⟩ left h1 h2
    unfold maxLen at hs hl
    by_cases hneg : left < 0
    · go_enter Tryz.func27, Tryz.ntmps27
      go_wp2
      go_ret
      exact ⟨⟨-1, rfl, by omega, by omega⟩, Go.PB.kept_alloc _ _⟩
    · go_enter Tryz.func27, Tryz.ntmps27
      go_wp2
      go_loopw [1, 5] (fun v1 v5 wr => ∃ (q : Int) (i : Nat), v1 = .int .i64 q ∧ v5 = .int .i64 i ∧ i ≤ len ∧ -1152921504606846976 ≤ q ∧ q ≤ 1152921504606846976 ∧
          Go.PB.Kept (w.alloc (.cells #[.int .u8 k, .int .i64 n, .string s, .slice oa len cap, .int .i64 r] 62)) wr) (fun _ v5 _ => len - (intOf v5).toNat)
      case atStart => exact ⟨_, 0, rfl, rfl, Nat.zero_le _, by omega, by omega, Go.PB.Kept.refl _⟩
      case round =>
        obtain ⟨q, i, rfl, rfl, hi, hq1, hq2, hkr⟩ := hrel
        have hv : wr.cell? ⟨w.heap.size, 3, none⟩ = some (.slice oa len cap) := by rw [kept_cell hkr (by simp) 3]; simp
        by_cases hlt : i < len
        · by_cases hq : 0 ≤ q
          · obtain ⟨b, off, cs', rfl, hb, h5, hc, hgv⟩ := hcell i hlt
            have hkw : Go.PB.Kept w wr := (Go.PB.kept_alloc _ _).trans' hkr
            have hgr := gv_kept hkw m cs' hgv
            obtain ⟨k', n', r', s', oa', len', cap', rfl⟩ := gv_shape m cs' hgv
            have e0 : wr.cell? ⟨b, off + i * 5, none⟩ = some (.int .u8 k') := (kept_cell hkw hb _).trans (by have := hc 0 (by omega); simpa [Nat.add_assoc] using this)
            have e1 : wr.cell? ⟨b, off + i * 5 + 1, none⟩ = some (.int .i64 n') := (kept_cell hkw hb _).trans (by have := hc 1 (by omega); simpa [Nat.add_assoc] using this)
            have e2 : wr.cell? ⟨b, off + i * 5 + 2, none⟩ = some (.string s') := (kept_cell hkw hb _).trans (by have := hc 2 (by omega); simpa [Nat.add_assoc] using this)
            have e3 : wr.cell? ⟨b, off + i * 5 + 3, none⟩ = some (.slice oa' len' cap') := (kept_cell hkw hb _).trans (by have := hc 3 (by omega); simpa [Nat.add_assoc] using this)
            have e4 : wr.cell? ⟨b, off + i * 5 + 4, none⟩ = some (.int .i64 r') := (kept_cell hkw hb _).trans (by have := hc 4 (by omega); simpa [Nat.add_assoc] using this)
            clear hc hcell
            go_wp2_with (go_at_call 27; refine (ih [.int .u8 k', .int .i64 n', .string s', .slice oa' len' cap', .int .i64 r'] wr hgr q hq1 hq2).mono ?_; rintro e w' ⟨⟨r2, rfl, g1, g2⟩, hk'⟩)
            go_roundw
            case rel => exact ⟨r2, i + 1, rfl, by go_num, by omega, g1, g2, hkr.trans' hk'⟩
            case measure => simp [intOf]; omega
          · go_wp2
            go_ret
            exact ⟨⟨q, rfl, hq1, hq2⟩, (Go.PB.kept_alloc _ _).trans' hkr⟩
        · go_wp2
          go_ret
          exact ⟨⟨q, rfl, hq1, hq2⟩, (Go.PB.kept_alloc _ _).trans' hkr⟩

set_option maxHeartbeats 4000000 in
theorem great_any {m : Nat} {cs : List Value} (w : World) (hg : GV w m cs) :
    Calls Tryz.prog 10 #[.agg cs.toArray] w fun e w' => (∃ b : Bool, e = .returned (.bool b)) ∧ Go.PB.Kept w w' := by
  match m, hg with
  | m + 1, hg =>
  have hg' := fun o => gv_kept (Go.PB.kept_alloc w o) (m + 1) cs hg
  obtain ⟨k, n, r, s, oa, len, cap, rfl, hs, hl, hcell⟩ := hg
  go_enter Tryz.func10, Tryz.ntmps10
  go_wp2_with (go_at_call 27; refine (room_any (m + 1) [.int .u8 k, .int .i64 n, .string s, .slice oa len cap, .int .i64 r] _ (hg' _) 20000 (by omega) (by omega)).mono ?_; rintro e w' ⟨⟨r, rfl, h1, h2⟩, hk'⟩)
  go_ret
  exact ⟨⟨_, rfl⟩, (Go.PB.kept_alloc _ _).trans' (by assumption)⟩

theorem mixedP : Tryz.prog.follows .mixedOrders = true := by kernel_rfl
theorem fits09 (w : World) : Calls Tryz.prog 8 #[.agg #[.slice none 0 0, .slice none 0 0, .slice none 0 0, .int .i64 0, .slice none 0 0]] w fun e w' => e = .returned (.bool true) ∧ Go.PB.Kept w w' :=
  Go.PB.comes_end mixedP (tbl := []) (fuel := 1000) (n := 300) (args := [.agg [.nils, .nils, .nils, .int .i64 0, .nils]]) (Go.PB.comes_first (by kernel_rfl)) (by kernel_rfl) w _ (by simp [Go.PB.VRels, Go.PB.VRel])

set_option maxHeartbeats 4000000 in
set_option maxRecDepth 100000 in
theorem fits_any {w : World} {B m : Nat} {a b : Int} {s : ByteArray} {oa : Option Addr} {len cap : Nat} (hB : B < w.heap.size)
    (c0 : w.cell? ⟨B, 0, none⟩ = some (.int .i64 a)) (c1 : w.cell? ⟨B, 1, none⟩ = some (.int .i64 b)) (c2 : w.cell? ⟨B, 2, none⟩ = some (.string s)) (c3 : w.cell? ⟨B, 3, none⟩ = some (.slice oa len cap)) (hl : len ≤ maxLen)
    (hcell : ∀ i, i < len → ∃ (b off : Nat) (cs' : List Value), oa = some ⟨b, off, none⟩ ∧ b < w.heap.size ∧ cs'.length = 5 ∧ (∀ j, j < 5 → w.cell? ⟨b, off + (i * 5 + j), none⟩ = cs'[j]?) ∧ GV w m cs') :
    Calls Tryz.prog 4 #[.agg #[.slice none 0 0, .slice none 0 0, .slice none 0 0, .int .i64 0, .slice none 0 0, .slice none 0 0, .slice (some ⟨B, 0, none⟩) 1 1]] w fun e w' => (∃ bb : Bool, e = .returned (.bool bb)) ∧ Go.PB.Kept w w' := by
  unfold maxLen at hl
  go_enter Tryz.func4, Tryz.ntmps4
  go_wp2_with (go_at_call 8; refine (fits09 _).mono ?_; rintro e w1 ⟨rfl, hk1⟩; have d5 : w1.cell? ⟨w.heap.size, 5, none⟩ = some (.slice none 0 0) := (kept_cell hk1 (by simp) 5).trans (by simp); have d6 : w1.cell? ⟨w.heap.size, 6, none⟩ = some (.slice (some ⟨B, 0, none⟩) 1 1) := (kept_cell hk1 (by simp) 6).trans (by simp))
  refine wp_loop_rounds 1 ?_
  rw [rounds_succ]
  go_wp2
  have hkw : Go.PB.Kept w w1 := (Go.PB.kept_alloc _ _).trans' hk1
  have e0 : w1.cell? ⟨B, 0, none⟩ = some (.int .i64 a) := (kept_cell hkw hB _).trans c0
  have e1 : w1.cell? ⟨B, 1, none⟩ = some (.int .i64 b) := (kept_cell hkw hB _).trans c1
  have e2 : w1.cell? ⟨B, 2, none⟩ = some (.string s) := (kept_cell hkw hB _).trans c2
  have e3 : w1.cell? ⟨B, 3, none⟩ = some (.slice oa len cap) := (kept_cell hkw hB _).trans c3
  refine wp_loop_rounds 2 ?_
  rw [rounds_succ]
  go_wp2
  go_loopw [6] (fun v6 wr => ∃ i : Nat, v6 = .int .i64 i ∧ i ≤ len ∧ Go.PB.Kept w1 wr) (fun v6 _ => len - (intOf v6).toNat)
  case atStart => exact ⟨0, rfl, Nat.zero_le _, Go.PB.Kept.refl _⟩
  case round =>
    obtain ⟨i, rfl, hi, hkr⟩ := hrel
    have hkwr : Go.PB.Kept w wr := hkw.trans' hkr
    have hB1 : B < w1.heap.size := Nat.lt_of_lt_of_le hB hkw.size
    have hA1 : w.heap.size < w1.heap.size := by have := hk1.size; simp at this; omega
    have f6 : wr.cell? ⟨w.heap.size, 6, none⟩ = some (.slice (some ⟨B, 0, none⟩) 1 1) := (kept_cell hkr hA1 _).trans d6
    have f0 : wr.cell? ⟨B, 0, none⟩ = some (.int .i64 a) := (kept_cell hkr hB1 _).trans e0
    have f1 : wr.cell? ⟨B, 1, none⟩ = some (.int .i64 b) := (kept_cell hkr hB1 _).trans e1
    have f2 : wr.cell? ⟨B, 2, none⟩ = some (.string s) := (kept_cell hkr hB1 _).trans e2
    have f3 : wr.cell? ⟨B, 3, none⟩ = some (.slice oa len cap) := (kept_cell hkr hB1 _).trans e3
    by_cases hlt : i < len
    · by_cases hn : len < 1000
      · obtain ⟨b', off, cs', rfl, hb, h5, hc, hgv⟩ := hcell i hlt
        have hgr := gv_kept hkwr m cs' hgv
        obtain ⟨k', n', r', s', oa', len', cap', rfl⟩ := gv_shape m cs' hgv
        have z0 : wr.cell? ⟨b', off + i * 5, none⟩ = some (.int .u8 k') := (kept_cell hkwr hb _).trans (by have := hc 0 (by omega); simpa [Nat.add_assoc] using this)
        have z1 : wr.cell? ⟨b', off + i * 5 + 1, none⟩ = some (.int .i64 n') := (kept_cell hkwr hb _).trans (by have := hc 1 (by omega); simpa [Nat.add_assoc] using this)
        have z2 : wr.cell? ⟨b', off + i * 5 + 2, none⟩ = some (.string s') := (kept_cell hkwr hb _).trans (by have := hc 2 (by omega); simpa [Nat.add_assoc] using this)
        have z3 : wr.cell? ⟨b', off + i * 5 + 3, none⟩ = some (.slice oa' len' cap') := (kept_cell hkwr hb _).trans (by have := hc 3 (by omega); simpa [Nat.add_assoc] using this)
        have z4 : wr.cell? ⟨b', off + i * 5 + 4, none⟩ = some (.int .i64 r') := (kept_cell hkwr hb _).trans (by have := hc 4 (by omega); simpa [Nat.add_assoc] using this)
        clear hc hcell
        go_wp2_with (go_at_call 10; refine (great_any (m := m) (cs := [.int .u8 k', .int .i64 n', .string s', .slice oa' len' cap', .int .i64 r']) wr hgr).mono ?_; rintro e w2 ⟨⟨bb, rfl⟩, hk2⟩)
        all_goals first
          | (go_ret; exact ⟨⟨_, rfl⟩, hkwr.trans' (by assumption)⟩)
          | (go_roundw
             case rel => exact ⟨i + 1, by go_num, by omega, hkr.trans' (by assumption)⟩
             case measure => simp [intOf]; omega)
      · go_wp2
        rw [rounds_succ]
        go_wp2
        go_ret
        exact ⟨⟨_, rfl⟩, hkwr⟩
    · go_wp2
      rw [rounds_succ]
      go_wp2
      go_ret
      exact ⟨⟨_, rfl⟩, hkwr⟩
end Go.Proofs.YthjdcddpoihcdaaGreatDoor.sceneNone
