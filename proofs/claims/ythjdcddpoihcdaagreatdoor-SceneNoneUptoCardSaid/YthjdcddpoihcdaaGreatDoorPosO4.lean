/- What B's operations do is what the model's do: slices of slices, equality, arithmetic, conversions, assertions. -/
import Derived.Test.YthjdcddpoihcdaaGreatDoorPosO3
set_option linter.unusedSimpArgs false
set_option linter.unusedVariables false
namespace Go.PB
open Go

section
variable {P : Program} {g : Gh} {h : BHeap} {w : World}

/-! slicing -/
theorem bound_some {x : Option BV} {x' : Option Value} {r : Option Nat} (hx : (x = none ∧ x' = none) ∨ ∃ b v, x = some b ∧ x' = some v ∧ VRel P g w b v) (e : bound? x = some r) :
    (x = none ∧ x' = none ∧ r = none) ∨ ∃ k i, x' = some (.int k i) ∧ 0 ≤ i ∧ r = some i.toNat := by
  rcases hx with ⟨rfl, rfl⟩ | ⟨b, v, rfl, rfl, hv⟩
  · simp [bound?] at e; exact .inl ⟨rfl, rfl, e.symm⟩
  · right
    cases b with
    | int k i =>
      simp only [VRel] at hv; subst hv
      simp only [bound?] at e
      split at e
      · cases e
      · cases e; exact ⟨k, i, rfl, by omega, rfl⟩
    | _ => simp [bound?] at e

/-- an operand that may be absent -/
def ORelV (P : Program) (g : Gh) (w : World) (x : Option BV) (x' : Option Value) : Prop := (x = none ∧ x' = none) ∨ ∃ b v, x = some b ∧ x' = some v ∧ VRel P g w b v

theorem run_sliceBound {k : IntKind} {i : Int} {y : Nat} {code : BoundsCode} (h0 : 0 ≤ i) (h1 : i.toNat ≤ y) : (Instr.sliceBound (.int k i) y code).run P w = .ok i.toNat w := by
  simp only [Instr.sliceBound, Sem.run_bind, asIntOf_run, Result.andThen_ok]
  rw [if_pos ⟨h0, by omega⟩]; rfl

theorem run_lowBound {lo : Option BV} {lo' : Option Value} {l : Option Nat} (hlo : ORelV P g w lo lo') (el : bound? lo = some l) (hh mm : Nat) (code : BoundsCode) (hle : l.getD 0 ≤ hh) :
    ((match (generalizing := false) lo' with
      | some v => do
        let l ← Instr.sliceBound v hh code
        pure (l, hh, mm)
      | none => do
        let l ← pure 0
        pure (l, hh, mm)) : Sem (Nat × Nat × Nat)).run P w = .ok (l.getD 0, hh, mm) w := by
  rcases bound_some hlo el with ⟨_, rfl, rfl⟩ | ⟨k, i, rfl, hi0, rfl⟩
  · rfl
  · simp only [Sem.run_bind]
    rw [run_sliceBound hi0 hle]; rfl

theorem run_sliceBounds {isS : Bool} {len cap : Nat} {lo hi mx : Option BV} {lo' hi' mx' : Option Value} {l h' m : Option Nat} (hlo : ORelV P g w lo lo') (hhi : ORelV P g w hi hi') (hmx : ORelV P g w mx mx')
    (el : bound? lo = some l) (eh : bound? hi = some h') (em : bound? mx = some m) (c1 : m.getD cap ≤ cap) (c2 : h'.getD len ≤ m.getD cap) (c3 : l.getD 0 ≤ h'.getD len) (c4 : m.isNone || h'.isSome) :
    (Instr.sliceBounds isS len cap lo' hi' mx').run P w = .ok (l.getD 0, h'.getD len, m.getD cap) w := by
  rcases bound_some hmx em with ⟨_, rfl, rfl⟩ | ⟨k, i, rfl, hi0, rfl⟩
  · rcases bound_some hhi eh with ⟨_, rfl, rfl⟩ | ⟨k2, i2, rfl, hi2, rfl⟩
    · simp only [Instr.sliceBounds, Sem.run_bind, Sem.run_pure, Result.andThen_ok, Option.getD_none] at *
      exact run_lowBound hlo el _ _ _ c3
    · simp only [Instr.sliceBounds, Sem.run_bind, Sem.run_pure, Result.andThen_ok, Option.getD_none, Option.getD_some] at *
      rw [run_sliceBound hi2 c2]
      simp only [Result.andThen_ok]
      exact run_lowBound hlo el _ _ _ c3
  · rcases bound_some hhi eh with ⟨_, rfl, rfl⟩ | ⟨k2, i2, rfl, hi2, rfl⟩
    · simp at c4
    · simp only [Instr.sliceBounds, Sem.run_bind, Sem.run_pure, Result.andThen_ok, Option.getD_some] at *
      rw [run_sliceBound hi0 c1]
      simp only [Result.andThen_ok]
      rw [run_sliceBound hi2 c2]
      simp only [Result.andThen_ok]
      exact run_lowBound hlo el _ _ _ c3

theorem run_slice_slice {t el : TypeId} {size : Nat} {a : Option Addr} {len c : Nat} {lo hi mx : Option BV} {lo' hi' mx' : Option Value} {l h' m : Option Nat} (hu : P.underlying t = some (.slice el)) (hs : szOf P el = some size)
    (hlo : ORelV P g w lo lo') (hhi : ORelV P g w hi hi') (hmx : ORelV P g w mx mx')
    (el' : bound? lo = some l) (eh : bound? hi = some h') (em : bound? mx = some m) (c1 : m.getD c ≤ c) (c2 : h'.getD len ≤ m.getD c) (c3 : l.getD 0 ≤ h'.getD len) (c4 : m.isNone || h'.isSome) :
    (Instr.sliceAt t (.slice a len c) lo' hi' mx').run P w = .ok (.slice (if m.getD c = l.getD 0 then a else a.map (·.add (l.getD 0 * size))) (h'.getD len - l.getD 0) (m.getD c - l.getD 0)) w := by
  have hb := run_sliceBounds (P := P) (g := g) (w := w) (isS := true) hlo hhi hmx el' eh em c1 c2 c3 c4
  simp only [Instr.sliceAt, Sem.run_bind, r_underlying hu, Result.andThen_ok, Instr.slice, hb, r_sizeOf hs, Sem.run_pure]

theorem Tail.drop {blk off c l e n : Nat} (hs : w.shape? blk = some (e, n)) (ht : off + c * P.cellsOf e = n) (hl : l ≤ c) (size : Nat) (hsz : P.cellsOf e = size) : off + l * size + (c - l) * P.cellsOf e = n := by
  rw [hsz] at ht ⊢
  have : l * size + (c - l) * size = c * size := by rw [← Nat.add_mul]; congr 1; omega
  omega

theorem lim_real {m cap hh : Option Nat} {len c : Nat} (hcap : capOk cap len c) (h1 : capLe m cap len = true) (h2 : hiLe (hh.getD len) (limOf m cap) len = true) : m.getD c ≤ c ∧ hh.getD len ≤ m.getD c := by
  cases m with
  | some k =>
    cases cap with
    | some q => simp [capOk, capLe, hiLe, limOf] at hcap h1 h2; subst hcap; exact ⟨h1, h2⟩
    | none => simp [capOk, capLe, hiLe, limOf] at hcap h1 h2; exact ⟨by simp; omega, h2⟩
  | none =>
    cases cap with
    | some q => simp [capOk, hiLe, limOf] at hcap h2; subst hcap; exact ⟨by simp, h2⟩
    | none => simp [capOk, hiLe, limOf] at hcap h2; exact ⟨by simp, by simp; omega⟩

theorem sim_slice {t : TypeId} {x v : BV} {x' : Value} {lo hi mx : Option BV} {lo' hi' mx' : Option Value} (hr : HRel P g h w) (hx : VRel P g w x x') (hlo : ORelV P g w lo lo') (hhi : ORelV P g w hi hi') (hmx : ORelV P g w mx mx')
    (e : sliceB P h t x lo hi mx = some v) : ∃ v', (Instr.sliceAt t x' lo' hi' mx').run P w = .ok v' w ∧ VRel P g w v v' := by
  unfold sliceB at e
  split at e
  · rename_i l hh m el eh em
    dsimp only at e
    split at e
    · -- a string
      rename_i s hu
      simp only [VRel] at hx; subst hx
      split at e
      · rename_i hc
        simp only [Bool.and_eq_true, decide_eq_true_eq] at hc
        obtain ⟨⟨hm, h1⟩, h2⟩ := hc
        cases e
        refine ⟨.string ⟨(((s.take (hh.getD s.length)).drop (l.getD 0))).toArray⟩, ?_, by simp [VRel]⟩
        have hmn : mx' = none := by
          rcases bound_some hmx em with ⟨_, r, _⟩ | ⟨k, i, _, _, r⟩
          · exact r
          · subst r; simp at hm
        subst hmn
        have e1 : (ByteArray.mk s.toArray).size = s.length := by simp [ByteArray.size]
        have hb := run_sliceBounds (P := P) (g := g) (w := w) (isS := false) (len := s.length) (cap := s.length) hlo hhi (mx := none) (mx' := none) (.inl ⟨rfl, rfl⟩) el eh (m := none) rfl (by simp) (by simpa using h2) h1 (by simp)
        simp only [Instr.sliceAt, Sem.run_bind, r_underlying hu, Result.andThen_ok, Instr.slice, Option.isSome_none, Bool.false_eq_true, if_false, e1, hb, Sem.run_pure]
        congr 2
        apply ByteArray.ext
        simp [ByteArray.data_extract, List.extract_eq_take_drop, ← List.drop_take]
      · cases e
    · -- nil
      rename_i el' hu
      simp only [VRel] at hx; subst hx
      split at e
      · rename_i hc
        simp only [Bool.and_eq_true, decide_eq_true_eq] at hc
        obtain ⟨⟨⟨h1, h2⟩, h3⟩, h4⟩ := hc
        cases e
        refine ⟨.slice none 0 0, ?_, by simp [VRel]⟩
        cases hs : szOf P el' with
        | none => simp [hs] at h4
        | some size =>
          have := run_slice_slice (P := P) (g := g) (w := w) (a := none) (len := 0) (c := 0) hu hs hlo hhi hmx el eh em (by omega) (by omega) (by omega) (by
            cases m with
            | none => rfl
            | some m => rcases bound_some hmx em with ⟨_, _, r⟩ | _
                        · cases r
                        · cases hh with
                          | none => simp [hs] at h4
                          | some _ => rfl)
          rw [this, h1, h2, h3]; rfl
      · cases e
    · -- a slice
      rename_i el' b off len cap hu
      simp only [VRel] at hx
      obtain ⟨blk, base, c, hm, rfl, hcap, ht⟩ := hx
      cases hs : szOf P el' with
      | none => simp [hs] at e
      | some size =>
        simp only [hs] at e
        split at e
        · rename_i hc
          simp only [Bool.and_eq_true] at hc
          obtain ⟨⟨⟨hc1, hc2⟩, hc3⟩, hc4⟩ := hc
          have hc3 : l.getD 0 ≤ hh.getD len := by simpa using hc3
          have hM := lim_real hcap hc1 hc2
          have hrun := run_slice_slice (P := P) (g := g) (w := w) (a := some ⟨blk, base + off, none⟩) (len := len) (c := c) hu hs hlo hhi hmx el eh em hM.1 hM.2 hc3 (by simpa [or_comm] using hc4)
          refine ⟨_, hrun, ?_⟩
          have hknown : ∀ k, limOf m cap = some k → some (BV.slice b (if k = l.getD 0 then off else off + l.getD 0 * size) (hh.getD len - l.getD 0) (some (k - l.getD 0))) = some v →
              VRel P g w v (.slice (if m.getD c = l.getD 0 then some ⟨blk, base + off, none⟩ else (some (⟨blk, base + off, none⟩ : Addr)).map (·.add (l.getD 0 * size))) (hh.getD len - l.getD 0) (m.getD c - l.getD 0)) := fun k hk ev => by
            have hmk : m.getD c = k := by
              cases m with
              | some q => simp [limOf] at hk; simp [hk]
              | none => simp [limOf] at hk; subst hk; simp [capOk] at hcap; simp [hcap]
            cases ev
            simp only [VRel, hmk]
            refine ⟨blk, base, k - l.getD 0, hm, ?_, rfl, fun e => by cases e⟩
            by_cases hkl : k = l.getD 0
            · rw [if_pos hkl, if_pos hkl]
            · rw [if_neg hkl, if_neg hkl]; simp [addr_add, Nat.add_assoc]
          cases m with
          | some k => exact hknown k rfl e
          | none =>
            cases cap with
            | some k => exact hknown k rfl e
            | none =>
              simp [capOk] at hcap
              simp [hiLe, limOf] at hc2
              simp only [Option.getD_none]
              simp only [limOf] at e
              by_cases hl0 : l.getD 0 = 0
              · rw [if_pos hl0] at e; cases e
                rw [hl0]
                simp only [VRel, Nat.sub_zero]
                refine ⟨blk, base, c, hm, ?_, ?_, by simpa using ht⟩
                · split <;> simp [Addr.add]
                · simp only [capOk]; omega
              · rw [if_neg hl0] at e
                split at e
                · rename_i hlt
                  split at e
                  · rename_i cs e' s hb
                    split at e
                    · rename_i hse
                      cases e
                      rw [if_neg (by omega)]
                      simp only [VRel, Option.map_some, addr_add]
                      refine ⟨blk, base, c - l.getD 0, hm, by rw [Nat.add_assoc], by simp only [capOk]; omega, fun _ => ?_⟩
                      obtain ⟨e1, n, hsh, hn⟩ := ht rfl
                      obtain ⟨cc, lo1, hi1, vs, hw1, _⟩ := hr.cells hb hm
                      have he : e1 = e' := by
                        simp [World.shape?, hw1] at hsh; exact hsh.1.symm
                      subst he
                      refine ⟨e1, n, hsh, ?_⟩
                      have := Tail.drop (P := P) (l := l.getD 0) hsh hn (by omega) size (szOf_cellsOf hse)
                      rw [← Nat.add_assoc]; exact this
                    · cases e
                  · cases e
                · cases e
                  simp only [VRel]
                  have hz : hh.getD len - l.getD 0 = 0 := by omega
                  rw [hz]
                  split
                  · exact ⟨_, _, rfl⟩
                  · exact ⟨_, _, rfl⟩
        · cases e
    · -- a frozen slice
      rename_i el' cs len cap hu
      simp only [VRel] at hx
      obtain ⟨blk, off, c, rfl, hfz, hcap, vs, hv, hcs⟩ := hx
      cases hs : szOf P el' with
      | none => simp [hs] at e
      | some size =>
        simp only [hs] at e
        split at e
        · rename_i hc
          simp only [Bool.and_eq_true] at hc
          obtain ⟨⟨⟨⟨hc1, hc2⟩, hc0⟩, hc3⟩, hc4⟩ := hc
          have hc0 : hh.getD len ≤ len := by simpa using hc0
          have hc3 : l.getD 0 ≤ hh.getD len := by simpa using hc3
          have hM := lim_real hcap hc1 hc2
          have hrun := run_slice_slice (P := P) (g := g) (w := w) (a := some ⟨blk, off, none⟩) (len := len) (c := c) hu hs hlo hhi hmx el eh em hM.1 hM.2 hc3 (by simpa [or_comm] using hc4)
          refine ⟨_, hrun, ?_⟩
          have hknown : ∀ k, limOf m cap = some k → some (BV.rslice (if k = l.getD 0 then [] else cs.drop (l.getD 0 * size)) (hh.getD len - l.getD 0) (some (k - l.getD 0))) = some v →
              VRel P g w v (.slice (if m.getD c = l.getD 0 then some ⟨blk, off, none⟩ else (some (⟨blk, off, none⟩ : Addr)).map (·.add (l.getD 0 * size))) (hh.getD len - l.getD 0) (m.getD c - l.getD 0)) := fun k hk ev => by
            have hmk : m.getD c = k := by
              cases m with
              | some q => simp [limOf] at hk; simp [hk]
              | none => simp [limOf] at hk; subst hk; simp [capOk] at hcap; simp [hcap]
            cases ev
            simp only [VRel, hmk]
            by_cases hkl : k = l.getD 0
            · rw [if_pos hkl, if_pos hkl]
              exact ⟨blk, off, _, rfl, hfz, rfl, [], VRels.nil, fun i x hi => by simp at hi⟩
            · rw [if_neg hkl, if_neg hkl]
              exact ⟨blk, off + l.getD 0 * size, _, by simp [addr_add], hfz, rfl, _, hv.drop _, hcs.drop⟩
          cases m with
          | some k => exact hknown k rfl e
          | none =>
            cases cap with
            | some k => exact hknown k rfl e
            | none =>
              simp [capOk] at hcap
              simp only [Option.getD_none]
              simp only [limOf] at e
              by_cases hl0 : l.getD 0 = 0
              · rw [if_pos hl0] at e; cases e
                rw [hl0]
                simp only [VRel, Nat.sub_zero]
                refine ⟨blk, off, c, ?_, hfz, by simp only [capOk]; omega, vs, hv, hcs⟩
                split <;> simp [Addr.add]
              · rw [if_neg hl0] at e
                split at e
                · rename_i hlt
                  cases e
                  rw [if_neg (by omega)]
                  simp only [VRel, Option.map_some, addr_add]
                  exact ⟨blk, off + l.getD 0 * size, c - l.getD 0, rfl, hfz, by simp only [capOk]; omega, _, hv.drop _, hcs.drop⟩
                · cases e
                  simp only [VRel]
                  have hz : hh.getD len - l.getD 0 = 0 := by omega
                  rw [hz]
                  split
                  · exact ⟨_, _, rfl⟩
                  · exact ⟨_, _, rfl⟩
        · cases e
    · -- an array behind a pointer
      rename_i n el' b off hu
      simp only [VRel] at hx
      obtain ⟨blk, base, hm, rfl⟩ := hx
      cases hs : szOf P el' with
      | none => simp [hs] at e
      | some size =>
        simp only [hs] at e
        split at e
        · rename_i hc
          simp only [Bool.and_eq_true, decide_eq_true_eq] at hc
          obtain ⟨⟨⟨hc1, hc2⟩, hc3⟩, hc4⟩ := hc
          cases e
          have hb := run_sliceBounds (P := P) (g := g) (w := w) (isS := false) (len := n) (cap := n) hlo hhi hmx el eh em hc1 hc2 hc3 (by simpa [or_comm] using hc4)
          refine ⟨_, by simp only [Instr.sliceAt, Sem.run_bind, r_underlying hu, Result.andThen_ok, Instr.sureAddr, Sem.run_pure, hb, r_sizeOf hs]; rfl, ?_⟩
          simp only [VRel]
          refine ⟨blk, base, _, hm, ?_, rfl, fun e => by cases e⟩
          by_cases hkl : m.getD n = l.getD 0
          · rw [if_pos hkl, if_pos hkl]
          · rw [if_neg hkl, if_neg hkl]; simp [addr_add, Nat.add_assoc]
        · cases e
    · cases e
  · cases e
end
end Go.PB
