/- What B's operations do is what the model's do: arithmetic, conversions, assertions, len, min, max. -/
import Derived.Test.YthjdcddpoihcdaaGreatDoorPosO5
import Derived.Laws.Strings
set_option linter.unusedSimpArgs false
set_option linter.unusedVariables false
namespace Go.PB
open Go

section
variable {P : Program} {g : Gh} {h : BHeap} {w : World}

theorem bytes_toList (a : List UInt8) : (ByteArray.mk a.toArray).toList = a := by
  rw [ByteArray.toList_eq]

theorem bytes_append (a b : List UInt8) : ByteArray.mk a.toArray ++ ByteArray.mk b.toArray = ByteArray.mk (a ++ b).toArray := by
  apply ByteArray.ext
  simp

def vkind : Value → Nat
  | .int .. => 1 | .float .. => 2 | .complex .. => 3 | .string .. => 4 | _ => 0
def bkind : BV → Nat
  | .int .. => 1 | .str .. => 4 | _ => 0

theorem VRel.kind {b : BV} {v : Value} (hv : VRel P g w b v) (hk : b.known = true) : bkind b = vkind v := by
  cases b <;> simp only [VRel] at hv <;> first
    | (simp [BV.known] at hk; done)
    | (subst hv; rfl)
    | (obtain ⟨_, rfl, _⟩ := hv; rfl)
    | (obtain ⟨_, _, rfl⟩ := hv; rfl)
    | (obtain ⟨_, _, rfl, _⟩ := hv; rfl)
    | (obtain ⟨_, _, _, rfl⟩ := hv; rfl)
    | (obtain ⟨_, _, _, rfl, _⟩ := hv; rfl)
    | (obtain ⟨_, _, _, _, rfl, _⟩ := hv; rfl)

theorem binOp_eq_other (t : TypeId) {x y : Value} (hk : vkind x ≠ vkind y ∨ vkind x = 0) :
    binOp .eql t x y = (do pure (.bool (← Op.equal t x y))) ∧ binOp .neq t x y = (do pure (.bool (!(← Op.equal t x y)))) := by
  cases x <;> cases y <;> first
    | exact ⟨rfl, rfl⟩
    | (simp [vkind] at hk; done)

theorem eqB_known {d : Nat} {t : TypeId} {x y : BV} {r : Bool} (e : eqB P h (d + 1) t x y = some r) : x.known = true ∧ y.known = true := by
  unfold eqB at e
  split at e <;> first
    | exact ⟨rfl, rfl⟩
    | (cases e; done)

theorem sim_bin (hr : HRel P g h w) {op : BinOp} {t : TypeId} {x y v : BV} {x' y' : Value} (hx : VRel P g w x x') (hy : VRel P g w y y') (e : binB P h op t x y = some v) :
    ∃ v', (binOp op t x' y').run P w = .ok v' w ∧ VRel P g w v v' := by
  have heq : ∀ r, eqB P h 12 t x y = some r → (Op.equal t x' y').run P w = .ok r w := fun r hb => sim_eq hr 12 t x y x' y' r hx hy hb Op.maxDepth (by unfold Op.maxDepth; omega)
  by_cases hi : ∃ k a k' b, x = .int k a ∧ y = .int k' b
  · obtain ⟨k, a, k', b, rfl, rfl⟩ := hi
    simp only [VRel] at hx hy; subst hx hy
    by_cases hs : op = .shl ∨ op = .shr
    · rcases hs with rfl | rfl
      · simp only [binB] at e
        split at e
        · cases e
        · rename_i hb
          cases e
          exact ⟨_, by simp only [binOp, Op.shift]; rw [if_neg hb]; rfl, by simp [VRel]⟩
      · simp only [binB] at e
        split at e
        · cases e
        · rename_i hb
          cases e
          exact ⟨_, by simp only [binOp, Op.shift]; rw [if_neg hb]; rfl, by simp [VRel]⟩
    · have hne : op ≠ .shl ∧ op ≠ .shr := by
        constructor <;> intro h' <;> exact hs (by simp [h'])
      have e' : (if k ≠ k' then none else
          match op with
          | .add => some (BV.int k (k.wrap (a + b)))
          | .sub => some (.int k (k.wrap (a - b)))
          | .mul => some (.int k (k.wrap (a * b)))
          | .quo => if b = 0 then none else some (.int k (k.wrap (a.tdiv b)))
          | .rem => if b = 0 then none else some (.int k (a.tmod b))
          | .and => some (.int k (k.wrap (BitVec.ofInt k.bits a &&& BitVec.ofInt k.bits b).toNat))
          | .or => some (.int k (k.wrap (BitVec.ofInt k.bits a ||| BitVec.ofInt k.bits b).toNat))
          | .xor => some (.int k (k.wrap (BitVec.ofInt k.bits a ^^^ BitVec.ofInt k.bits b).toNat))
          | .andNot => some (.int k (k.wrap (BitVec.ofInt k.bits a &&& ~~~(BitVec.ofInt k.bits b)).toNat))
          | .eql => some (.bool (a == b))
          | .neq => some (.bool (a != b))
          | .lss => some (.bool (decide (a < b)))
          | .leq => some (.bool (decide (a ≤ b)))
          | .gtr => some (.bool (decide (a > b)))
          | .geq => some (.bool (decide (a ≥ b)))
          | _ => none) = some v := by
        rw [← e]; cases op <;> first | rfl | (exact absurd rfl hne.1) | (exact absurd rfl hne.2)
      split at e'
      · cases e'
      · rename_i hk
        have hk : k = k' := by simpa using hk
        subst hk
        cases op <;> dsimp only at e'
        case quo =>
          split at e'
          · cases e'
          · rename_i hb; cases e'
            exact ⟨_, by simp only [binOp]; rw [if_neg (by simp)]; simp only [Op.intDiv]; rw [if_neg hb]; rfl, by simp [VRel]⟩
        case rem =>
          split at e'
          · cases e'
          · rename_i hb; cases e'
            exact ⟨_, by simp only [binOp]; rw [if_neg (by simp)]; simp only [Op.intDiv]; rw [if_neg hb]; rfl, by simp [VRel]⟩
        all_goals first
          | (cases e'; done)
          | (cases e'; exact ⟨_, by simp only [binOp]; rw [if_neg (by simp)]; rfl, by simp only [VRel]⟩)
  by_cases hst : ∃ a b, x = .str a ∧ y = .str b
  · obtain ⟨a, b, rfl, rfl⟩ := hst
    simp only [VRel] at hx hy; subst hx hy
    have hb : ∀ op, op ≠ .shl → op ≠ .shr → binOp op t (.string ⟨a.toArray⟩) (.string ⟨b.toArray⟩) = Op.stringOp op ⟨a.toArray⟩ ⟨b.toArray⟩ := fun op h1 h2 => by
      cases op <;> first | rfl | (exact absurd rfl h1) | (exact absurd rfl h2)
    cases op <;> simp only [binB] at e
    case add =>
      split at e
      · rename_i hl
        cases e
        refine ⟨.string ⟨(a ++ b).toArray⟩, ?_, by simp [VRel]⟩
        rw [hb _ (by simp) (by simp)]
        simp only [Op.stringOp]
        rw [if_neg (by simp only [ByteArray.size, List.size_toArray]; simp only [IntKind.max, IntKind.signed, IntKind.bits, if_true]; omega), bytes_append]
        rfl
      · cases e
    all_goals first
      | (cases e; done)
      | (cases e; refine ⟨_, by rw [hb _ (by simp) (by simp)]; simp only [Op.stringOp, bytes_toList, Sem.run_pure]; rfl, ?_⟩; simp [VRel, bytesLt])
      | (simp [eqB] at e)
  -- what is left is == and !=
  have hop : (op = .eql ∧ (eqB P h 12 t x y).map BV.bool = some v) ∨ (op = .neq ∧ (eqB P h 12 t x y).map (fun b => BV.bool (!b)) = some v) := by
    unfold binB at e
    split at e
    · exact absurd ⟨_, _, _, _, rfl, rfl⟩ hi
    · exact absurd ⟨_, _, _, _, rfl, rfl⟩ hi
    · exact absurd ⟨_, _, _, _, rfl, rfl⟩ hi
    · exact absurd ⟨_, _, rfl, rfl⟩ hst
    · exact .inl ⟨rfl, e⟩
    · exact .inr ⟨rfl, e⟩
    · cases e
  have fin : ∀ r, eqB P h 12 t x y = some r → (vkind x' ≠ vkind y' ∨ vkind x' = 0) := fun r hb => by
    obtain ⟨k1, k2⟩ := eqB_known hb
    rw [← VRel.kind hx k1, ← VRel.kind hy k2]
    by_cases h0 : bkind x = 0
    · exact .inr h0
    · left
      cases x <;> simp [bkind] at h0 <;> cases y <;> simp [bkind] <;> first
        | exact absurd ⟨_, _, _, _, rfl, rfl⟩ hi
        | exact absurd ⟨_, _, rfl, rfl⟩ hst
  rcases hop with ⟨rfl, hv⟩ | ⟨rfl, hv⟩
  · cases hb : eqB P h 12 t x y with
    | none => simp [hb] at hv
    | some r =>
      simp [hb] at hv; subst hv
      exact ⟨.bool r, by rw [(binOp_eq_other t (fin r hb)).1]; simp [heq r hb], by simp [VRel]⟩
  · cases hb : eqB P h 12 t x y with
    | none => simp [hb] at hv
    | some r =>
      simp [hb] at hv; subst hv
      exact ⟨.bool (!r), by rw [(binOp_eq_other t (fin r hb)).2]; simp [heq r hb], by simp [VRel]⟩
end
end Go.PB
