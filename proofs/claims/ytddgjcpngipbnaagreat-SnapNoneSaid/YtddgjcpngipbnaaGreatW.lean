/- The two sums of a string are one and the same number. -/
import Derived.Test.YtddgjcpngipbnaaGreatChecked
import Derived.WalkKit
import Derived.ProofKit
import Derived.OpenShut
namespace Go.Proofs.YtddgjcpngipbnaaGreat.snapNone
open Go Go.ChangeShapes Go.WideShapes Go.ChangeAt Go.RowKit Go.Op

/-- a letter more -/
def stepF (m : Int) (c : UInt8) : Int := IntKind.u64.wrap (bits BinOp.xor IntKind.u64 m (IntKind.u64.wrap c.toNat) * 1099511628211)
/-- the sum of bytes -/
def sumF (l : List UInt8) : Int := l.foldl stepF 14695981039346656037

theorem sumF_snoc (l : List UInt8) (c : UInt8) : sumF (l ++ [c]) = stepF (sumF l) c := by
  unfold sumF; rw [List.foldl_append]; rfl
theorem take_snoc (s : ByteArray) (k : Nat) (h : k < s.size) : s.data.toList.take (k + 1) = s.data.toList.take k ++ [s[k]] := by
  rw [List.take_succ_eq_append_getElem (by simpa using h)]; rfl
theorem sumF_step (s : ByteArray) (k : Nat) (h : k < s.size) : sumF (s.data.toList.take (k + 1)) = IntKind.u64.wrap (bits BinOp.xor IntKind.u64 (sumF (s.data.toList.take k)) (IntKind.u64.wrap s[k].toNat) * 1099511628211) := by
  rw [take_snoc s k h, sumF_snoc]; rfl

theorem take_all (s : ByteArray) (k : Nat) (h : s.size ≤ k) : s.data.toList.take k = s.data.toList :=
  List.take_of_length_le (Nat.le_trans (Nat.le_of_eq (Array.length_toList (xs := s.data))) h)

theorem sum_any (s : ByteArray) (w : World) (hs : s.size ≤ maxLen) :
    Calls Tryz.prog 7 #[.string s] w fun e w' => e = .returned (.int .u64 (sumF s.data.toList)) ∧ w' = w := by
  unfold maxLen at hs
  go_enter Tryz.func7, Tryz.ntmps7
  go_wp2
  go_loop [3, 7] (fun n i => ∃ k : Nat, k ≤ s.size ∧ i = .int .i64 k ∧ n = .int .u64 (sumF (s.data.toList.take k))) (fun _ i => s.size - (intOf i).toNat)
  case atStart => exact ⟨0, Nat.zero_le _, rfl, rfl⟩
  case round =>
    obtain ⟨k, hk, rfl, rfl⟩ := hrel
    by_cases hlt : k < s.size
    · have HS : Hid (sumF (s.data.toList.take (k + 1)) = IntKind.u64.wrap (bits BinOp.xor IntKind.u64 (sumF (s.data.toList.take k)) (IntKind.u64.wrap s[k].toNat) * 1099511628211)) := sumF_step s k hlt
      go_wp2
      go_round
      case rel => exact ⟨k + 1, by omega, by go_num, by rw [HS.out]⟩
      case measure => simp [intOf]; omega
    · have HE : Hid (sumF (s.data.toList.take k) = sumF s.data.toList) := congrArg sumF (take_all s k (by omega))
      go_wp2
      go_ret
      exact ⟨by rw [HE.out]; rfl, rfl⟩

theorem ref_any (s : ByteArray) (w : World) (hs : s.size ≤ maxLen) :
    Calls Tryz.prog 8 #[.string s] w fun e w' => e = .returned (.int .u64 (sumF s.data.toList)) ∧ w' = w := by
  unfold maxLen at hs
  go_enter Tryz.func8, Tryz.ntmps8
  go_wp2
  go_loop [3, 4] (fun n i => ∃ k : Nat, k ≤ s.size ∧ i = .int .i64 k ∧ n = .int .u64 (sumF (s.data.toList.take k))) (fun _ i => s.size - (intOf i).toNat)
  case atStart => exact ⟨0, Nat.zero_le _, rfl, rfl⟩
  case round =>
    obtain ⟨k, hk, rfl, rfl⟩ := hrel
    by_cases hlt : k < s.size
    · have HS : Hid (sumF (s.data.toList.take (k + 1)) = IntKind.u64.wrap (bits BinOp.xor IntKind.u64 (sumF (s.data.toList.take k)) (IntKind.u64.wrap s[k].toNat) * 1099511628211)) := sumF_step s k hlt
      go_wp2
      go_round
      case rel => exact ⟨k + 1, by omega, by go_num, by rw [HS.out]⟩
      case measure => simp [intOf]; omega
    · have HE : Hid (sumF (s.data.toList.take k) = sumF s.data.toList) := congrArg sumF (take_all s k (by omega))
      go_wp2
      go_ret
      exact ⟨by rw [HE.out]; rfl, rfl⟩
end Go.Proofs.YtddgjcpngipbnaaGreat.snapNone
