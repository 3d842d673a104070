/- Pieces of the run: each carried out by the kernel. -/
import Derived.Test.YtddgjcpngipbnaaGreatS
import Derived.KernelRfl
namespace Go.Proofs.YtddgjcpngipbnaaGreat.snapNone
open Go Go.PB Go.PB.W
set_option linter.unusedVariables false

theorem mixed : Tryz.prog.follows .mixedOrders = true := Checked.mixed Tryz.checked
theorem does7 (s : List UInt8) (hs : s.length ≤ maxLen) : Does Tryz.prog 7 [.str s] (.int .u64 (sumF s)) := by
  intro g w as' ha
  obtain ⟨v, h1, h2⟩ := VRels.one ha
  simp only [VRel] at h2
  subst h2
  have : as' = #[.string ⟨s.toArray⟩] := by apply Array.ext'; simpa using h1
  subst this
  refine (sum_any ⟨s.toArray⟩ w (by simpa [ByteArray.size] using hs)).mono ?_
  rintro e w' ⟨rfl, rfl⟩
  exact ⟨_, rfl, by simp [VRel], Kept.refl _⟩
theorem does8 (s : List UInt8) (hs : s.length ≤ maxLen) : Does Tryz.prog 8 [.str s] (.int .u64 (sumF s)) := by
  intro g w as' ha
  obtain ⟨v, h1, h2⟩ := VRels.one ha
  simp only [VRel] at h2
  subst h2
  have : as' = #[.string ⟨s.toArray⟩] := by apply Array.ext'; simpa using h1
  subst this
  refine (ref_any ⟨s.toArray⟩ w (by simpa [ByteArray.size] using hs)).mono ?_
  rintro e w' ⟨rfl, rfl⟩
  exact ⟨_, rfl, by simp [VRel], Kept.refl _⟩

theorem C0 (s : List UInt8) : Go.PB.Comes Tryz.prog 3 [.str s] (S0 s) := comes_first (by kernel_rfl)
theorem R1 (s : List UInt8) : runC Tryz.prog [] 100000 471 [2, 6, 9] (S0 s) = some (S1 s) := by kernel_rfl
theorem C1 (s : List UInt8) (hs : s.length ≤ maxLen) : Go.PB.Comes Tryz.prog 3 [.str s] (S1 s) := comes_next mixed (C0 s) (R1 s)

theorem I2 (s : List UInt8) : enterB Tryz.prog 7 [.str s] .normal = some (S1 s).fr := by kernel_rfl
theorem R2 (s : List UInt8) : backC (S1 s) (.int .u64 (sumF s)) = some (S2 s) := by kernel_rfl
theorem C2 (s : List UInt8) (hs : s.length ≤ maxLen) : Go.PB.Comes Tryz.prog 3 [.str s] (S2 s) := comes_call (C1 s hs) (I2 s) (does7 s hs) (R2 s)

theorem R3 (s : List UInt8) : runC Tryz.prog [] 100000 2 [2, 6, 9] (S2 s) = some (S3 s) := by kernel_rfl
theorem C3 (s : List UInt8) (hs : s.length ≤ maxLen) : Go.PB.Comes Tryz.prog 3 [.str s] (S3 s) := comes_next mixed (C2 s hs) (R3 s)

theorem I4 (s : List UInt8) : enterB Tryz.prog 8 [.str s] .normal = some (S3 s).fr := by kernel_rfl
theorem R4 (s : List UInt8) : backC (S3 s) (.int .u64 (sumF s)) = some (S4 s) := by kernel_rfl
theorem C4 (s : List UInt8) (hs : s.length ≤ maxLen) : Go.PB.Comes Tryz.prog 3 [.str s] (S4 s) := comes_call (C3 s hs) (I4 s) (does8 s hs) (R4 s)

theorem R5 (s : List UInt8) : runC Tryz.prog [] 100000 1 [2, 6, 9] (S4 s) = some (S5 s (sumF s == sumF s)) := by kernel_rfl
theorem C5 (s : List UInt8) (hs : s.length ≤ maxLen) : Go.PB.Comes Tryz.prog 3 [.str s] (S5 s true) := by
  have h := comes_next mixed (C4 s hs) (R5 s)
  rwa [beq_self_eq_true] at h

theorem R6 (s : List UInt8) : runC Tryz.prog [] 100000 4000 [2, 6, 9, 11, 12, 13, 14, 15, 56, 57, 58, 60, 61, 62] (S5 s true) = some (S6 s) := by kernel_rfl
theorem C6 (s : List UInt8) (hs : s.length ≤ maxLen) : Go.PB.Comes Tryz.prog 3 [.str s] (S6 s) := comes_next mixed (C5 s hs) (R6 s)

theorem E (s : List UInt8) : endC Tryz.prog [] 100000 2769 3 (S6 s) = true := by kernel_rfl

theorem walk (s : ByteArray) (hs : s.size ≤ maxLen) (w : World) : Calls Tryz.prog 3 #[.string s] w fun e w' => e = .returned (.bool true) ∧ Kept w w' :=
  comes_end mixed (C6 s.data.toList (by rw [Array.length_toList]; exact hs)) (E s.data.toList) w #[.string s] (VRels.cons (by simp [VRel]) VRels.nil)
end Go.Proofs.YtddgjcpngipbnaaGreat.snapNone
