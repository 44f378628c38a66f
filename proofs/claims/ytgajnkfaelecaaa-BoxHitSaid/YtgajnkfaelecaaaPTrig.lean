/- Plain laws of sines. -/
import Derived.Test.YtgajnkfaelecaaaPVec
namespace Go.AW
open Go
set_option linter.unusedVariables false
/-- the sine of the first half turn -/
def bowI (h : Int) : Int := 262144 * (h * (32768 - h)) / (5368709120 - 4 * (h * (32768 - h)))
/-- a sine -/
def sinI (h : Int) : Int := if h % 65536 < 32768 then bowI (h % 65536) else -bowI (h % 65536 - 32768)
/-- a cosine -/
def cosI (h : Int) : Int := sinI (h % 65536 + 16384)
namespace PT
theorem bow_arg {h : Int} (h0 : 0 ≤ h) (h1 : h ≤ 32768) : 0 ≤ h * (32768 - h) ∧ h * (32768 - h) ≤ 268435456 := by
  refine ⟨Int.mul_nonneg h0 (by omega), ?_⟩
  have : 0 ≤ (h - 16384) * (h - 16384) := by
    by_cases k : h - 16384 < 0
    · have := Int.mul_nonneg (show 0 ≤ -(h - 16384) by omega) (show 0 ≤ -(h - 16384) by omega)
      rwa [Int.neg_mul_neg] at this
    · exact Int.mul_nonneg (by omega) (by omega)
  simp only [Int.sub_mul, Int.mul_sub] at *
  omega
theorem bow_le {h : Int} (h0 : 0 ≤ h) (h1 : h ≤ 32768) : 0 ≤ bowI h ∧ bowI h ≤ 16384 := by
  obtain ⟨a0, a1⟩ := bow_arg h0 h1
  unfold bowI
  generalize h * (32768 - h) = a at *
  refine ⟨Int.ediv_nonneg (by omega) (by omega), ?_⟩
  have := Int.ediv_lt_of_lt_mul (a := 262144 * a) (b := 16385) (c := 5368709120 - 4 * a) (by omega) (by omega)
  omega
theorem sin_le (h : Int) : -16384 ≤ sinI h ∧ sinI h ≤ 16384 := by
  unfold sinI
  split
  · have := bow_le (show 0 ≤ h % 65536 by omega) (by omega); omega
  · have := bow_le (show 0 ≤ h % 65536 - 32768 by omega) (by omega); omega
theorem cos_le (h : Int) : -16384 ≤ cosI h ∧ cosI h ≤ 16384 := sin_le _
theorem mod_w (h : Int) : modI h 65536 = h % 65536 := by unfold modI; rw [if_neg (by omega)]
end PT
end Go.AW
