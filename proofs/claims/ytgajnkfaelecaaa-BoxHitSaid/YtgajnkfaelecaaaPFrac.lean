/- Plain laws of fractions. -/
import Derived.Test.YtgajnkfaelecaaaPWide
namespace Go.AW
open Go
set_option linter.unusedVariables false
/-- fractions held against one another; 2: one may not be -/
def heldF (n d m e : Int) : Int := if d > 0 ∧ e > 0 then cmp3 (n * e) (m * d) else 2
/-- a number between the least and the greatest of 64 bits -/
def clampI (q : Int) : Int := if q < -9223372036854775808 then -9223372036854775808 else if q > 9223372036854775807 then 9223372036854775807 else q
/-- a part of a number -/
def atF (v n d : Int) : Int := if d > 0 then clampI (v * n / d) else 0
/-- the fraction of two numbers -/
def makeF (n d : Int) : Int × Int × Bool := if d = 0 ∨ n = -9223372036854775808 ∨ d = -9223372036854775808 then (0, 0, false) else if d < 0 then (-n, -d, true) else (n, d, true)
/-- may a fraction be, of small numbers? -/
def smallF (n d : Int) : Prop := 1 ≤ d ∧ d ≤ 2147483648 ∧ -2147483648 ≤ n ∧ n ≤ 2147483648
instance (n d : Int) : Decidable (smallF n d) := by unfold smallF; infer_instance
namespace PF
theorem held_lt {n d m e : Int} (hd : d > 0) (he : e > 0) : heldF n d m e < 0 ↔ n * e < m * d := by
  unfold heldF cmp3; rw [if_pos ⟨hd, he⟩]; split <;> (try split) <;> omega
theorem held_eq {n d m e : Int} (hd : d > 0) (he : e > 0) : heldF n d m e = 0 ↔ n * e = m * d := by
  unfold heldF cmp3; rw [if_pos ⟨hd, he⟩]; split <;> (try split) <;> omega
theorem sw (a b c : Int) : a * b * c = a * c * b := by rw [Int.mul_assoc, Int.mul_comm b c, ← Int.mul_assoc]
theorem lt_trans {n d m e k f : Int} (hd : d > 0) (he : e > 0) (hf : f > 0) (h1 : n * e < m * d) (h2 : m * f < k * e) : n * f < k * d := by
  have a1 := Int.mul_lt_mul_of_pos_right h1 hf
  have a2 := Int.mul_lt_mul_of_pos_right h2 hd
  rw [sw n e f, sw m d f] at a1
  rw [sw k e d] at a2
  exact Int.lt_of_mul_lt_mul_right (a := e) (by omega) (Int.le_of_lt he)
theorem eq_lt {n d m e k f : Int} (hd : d > 0) (he : e > 0) (hf : f > 0) (h1 : n * e = m * d) : n * f < k * d ↔ m * f < k * e := by
  have a1 : n * f * e = m * f * d := by rw [sw n f e, h1, sw m d f]
  constructor
  · intro q
    have a2 := Int.mul_lt_mul_of_pos_right q he
    rw [a1, sw k d e] at a2
    exact Int.lt_of_mul_lt_mul_right a2 (Int.le_of_lt hd)
  · intro q
    have a2 := Int.mul_lt_mul_of_pos_right q hd
    rw [← a1, sw k e d] at a2
    exact Int.lt_of_mul_lt_mul_right a2 (Int.le_of_lt he)
theorem clamp_mono {a b : Int} (h : a ≤ b) : clampI a ≤ clampI b := by unfold clampI; split <;> split <;> (try split) <;> (try split) <;> omega
theorem at_mono {v n d m e : Int} (hv : 0 ≤ v) (hd : d > 0) (he : e > 0) (h : n * e ≤ m * d) : atF v n d ≤ atF v m e := by
  unfold atF
  rw [if_pos hd, if_pos he]
  refine clamp_mono ((PW.div_ge he).2 ?_)
  have a1 := (PW.div_ge (n := v * n) (k := v * n / d) hd).1 (Int.le_refl _)
  generalize v * n / d = q at *
  have a2 := Int.mul_le_mul_of_nonneg_right a1 (Int.le_of_lt he)
  have a3 := Int.mul_le_mul_of_nonneg_left h hv
  rw [Int.mul_assoc] at a2
  rw [← Int.mul_assoc v m d] at a3
  rw [Int.mul_assoc v n e] at a2
  have a4 : q * e * d ≤ v * m * d := by rw [sw q e d, Int.mul_assoc q d e]; omega
  exact Int.le_of_mul_le_mul_right a4 hd
theorem at_eq {v n d m e : Int} (hv : 0 ≤ v) (hd : d > 0) (he : e > 0) (h : n * e = m * d) : atF v n d = atF v m e :=
  Int.le_antisymm (at_mono hv hd he (Int.le_of_eq h)) (at_mono hv he hd (Int.le_of_eq h.symm))
theorem at_self {n d : Int} (hd : d > 0) (h : I64 n) : atF d n d = n := by
  unfold atF clampI I64 at *
  rw [if_pos hd, Int.mul_ediv_cancel_left _ (by omega), if_neg (by omega), if_neg (by omega)]
theorem at_same {v n d P : Int} (hd : d > 0) (h0 : 0 ≤ P) (e : v * n = P) : (9223372036854775808 ≤ P / d → atF v n d = 9223372036854775807) ∧ (P / d < 9223372036854775808 → atF v n d = P / d) := by
  have a0 : 0 ≤ P / d := Int.ediv_nonneg h0 (by omega)
  unfold atF clampI
  rw [if_pos hd, e]
  generalize P / d = q at *
  constructor <;> intro h
  · rw [if_neg (by omega), if_pos (by omega)]
  · rw [if_neg (by omega), if_neg (by omega)]
theorem at_diff {v n d P : Int} (hd : d > 0) (h0 : 0 < P) (e : v * n = -P) : (9223372036854775808 ≤ P / d → atF v n d = -9223372036854775808) ∧ (P / d < 9223372036854775808 → P / d * d = P → atF v n d = -(P / d)) ∧ (P / d < 9223372036854775808 → P / d * d ≠ P → atF v n d = -(P / d) - 1) := by
  have a0 : 0 ≤ P / d := Int.ediv_nonneg (by omega) (by omega)
  have a1 := (PW.div_ge (n := P) (k := P / d) hd).1 (Int.le_refl _)
  have a2 := (PW.div_lt (n := P) (k := P / d + 1) hd).1 (by omega)
  unfold atF clampI
  rw [if_pos hd, e]
  generalize P / d = q at *
  have a3 : (q + 1) * d = q * d + d := by rw [Int.add_mul, Int.one_mul]
  have b1 : q * d = P → -P / d = -q := by
    intro k
    refine Int.le_antisymm ?_ ?_
    · have : -P / d < -q + 1 := by rw [PW.div_lt hd, Int.add_mul, Int.neg_mul, Int.one_mul]; omega
      omega
    · rw [PW.div_ge hd, Int.neg_mul]; omega
  have b2 : q * d ≠ P → -P / d = -q - 1 := by
    intro k
    refine Int.le_antisymm ?_ ?_
    · have : -P / d < -q := by rw [PW.div_lt hd, Int.neg_mul]; omega
      omega
    · rw [PW.div_ge hd, Int.sub_mul, Int.neg_mul, Int.one_mul]; omega
  refine ⟨fun h => ?_, fun h k => ?_, fun h k => ?_⟩
  · by_cases k : q * d = P
    · rw [b1 k]; split <;> (try split) <;> omega
    · rw [b2 k]; split <;> (try split) <;> omega
  · rw [b1 k, if_neg (by omega), if_neg (by omega)]
  · rw [b2 k, if_neg (by omega), if_neg (by omega)]
end PF
end Go.AW
