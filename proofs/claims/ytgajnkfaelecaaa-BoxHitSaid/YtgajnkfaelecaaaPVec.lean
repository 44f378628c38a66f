/- Plain laws of vectors. -/
import Derived.Test.YtgajnkfaelecaaaPWide
namespace Go.AW
open Go
set_option linter.unusedVariables false
/-- is a vector near? -/
def nearI (x y z : Int) : Bool := decide ((-1048576 ≤ x ∧ x ≤ 1048576) ∧ (-1048576 ≤ y ∧ y ≤ 1048576) ∧ (-1048576 ≤ z ∧ z ≤ 1048576))
/-- what vectors have alike -/
def dotI (a b c x y z : Int) : Int := if nearI a b c = true ∧ nearI x y z = true then a * x + b * y + c * z else 0
/-- how far the farthest coordinate is from 0 -/
def mostI (x y z : Int) : Int := mmI true (mmI true (mmI true (mmI true (mmI true (mmI true 0 x) (timesI x (-1))) y) (timesI y (-1))) z) (timesI z (-1))
namespace PV
theorem near_iff {x y z : Int} : nearI x y z = true ↔ ((-1048576 ≤ x ∧ x ≤ 1048576) ∧ (-1048576 ≤ y ∧ y ≤ 1048576) ∧ (-1048576 ≤ z ∧ z ≤ 1048576)) := by unfold nearI; rw [decide_eq_true_iff]
theorem times_neg {x : Int} (h : I64 x) : timesI x (-1) = if x = -9223372036854775808 then 9223372036854775807 else -x := by
  unfold I64 at h; unfold timesI; split <;> (try split) <;> (try split) <;> omega
theorem most_spec {x y z : Int} (hx : I64 x) (hy : I64 y) (hz : I64 z) {n : Int} (hn : 0 ≤ n) (hn' : n < 9223372036854775807) : mostI x y z ≤ n ↔ ((-n ≤ x ∧ x ≤ n) ∧ (-n ≤ y ∧ y ≤ n) ∧ (-n ≤ z ∧ z ≤ n)) := by
  unfold mostI
  have t1 := times_neg hx; have t2 := times_neg hy; have t3 := times_neg hz
  generalize timesI x (-1) = p at *
  generalize timesI y (-1) = q at *
  generalize timesI z (-1) = r at *
  have s1 := mx_spec 0 x
  generalize mmI true 0 x = a1 at *
  have s2 := mx_spec a1 p
  generalize mmI true a1 p = a2 at *
  have s3 := mx_spec a2 y
  generalize mmI true a2 y = a3 at *
  have s4 := mx_spec a3 q
  generalize mmI true a3 q = a4 at *
  have s5 := mx_spec a4 z
  generalize mmI true a4 z = a5 at *
  have s6 := mx_spec a5 r
  generalize mmI true a5 r = a6 at *
  unfold I64 at *
  have u1 : p = -x ∨ (x = -9223372036854775808 ∧ p = 9223372036854775807) := by split at t1 <;> omega
  have u2 : q = -y ∨ (y = -9223372036854775808 ∧ q = 9223372036854775807) := by split at t2 <;> omega
  have u3 : r = -z ∨ (z = -9223372036854775808 ∧ r = 9223372036854775807) := by split at t3 <;> omega
  clear t1 t2 t3
  have up : a6 ≤ n ↔ (x ≤ n ∧ p ≤ n ∧ y ≤ n ∧ q ≤ n ∧ z ≤ n ∧ r ≤ n) := by
    clear u1 u2 u3 hx hy hz
    constructor
    · intro h; refine ⟨?_, ?_, ?_, ?_, ?_, ?_⟩ <;> omega
    · rintro ⟨h1, h2, h3, h4, h5, h6⟩
      rcases s6.2.2 with e | e <;> rcases s5.2.2 with e | e <;> rcases s4.2.2 with e | e <;> rcases s3.2.2 with e | e <;> rcases s2.2.2 with e | e <;> rcases s1.2.2 with e | e <;> omega
  rw [up]
  clear up s1 s2 s3 s4 s5 s6
  rcases u1 with u1 | u1 <;> rcases u2 with u2 | u2 <;> rcases u3 with u3 | u3 <;> omega
theorem most_near {x y z : Int} (hx : I64 x) (hy : I64 y) (hz : I64 z) : decide (mostI x y z ≤ 1048576) = nearI x y z := by
  unfold nearI
  exact decide_eq_decide.2 (most_spec hx hy hz (by omega) (by omega))
theorem mul_le {a b A B : Int} (ha : -A ≤ a ∧ a ≤ A) (hb : -B ≤ b ∧ b ≤ B) : -(A * B) ≤ a * b ∧ a * b ≤ A * B := by
  have hA : 0 ≤ A := by omega
  have hB : 0 ≤ B := by omega
  have h1 := Int.mul_nonneg (show 0 ≤ A - a by omega) (show 0 ≤ B + b by omega)
  have h2 := Int.mul_nonneg (show 0 ≤ A + a by omega) (show 0 ≤ B - b by omega)
  have h3 := Int.mul_nonneg (show 0 ≤ A - a by omega) (show 0 ≤ B - b by omega)
  have h4 := Int.mul_nonneg (show 0 ≤ A + a by omega) (show 0 ≤ B + b by omega)
  simp only [Int.sub_mul, Int.mul_sub, Int.add_mul, Int.mul_add] at h1 h2 h3 h4
  omega
theorem dot_le {a b c x y z : Int} (h1 : nearI a b c = true) (h2 : nearI x y z = true) : (-1099511627776 ≤ a * x ∧ a * x ≤ 1099511627776) ∧ (-1099511627776 ≤ b * y ∧ b * y ≤ 1099511627776) ∧ (-1099511627776 ≤ c * z ∧ c * z ≤ 1099511627776) := by
  rw [near_iff] at h1 h2
  have m1 := mul_le h1.1 h2.1; have m2 := mul_le h1.2.1 h2.2.1; have m3 := mul_le h1.2.2 h2.2.2
  omega
theorem dot_i (a b c x y z : Int) : -3298534883328 ≤ dotI a b c x y z ∧ dotI a b c x y z ≤ 3298534883328 := by
  unfold dotI; split
  · rename_i h; have := dot_le h.1 h.2; omega
  · omega
theorem dd_i (a b c x y z : Int) : -201326592 ≤ divI (dotI a b c x y z) 16384 ∧ divI (dotI a b c x y z) 16384 ≤ 201326592 := by
  have := dot_i a b c x y z
  unfold divI; rw [if_neg (by omega)]; omega
theorem dd_I (a b c x y z : Int) : I64 (divI (dotI a b c x y z) 16384) := by have := dd_i a b c x y z; unfold I64; omega
theorem dd_eq {a b c x y z : Int} (h1 : nearI a b c = true) (h2 : nearI x y z = true) : divI (dotI a b c x y z) 16384 = (a * x + b * y + c * z) / 16384 := by
  unfold divI dotI; rw [if_neg (by omega), if_pos ⟨h1, h2⟩]
theorem plus_eq {a b : Int} (ha : -4611686018427387904 ≤ a ∧ a ≤ 4611686018427387903) (hb : -4611686018427387904 ≤ b ∧ b ≤ 4611686018427387903) : plusI a b = a + b := by
  unfold plusI; rw [if_neg (by omega), if_neg (by omega)]
end PV
end Go.AW
