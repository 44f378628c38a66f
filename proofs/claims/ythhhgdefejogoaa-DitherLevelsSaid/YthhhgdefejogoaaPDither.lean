/- Plain laws of few levels. -/
import Derived.Test.YthhhgdefejogoaaPUnit
namespace Go.AW
open Go
set_option linter.unusedVariables false
/-- a level's byte -/
def lvI (n k : Int) : Int := k * 255 / (n - 1)
def levelI (k n : Int) : Int := if (2 ≤ n ∧ n ≤ 16) ∧ 0 ≤ k ∧ k < n then lvI n k else 0
def absD (n : Int) : Int := max n (-n)
/-- the first of the nearest levels -/
structure NearP (n x k : Int) : Prop where
  k0 : 0 ≤ k
  k1 : k < n
  le : ∀ j, 0 ≤ j → j < n → absD (x - lvI n k) ≤ absD (x - lvI n j)
  lt : ∀ j, 0 ≤ j → j < k → absD (x - lvI n k) < absD (x - lvI n j)
namespace PD
theorem lv_0 (n : Int) : lvI n 0 = 0 := by unfold lvI; simp
theorem lv_last {n : Int} (h : 2 ≤ n) : lvI n (n - 1) = 255 := by unfold lvI; rw [Int.mul_comm]; exact Int.mul_ediv_cancel _ (by omega)
theorem lv_step {n k : Int} (h : 2 ≤ n) (h' : n ≤ 16) (hk : 0 ≤ k) : lvI n k + 17 ≤ lvI n (k + 1) := by
  unfold lvI
  have a := Int.mul_ediv_add_emod (k * 255) (n - 1)
  have b := Int.mul_ediv_add_emod ((k + 1) * 255) (n - 1)
  have c := Int.emod_nonneg (k * 255) (show n - 1 ≠ 0 by omega)
  have d := Int.emod_lt_of_pos (k * 255) (show 0 < n - 1 by omega)
  have e := Int.emod_nonneg ((k + 1) * 255) (show n - 1 ≠ 0 by omega)
  have f := Int.emod_lt_of_pos ((k + 1) * 255) (show 0 < n - 1 by omega)
  refine Int.le_ediv_of_mul_le (by omega) ?_
  have m : (k * 255 / (n - 1) + 17) * (n - 1) = (n - 1) * (k * 255 / (n - 1)) + 17 * (n - 1) := by grind
  omega
theorem lv_mono {n : Int} (h : 2 ≤ n) (h' : n ≤ 16) : ∀ (d : Nat) (j : Int), 0 ≤ j → lvI n j + 17 * d ≤ lvI n (j + d)
  | 0, j, _ => by simp
  | d + 1, j, hj => by
    have a := lv_mono h h' d j hj
    have b := lv_step (k := j + d) h h' (by omega)
    rw [show j + ((d + 1 : Nat) : Int) = j + d + 1 by omega]
    omega
theorem lv_lt {n j k : Int} (h : 2 ≤ n) (h' : n ≤ 16) (hj : 0 ≤ j) (hk : j < k) : lvI n j + 17 ≤ lvI n k := by
  have := lv_mono h h' (k - j).toNat j hj
  rw [show j + ((k - j).toNat : Int) = k by omega] at this
  omega
theorem lv_b {n k : Int} (h : 2 ≤ n) (h' : n ≤ 16) (hk : 0 ≤ k) (hk' : k < n) : 0 ≤ lvI n k ∧ lvI n k ≤ 255 := by
  have l := lv_last h
  constructor
  · unfold lvI; exact Int.ediv_nonneg (by omega) (by omega)
  · rcases Int.lt_or_le k (n - 1) with g | g
    · have := lv_lt h h' hk g; omega
    · rw [show k = n - 1 by omega]; omega
theorem near_uniq {n x k m : Int} (h1 : NearP n x k) (h2 : NearP n x m) : k = m := by
  rcases Int.lt_trichotomy k m with g | g | g
  · have := h2.lt k h1.k0 g; have := h1.le m h2.k0 h2.k1; omega
  · exact g
  · have := h1.lt m h2.k0 g; have := h2.le k h1.k0 h1.k1; omega
/-- what the program looks for -/
theorem near_of {n x k : Int} (h : 2 ≤ n) (h' : n ≤ 16) (k0 : 0 ≤ k) (k1 : k < n) (lo : k = 0 ∨ lvI n k ≤ x) (hi : k + 1 = n ∨ x < lvI n (k + 1)) :
    (k + 1 < n ∧ x - lvI n k > lvI n (k + 1) - x → NearP n x (k + 1)) ∧ (¬ (k + 1 < n ∧ x - lvI n k > lvI n (k + 1) - x) → NearP n x k) := by
  have z := lv_0 n
  have below : ∀ j, 0 ≤ j → j < k → lvI n j + 17 ≤ lvI n k := fun j a b => lv_lt h h' a b
  have above : ∀ j, k + 1 < j → lvI n (k + 1) + 17 ≤ lvI n j := fun j b => lv_lt h h' (by omega) b
  have st := lv_step (k := k) h h' k0
  unfold absD at *
  constructor
  · rintro ⟨g1, g2⟩
    refine ⟨by omega, g1, fun j a b => ?_, fun j a b => ?_⟩ <;> unfold absD
    · rcases Int.lt_trichotomy j k with q | q | q
      · have := below j a q; omega
      · subst q; omega
      · rcases Int.lt_or_le (k + 1) j with w | w
        · have := above j w; omega
        · rw [show j = k + 1 by omega]; omega
    · rcases Int.lt_or_le j k with q | q
      · have := below j a q; omega
      · rw [show j = k by omega]; omega
  · intro g
    refine ⟨k0, k1, fun j a b => ?_, fun j a b => ?_⟩ <;> unfold absD
    · rcases Int.lt_trichotomy j k with q | q | q
      · have := below j a q; omega
      · subst q; omega
      · rcases Int.lt_or_le (k + 1) j with w | w
        · have := above j w; omega
        · have e : j = k + 1 := by omega
          subst e; omega
    · have := below j a b; omega
theorem near_mono {n a b p q : Int} (h : 2 ≤ n) (h' : n ≤ 16) (hp : NearP n a p) (hq : NearP n b q) (hab : a ≤ b) : p ≤ q := by
  rcases Int.lt_or_le q p with g | g
  · have x := hp.lt q hq.k0 g
    have y := hq.le p hp.k0 hp.k1
    have := lv_lt h h' hq.k0 g
    unfold absD at *
    omega
  · exact g
theorem near_self {n k : Int} (h : 2 ≤ n) (h' : n ≤ 16) (k0 : 0 ≤ k) (k1 : k < n) : NearP n (lvI n k) k := by
  refine ⟨k0, k1, fun j a b => ?_, fun j a b => ?_⟩ <;> unfold absD
  · omega
  · have := lv_lt h h' a b; omega
theorem near_low {n x k : Int} (h : 2 ≤ n) (h' : n ≤ 16) (hx : x ≤ 0) (hk : NearP n x k) : k = 0 := by
  rcases Int.lt_or_le 0 k with g | g
  · have a := hk.le 0 (by omega) (by omega)
    have b := lv_lt h h' (by omega) g
    rw [lv_0] at a b
    unfold absD at a
    omega
  · have := hk.k0; omega
theorem near_high {n x k : Int} (h : 2 ≤ n) (h' : n ≤ 16) (hx : 255 ≤ x) (hk : NearP n x k) : k = n - 1 := by
  rcases Int.lt_or_le k (n - 1) with g | g
  · have a := hk.le (n - 1) (by omega) (by omega)
    have b := lv_lt h h' hk.k0 g
    rw [lv_last h] at a b
    unfold absD at a
    omega
  · have := hk.k1; omega
end PD
end Go.AW
namespace Go.AW
open Go
namespace PD
theorem lv2 (j : Int) : lvI 2 j = j * 255 := by unfold lvI; omega
theorem near2 (x : Int) : NearP 2 x (if x ≤ 127 then 0 else 1) := by
  split <;> rename_i g
  · refine ⟨by omega, by omega, fun j a b => ?_, fun j a b => by omega⟩
    rw [lv2, lv2]; unfold absD; rcases (show j = 0 ∨ j = 1 by omega) with rfl | rfl <;> omega
  · refine ⟨by omega, by omega, fun j a b => ?_, fun j a b => ?_⟩
    · rw [lv2, lv2]; unfold absD; rcases (show j = 0 ∨ j = 1 by omega) with rfl | rfl <;> omega
    · rw [lv2, lv2]; unfold absD; obtain rfl : j = 0 := by omega
      omega
end PD
end Go.AW
namespace Go.AW
open Go
namespace PD
theorem near3a : NearP 3 64 1 := by
  refine ⟨by omega, by omega, fun j a b => ?_, fun j a b => ?_⟩
  · rcases (show j = 0 ∨ j = 1 ∨ j = 2 by omega) with rfl | rfl | rfl <;> decide
  · obtain rfl : j = 0 := by omega
    decide
theorem near3b : NearP 3 63 0 := by
  refine ⟨by omega, by omega, fun j a b => ?_, fun j a b => by omega⟩
  rcases (show j = 0 ∨ j = 1 ∨ j = 2 by omega) with rfl | rfl | rfl <;> decide
end PD
end Go.AW
namespace Go.AW
open Go
namespace PD
/-- which bytes are met, in the chapter's example -/
def met2 : List (List Int) := ((List.replicate 256 [0]).set 0 [1]).set 255 [1]
theorem met2_get : ∀ m : Nat, m < 256 → (met2.getD m []).headD 0 = if m = 0 ∨ m = 255 then 1 else 0 := by decide +kernel
end PD
end Go.AW
