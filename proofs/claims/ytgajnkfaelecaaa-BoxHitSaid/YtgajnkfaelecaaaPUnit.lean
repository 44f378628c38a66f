/- Plain laws of directions. -/
import Derived.Test.YtgajnkfaelecaaaPVec
namespace Go.AW
open Go
set_option linter.unusedVariables false
/-- how far the farthest coordinate is from 0, of small ones -/
def mostA (x y z : Int) : Int := max (max (max x (-x)) (max y (-y))) (max z (-z))
/-- doubled, until it is long -/
def dblI : Nat → Int → Int → Int → Int × Int × Int
  | 0, x, y, z => (x, y, z)
  | k + 1, x, y, z => if mostA x y z < 524288 then dblI k (2 * x) (2 * y) (2 * z) else (x, y, z)
/-- halved, until it is short -/
def hlvI : Nat → Int → Int → Int → Int × Int × Int
  | 0, x, y, z => (x, y, z)
  | k + 1, x, y, z => if mostA x y z < 1048576 then (x, y, z) else hlvI k (x.tdiv 2) (y.tdiv 2) (z.tdiv 2)
def evenI (x y z : Int) : Int × Int × Int := hlvI 64 (dblI 20 x y z).1 (dblI 20 x y z).2.1 (dblI 20 x y z).2.2
def lenI (x y z : Int) : Int := rootI (dotI x y z x y z)
def okI (x y z : Int) : Bool := decide (1 ≤ mostI x y z ∧ mostI x y z ≤ 4611686018427387904)
def uni1 (n l : Int) : Int := (n * 16384).tdiv l
def uniE (e : Int × Int × Int) : Int × Int × Int := (uni1 e.1 (lenI e.1 e.2.1 e.2.2), uni1 e.2.1 (lenI e.1 e.2.1 e.2.2), uni1 e.2.2 (lenI e.1 e.2.1 e.2.2))
def unitI (x y z : Int) : Int × Int × Int := if okI x y z = true then uniE (evenI x y z) else (0, 0, 0)
namespace PU
theorem most_A_le {x y z n : Int} : mostA x y z ≤ n ↔ ((-n ≤ x ∧ x ≤ n) ∧ (-n ≤ y ∧ y ≤ n) ∧ (-n ≤ z ∧ z ≤ n)) := by unfold mostA; omega
theorem most_A_pos {x y z : Int} : 0 ≤ mostA x y z := by unfold mostA; omega
theorem most_0 (x y z : Int) : 0 ≤ mostI x y z := by
  unfold mostI
  have s1 := mx_spec 0 x
  generalize mmI true 0 x = a1 at *
  have s2 := mx_spec a1 (timesI x (-1))
  generalize mmI true a1 _ = a2 at *
  have s3 := mx_spec a2 y
  generalize mmI true a2 y = a3 at *
  have s4 := mx_spec a3 (timesI y (-1))
  generalize mmI true a3 _ = a4 at *
  have s5 := mx_spec a4 z
  generalize mmI true a4 z = a5 at *
  have s6 := mx_spec a5 (timesI z (-1))
  generalize mmI true a5 _ = a6 at *
  omega
theorem most_I {x y z : Int} (h : mostA x y z ≤ 9223372036854775806) : mostI x y z = mostA x y z := by
  have h0 := most_A_le.1 h
  have hx : I64 x := by unfold I64; omega
  have hy : I64 y := by unfold I64; omega
  have hz : I64 z := by unfold I64; omega
  have a := (PV.most_spec hx hy hz (n := mostA x y z) most_A_pos (by omega)).2 (most_A_le.1 (Int.le_refl _))
  have b := most_A_le.2 ((PV.most_spec hx hy hz (n := mostI x y z) (most_0 x y z) (by omega)).1 (Int.le_refl _))
  omega
theorem ok_A {x y z : Int} (hx : I64 x) (hy : I64 y) (hz : I64 z) (h : okI x y z = true) : mostI x y z = mostA x y z ∧ 1 ≤ mostA x y z ∧ mostA x y z ≤ 4611686018427387904 := by
  unfold okI at h
  rw [decide_eq_true_iff] at h
  have a := most_A_le.2 ((PV.most_spec hx hy hz (n := mostI x y z) (by omega) (by omega)).1 (Int.le_refl _))
  have b := most_I (show mostA x y z ≤ _ by omega)
  omega
theorem ok_w {x y z : Int} (hx : I64 x) (hy : I64 y) (hz : I64 z) : okI x y z = (!(!decide ((-4611686018427387904 ≤ x ∧ x ≤ 4611686018427387904) ∧ (-4611686018427387904 ≤ y ∧ y ≤ 4611686018427387904) ∧ (-4611686018427387904 ≤ z ∧ z ≤ 4611686018427387904)) || decide ((-0 ≤ x ∧ x ≤ 0) ∧ (-0 ≤ y ∧ y ≤ 0) ∧ (-0 ≤ z ∧ z ≤ 0)))) := by
  have a := PV.most_spec hx hy hz (n := 4611686018427387904) (by omega) (by omega)
  have b := PV.most_spec hx hy hz (n := 0) (by omega) (by omega)
  have c := most_0 x y z
  unfold okI
  rw [Bool.eq_iff_iff, Bool.not_eq_true', Bool.or_eq_false_iff, Bool.not_eq_false', decide_eq_true_iff, decide_eq_true_iff, decide_eq_false_iff_not, ← a, ← b]
  omega
theorem toward {a b : Int} (hb : 1 ≤ b) : (if a < 0 then -divI (-a) b else divI a b) = a.tdiv b := by
  have e : ∀ c : Int, divI c b = c / b := fun c => by unfold divI; exact if_neg (by omega)
  rw [e, e]
  split
  · rw [← Int.tdiv_eq_ediv_of_nonneg (by omega), Int.neg_tdiv]; omega
  · rw [Int.tdiv_eq_ediv_of_nonneg (by omega)]
theorem half_le {x n : Int} (h : -(2 * n + 1) ≤ x ∧ x ≤ 2 * n + 1) : -n ≤ x.tdiv 2 ∧ x.tdiv 2 ≤ n := by
  by_cases g : 0 ≤ x
  · rw [Int.tdiv_eq_ediv_of_nonneg g]; omega
  · have : x.tdiv 2 = -((-x) / 2) := by rw [← Int.tdiv_eq_ediv_of_nonneg (by omega), Int.neg_tdiv]; omega
    rw [this]; omega
theorem most_half_lt {x y z n : Int} (h : mostA x y z < 2 * n) (hn : 1 ≤ n) : mostA (x.tdiv 2) (y.tdiv 2) (z.tdiv 2) < n := by
  have h0 := most_A_le.1 (show mostA x y z ≤ 2 * (n - 1) + 1 by omega)
  have := most_A_le.2 ⟨half_le h0.1, half_le h0.2.1, half_le h0.2.2⟩
  omega
theorem half_ge {x y z n : Int} (h : 2 * n ≤ mostA x y z) (hn : 0 ≤ n) : n ≤ mostA (x.tdiv 2) (y.tdiv 2) (z.tdiv 2) := by
  have q : ∀ t : Int, 2 * max (t.tdiv 2) (-(t.tdiv 2)) + 1 ≥ max t (-t) := by
    intro t
    by_cases g : 0 ≤ t
    · rw [Int.tdiv_eq_ediv_of_nonneg g]; omega
    · have : t.tdiv 2 = -((-t) / 2) := by rw [← Int.tdiv_eq_ediv_of_nonneg (by omega), Int.neg_tdiv]; omega
      rw [this]; omega
  have q1 := q x; have q2 := q y; have q3 := q z
  unfold mostA at *
  omega
theorem most_dbl {x y z : Int} : mostA (2 * x) (2 * y) (2 * z) = 2 * mostA x y z := by unfold mostA; omega
theorem dbl_spec : ∀ (k : Nat) (x y z : Int), 524288 ≤ mostA x y z * 2 ^ k → 524288 ≤ mostA (dblI k x y z).1 (dblI k x y z).2.1 (dblI k x y z).2.2 ∧ (mostA (dblI k x y z).1 (dblI k x y z).2.1 (dblI k x y z).2.2 < 1048576 ∨ dblI k x y z = (x, y, z))
  | 0, x, y, z, h => by rw [show (2 : Int) ^ 0 = 1 from rfl] at h; exact ⟨by show 524288 ≤ mostA x y z; omega, .inr rfl⟩
  | k + 1, x, y, z, h => by
    unfold dblI
    split
    · rename_i g
      have := dbl_spec k (2 * x) (2 * y) (2 * z) (by rw [most_dbl]; rw [show (2 : Int) ^ (k + 1) = 2 ^ k * 2 from Int.pow_succ ..] at h; rw [Int.mul_comm 2, Int.mul_assoc, Int.mul_comm 2]; exact h)
      refine ⟨this.1, this.2.elim .inl (fun e => .inl ?_)⟩
      rw [e]; show mostA (2 * x) (2 * y) (2 * z) < _; rw [most_dbl]; omega
    · exact ⟨by show 524288 ≤ mostA x y z; omega, .inr rfl⟩
theorem hlv_spec : ∀ (k : Nat) (x y z : Int), 524288 ≤ mostA x y z → mostA x y z < 1048576 * 2 ^ k → 524288 ≤ mostA (hlvI k x y z).1 (hlvI k x y z).2.1 (hlvI k x y z).2.2 ∧ mostA (hlvI k x y z).1 (hlvI k x y z).2.1 (hlvI k x y z).2.2 < 1048576
  | 0, x, y, z, h, h' => by rw [show (2 : Int) ^ 0 = 1 from rfl] at h'; exact ⟨h, by show mostA x y z < _; omega⟩
  | k + 1, x, y, z, h, h' => by
    unfold hlvI
    split
    · rename_i g; exact ⟨h, g⟩
    · have p : (1 : Int) ≤ 2 ^ k := Int.pow_pos (by omega)
      rw [show (2 : Int) ^ (k + 1) = 2 ^ k * 2 from Int.pow_succ ..] at h'
      exact hlv_spec k _ _ _ (half_ge (by omega) (by omega)) (most_half_lt (by omega) (by omega))
theorem even_spec {x y z : Int} (h1 : 1 ≤ mostA x y z) (h2 : mostA x y z ≤ 4611686018427387904) : 524288 ≤ mostA (evenI x y z).1 (evenI x y z).2.1 (evenI x y z).2.2 ∧ mostA (evenI x y z).1 (evenI x y z).2.1 (evenI x y z).2.2 < 1048576 := by
  have d := dbl_spec 20 x y z (by have : (2 : Int) ^ 20 = 1048576 := rfl; omega)
  refine hlv_spec 64 _ _ _ d.1 ?_
  have : (2 : Int) ^ 64 = 18446744073709551616 := rfl
  rcases d.2 with e | e
  · omega
  · rw [e]; show mostA x y z < _; omega
theorem near_A {x y z : Int} (h : mostA x y z < 1048576) : nearI x y z = true := by
  rw [PV.near_iff]; have := most_A_le.1 (show mostA x y z ≤ 1048576 by omega); exact this
theorem sq_nonneg (a : Int) : 0 ≤ a * a := by
  rcases Int.le_total 0 a with h | h
  · exact Int.mul_nonneg h h
  · have := Int.mul_nonneg (show 0 ≤ -a by omega) (show 0 ≤ -a by omega); rw [Int.neg_mul_neg] at this; exact this
theorem dot_A {x y z : Int} (h : nearI x y z = true) : dotI x y z x y z = x * x + y * y + z * z := by unfold dotI; rw [if_pos ⟨h, h⟩]
theorem dot_0 (x y z : Int) : 0 ≤ dotI x y z x y z := by
  unfold dotI; split
  · have := sq_nonneg x; have := sq_nonneg y; have := sq_nonneg z; omega
  · omega
theorem len_spec {x y z : Int} : PN.Root (dotI x y z x y z) (lenI x y z) := PN.root_I (dot_0 ..) (by have := PV.dot_i x y z x y z; omega)
theorem len_lo {x y z : Int} (h1 : 524288 ≤ mostA x y z) (h2 : mostA x y z < 1048576) : 524288 ≤ lenI x y z ∧ lenI x y z < 4294967296 := by
  have r := len_spec (x := x) (y := y) (z := z)
  refine ⟨?_, PN.root_hi (dot_0 ..) (by have := PV.dot_i x y z x y z; omega)⟩
  have d := dot_A (near_A h2)
  have sx := sq_nonneg x; have sy := sq_nonneg y; have sz := sq_nonneg z
  have q : ∀ t : Int, 524288 ≤ t ∨ t ≤ -524288 → 274877906944 ≤ t * t := by
    intro t ht
    rcases ht with ht | ht
    · have := Int.mul_le_mul ht ht (by omega) (by omega); omega
    · have := Int.mul_le_mul (show 524288 ≤ -t by omega) (show 524288 ≤ -t by omega) (by omega) (by omega)
      rw [Int.neg_mul_neg] at this; omega
  have big : 274877906944 ≤ dotI x y z x y z := by
    rw [d]
    have : (524288 ≤ x ∨ x ≤ -524288) ∨ (524288 ≤ y ∨ y ≤ -524288) ∨ (524288 ≤ z ∨ z ≤ -524288) := by unfold mostA at h1; omega
    rcases this with h | h | h
    · have := q x h; omega
    · have := q y h; omega
    · have := q z h; omega
  rcases Int.lt_or_le (lenI x y z) 524288 with g | g
  · exfalso
    have a := r.lt; have b := r.pos
    have := PN.sq_le (show 0 ≤ lenI x y z + 1 by omega) (show lenI x y z + 1 ≤ 524288 by omega)
    omega
  · exact g
theorem len_ge {x y z : Int} (h : nearI x y z = true) : (-lenI x y z ≤ x ∧ x ≤ lenI x y z) ∧ (-lenI x y z ≤ y ∧ y ≤ lenI x y z) ∧ (-lenI x y z ≤ z ∧ z ≤ lenI x y z) := by
  have r := len_spec (x := x) (y := y) (z := z)
  rw [dot_A h] at r
  have a := r.lt; have b := r.pos
  have sx := sq_nonneg x; have sy := sq_nonneg y; have sz := sq_nonneg z
  have q : ∀ t : Int, t * t ≤ x * x + y * y + z * z → -lenI x y z ≤ t ∧ t ≤ lenI x y z := by
    intro t ht
    constructor
    · rcases Int.lt_or_le t (-lenI x y z) with g | g
      · have := PN.sq_le (show 0 ≤ lenI x y z + 1 by omega) (show lenI x y z + 1 ≤ -t by omega)
        rw [Int.neg_mul_neg] at this; omega
      · exact g
    · rcases Int.lt_or_le (lenI x y z) t with g | g
      · have := PN.sq_le (show 0 ≤ lenI x y z + 1 by omega) (show lenI x y z + 1 ≤ t by omega)
        omega
      · exact g
  exact ⟨q x (by omega), q y (by omega), q z (by omega)⟩
theorem uni_le {n l : Int} (hl : 1 ≤ l) (h : -l ≤ n ∧ n ≤ l) : -16384 ≤ uni1 n l ∧ uni1 n l ≤ 16384 := by
  unfold uni1
  by_cases g : 0 ≤ n
  · rw [Int.tdiv_eq_ediv_of_nonneg (by omega)]
    exact ⟨Int.le_trans (by omega) (Int.ediv_nonneg (by omega) (by omega)), Int.ediv_le_of_le_mul (by omega) (by omega)⟩
  · have e : (n * 16384).tdiv l = -((-n * 16384) / l) := by
      rw [← Int.tdiv_eq_ediv_of_nonneg (by omega), show n * 16384 = -(-n * 16384) by omega, Int.neg_tdiv]
    rw [e]
    have a := Int.ediv_nonneg (show 0 ≤ -n * 16384 by omega) (show 0 ≤ l by omega)
    have b : (-n * 16384) / l ≤ 16384 := Int.ediv_le_of_le_mul (by omega) (by omega)
    omega
/-- a direction's coordinates -/
theorem unit_le {x y z : Int} (hx : I64 x) (hy : I64 y) (hz : I64 z) : (-16384 ≤ (unitI x y z).1 ∧ (unitI x y z).1 ≤ 16384) ∧ (-16384 ≤ (unitI x y z).2.1 ∧ (unitI x y z).2.1 ≤ 16384) ∧ (-16384 ≤ (unitI x y z).2.2 ∧ (unitI x y z).2.2 ≤ 16384) := by
  unfold unitI
  split
  · rename_i h
    obtain ⟨a1, a2, a3⟩ := ok_A hx hy hz h
    obtain ⟨m1, m2⟩ := even_spec a2 a3
    obtain ⟨l0, l1⟩ := len_lo m1 m2
    obtain ⟨g1, g2, g3⟩ := len_ge (near_A m2)
    exact ⟨uni_le (by omega) g1, uni_le (by omega) g2, uni_le (by omega) g3⟩
  · exact ⟨by decide, by decide, by decide⟩
theorem unit_near {x y z p q b : Int} (hx : I64 x) (hy : I64 y) (hz : I64 z) (h : (p, q, b) = unitI x y z) : (-16384 ≤ p ∧ p ≤ 16384) ∧ (-16384 ≤ q ∧ q ≤ 16384) ∧ (-16384 ≤ b ∧ b ≤ 16384) := by
  have := unit_le hx hy hz; rw [← h] at this; exact this
end PU
end Go.AW
