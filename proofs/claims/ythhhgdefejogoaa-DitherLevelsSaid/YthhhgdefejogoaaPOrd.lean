/- Plain laws of pictures whose errors are hidden by a pattern. -/
import Derived.Test.YthhhgdefejogoaaPCount
namespace Go.AW
open Go
set_option linter.unusedVariables false
/-- the pattern's entry -/
def patI (x y : Int) : Int := ([0, 8, 2, 10, 12, 4, 14, 6, 3, 11, 1, 9, 15, 7, 13, 5] : List Int).getD (y * 4 + x).toNat 0
/-- a place's offset -/
def offI (n x y : Int) : Int := (2 * patI x y - 15) * 255 / (32 * (n - 1))
noncomputable def ordRow (n W : Int) (i : Nat) (r : List Int) : List Int := r.map fun v => atN n (v + offI n ((i : Int) % W % 4) ((i : Int) / W % 4))
noncomputable def ordR (n W : Int) (rows : List (List Int)) : List (List Int) := rows.mapIdx fun i r => ordRow n W i r
namespace PD
theorem pat_b {x y : Int} (hx : 0 ≤ x ∧ x < 4) (hy : 0 ≤ y ∧ y < 4) : 0 ≤ patI x y ∧ patI x y ≤ 15 := by
  rcases (show x = 0 ∨ x = 1 ∨ x = 2 ∨ x = 3 by omega) with rfl | rfl | rfl | rfl <;> rcases (show y = 0 ∨ y = 1 ∨ y = 2 ∨ y = 3 by omega) with rfl | rfl | rfl | rfl <;> decide
theorem off_b {n x y : Int} (hn : 2 ≤ n ∧ n ≤ 16) (hx : 0 ≤ x ∧ x < 4) (hy : 0 ≤ y ∧ y < 4) : -255 ≤ offI n x y ∧ offI n x y ≤ 255 := by
  have := pat_b hx hy
  unfold offI
  generalize patI x y = m at *
  constructor
  · exact Int.le_ediv_of_mul_le (by omega) (by omega)
  · have : (2 * m - 15) * 255 / (32 * (n - 1)) < 256 := Int.ediv_lt_of_lt_mul (by omega) (by omega)
    omega
theorem ord_len (n W : Int) (rows : List (List Int)) : (ordR n W rows).length = rows.length := by unfold ordR; simp
theorem ord_at (n W : Int) (rows : List (List Int)) {k : Nat} (h : k < rows.length) : (ordR n W rows).getD k [] = ordRow n W k (rows.getD k []) := by
  unfold ordR
  rw [List.getD_eq_getElem?_getD, List.getElem?_mapIdx, List.getElem?_eq_getElem h, List.getD_eq_getElem?_getD, List.getElem?_eq_getElem h]; rfl
end PD
end Go.AW
