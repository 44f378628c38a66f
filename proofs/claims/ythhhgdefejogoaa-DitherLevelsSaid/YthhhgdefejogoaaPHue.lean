/- Plain laws of colors and weights. -/
import Derived.Test.YthhhgdefejogoaaPFrac
import Derived.Test.YthhhgdefejogoaaEngC
namespace Go.AW
open Go
set_option linter.unusedVariables false
/-- may these be a color's channels? -/
def isC (r g b : Int) : Bool := decide ((0 ≤ r ∧ r ≤ 65536) ∧ (0 ≤ g ∧ g ≤ 65536) ∧ (0 ≤ b ∧ b ≤ 65536))
/-- may these be a weight's channels? -/
def isWt (r g b : Int) : Bool := decide ((0 ≤ r ∧ r ≤ 1099511627776) ∧ (0 ≤ g ∧ g ≤ 1099511627776) ∧ (0 ≤ b ∧ b ≤ 1099511627776))
/-- what of a channel a color leaves -/
def mixI (ok : Bool) (w c : Int) : Int := if ok = true then w * c / 65536 else 0
/-- a part of a channel -/
def partW (ok : Bool) (v n d : Int) : Int := if ok = true then mmI false 1099511627776 (atF v n d) else 0
def greyI (r g b : Int) : Int := if isWt r g b = true then (r + 2 * g + b) / 4 else 0
def mostW (r g b : Int) : Int := mmI true (mmI true r g) b
/-- rows of three numbers of 64 bits -/
def Fit3 (rows : List (List Int)) : Prop := ∀ k : Nat, k < rows.length → ∃ x y z : Int, rows.getD k [] = [x, y, z] ∧ I64 x ∧ I64 y ∧ I64 z
def addW (a : Int × Int × Int) (r : List Int) : Int × Int × Int := (plusI a.1 (r.headD 0), plusI a.2.1 (r.tail.headD 0), plusI a.2.2 (r.tail.tail.headD 0))
theorem fit3_of {rows : List (List Int)} (h : ∀ r ∈ rows, fitK [.ik .i64, .ik .i64, .ik .i64] r) : Fit3 rows := by
  intro k hk
  have hm := getD_mem hk []
  obtain ⟨x, r1, e1, g1, y, r2, e2, g2, z, r3, e3, g3, hn⟩ := h _ hm
  refine ⟨x, y, z, ?_, wf_i64 g1, wf_i64 g2, wf_i64 g3⟩
  rw [e1, e2, e3, show r3 = [] from hn]
theorem plus_i (a b : Int) : I64 (plusI a b) := by unfold plusI I64; split <;> (try split) <;> omega
theorem plus_0 {a : Int} (h : I64 a) : plusI 0 a = a := by unfold plusI I64 at *; rw [if_neg (by omega), if_neg (by omega)]; omega
theorem fold3 {rows : List (List Int)} (hf : Fit3 rows) (k : Int) : I64 (upto addW (0, 0, 0) rows k).1 ∧ I64 (upto addW (0, 0, 0) rows k).2.1 ∧ I64 (upto addW (0, 0, 0) rows k).2.2 := by
  have key : ∀ (rows : List (List Int)) (a : Int × Int × Int), I64 a.1 → I64 a.2.1 → I64 a.2.2 → I64 (rows.foldl addW a).1 ∧ I64 (rows.foldl addW a).2.1 ∧ I64 (rows.foldl addW a).2.2 := by
    intro rows
    induction rows with
    | nil => intro a h1 h2 h3; exact ⟨h1, h2, h3⟩
    | cons r rows ih => intro a h1 h2 h3; exact ih _ (plus_i _ _) (plus_i _ _) (plus_i _ _)
  exact key _ _ (by decide) (by decide) (by decide)
namespace PH
theorem isWt_iff {r g b : Int} : isWt r g b = true ↔ (0 ≤ r ∧ r ≤ 1099511627776) ∧ (0 ≤ g ∧ g ≤ 1099511627776) ∧ (0 ≤ b ∧ b ≤ 1099511627776) := by unfold isWt; rw [decide_eq_true_iff]
theorem isC_iff {r g b : Int} : isC r g b = true ↔ (0 ≤ r ∧ r ≤ 65536) ∧ (0 ≤ g ∧ g ≤ 65536) ∧ (0 ≤ b ∧ b ≤ 65536) := by unfold isC; rw [decide_eq_true_iff]
theorem mix_b {w c : Int} (hw : 0 ≤ w ∧ w ≤ 1099511627776) (hc : 0 ≤ c ∧ c ≤ 65536) : 0 ≤ w * c ∧ w * c ≤ 72057594037927936 ∧ w * c / 65536 ≤ w ∧ 0 ≤ w * c / 65536 := by
  have m1 : 0 ≤ w * c := Int.mul_nonneg hw.1 hc.1
  have m2 : w * c ≤ w * 65536 := Int.mul_le_mul_of_nonneg_left hc.2 hw.1
  omega
theorem mix_mono {m w d : Int} (h : m ≤ w) (hd : 0 ≤ d) : m * d / 65536 ≤ w * d / 65536 := by
  have := Int.mul_le_mul_of_nonneg_right h hd
  omega
theorem part_le {v n d : Int} (hv : 0 ≤ v ∧ v ≤ 1099511627776) (hd : 1 ≤ d) (hn : 0 ≤ n) (h : n ≤ d) : partW true v n d ≤ v := by
  unfold partW atF
  rw [if_pos rfl, if_pos (show d > 0 by omega)]
  have a1 : v * n / d < v + 1 := by
    rw [PW.div_lt (by omega), Int.add_mul, Int.one_mul]
    have := Int.mul_le_mul_of_nonneg_left h hv.1
    omega
  have a0 : 0 ≤ v * n / d := Int.ediv_nonneg (Int.mul_nonneg hv.1 hn) (by omega)
  generalize v * n / d = q at *
  unfold clampI
  rw [if_neg (by omega), if_neg (by omega), mn_eq]
  split <;> omega
theorem part_one {v : Int} (hv : 0 ≤ v ∧ v ≤ 1099511627776) : partW true v 1 1 = v := by
  unfold partW atF clampI
  rw [if_pos rfl, if_pos (by decide), Int.mul_one, Int.ediv_one, if_neg (by omega), if_neg (by omega), mn_eq]
  split <;> omega
theorem grey_b {r g b : Int} (h : isWt r g b = true) : greyI r g b ≤ mostW r g b ∧ 0 ≤ greyI r g b := by
  have a := isWt_iff.1 h
  unfold greyI mostW
  rw [if_pos h, mx_eq, mx_eq]
  split <;> split <;> omega
end PH
end Go.AW
