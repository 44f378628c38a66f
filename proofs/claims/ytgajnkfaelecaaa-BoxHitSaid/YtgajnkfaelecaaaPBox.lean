/- Plain laws of boxes. -/
import Derived.Test.YtgajnkfaelecaaaPVec
import Derived.Test.YtgajnkfaelecaaaPFrac
import Derived.Test.YtgajnkfaelecaaaPUnit
import Derived.Test.YtgajnkfaelecaaaPUp
namespace Go.AW
open Go
set_option linter.unusedVariables false
/-- may a box be? -/
def boxB (a b c d e f : Int) : Bool := nearI a b c && (nearI d e f && (decide (a ≤ d) && (decide (b ≤ e) && decide (c ≤ f))))
namespace PB
theorem near_iff {x y z : Int} : nearI x y z = true ↔ (-1048576 ≤ x ∧ x ≤ 1048576) ∧ (-1048576 ≤ y ∧ y ≤ 1048576) ∧ (-1048576 ≤ z ∧ z ≤ 1048576) := by unfold nearI; exact decide_eq_true_iff
theorem box_iff {a b c d e f : Int} : boxB a b c d e f = true ↔ ((-1048576 ≤ a ∧ a ≤ 1048576) ∧ (-1048576 ≤ b ∧ b ≤ 1048576) ∧ (-1048576 ≤ c ∧ c ≤ 1048576)) ∧ ((-1048576 ≤ d ∧ d ≤ 1048576) ∧ (-1048576 ≤ e ∧ e ≤ 1048576) ∧ (-1048576 ≤ f ∧ f ≤ 1048576)) ∧ a ≤ d ∧ b ≤ e ∧ c ≤ f := by
  unfold boxB
  simp only [Bool.and_eq_true, decide_eq_true_eq, near_iff]
theorem sq_b {p : Int} (h : 0 ≤ p) (h' : p ≤ 2097152) : 0 ≤ p * p ∧ p * p ≤ 4398046511104 := by
  have m := PV.mul_le (a := p) (b := p) (A := 2097152) (B := 2097152) (by omega) (by omega)
  have := Int.mul_nonneg h h
  omega
theorem area_id (p q r : Int) : (p + q + r) * (p + q + r) - (p * p + q * q + r * r) = 2 * (p * q + q * r + r * p) := by grind
end PB
/-- half a box's surface -/
def areaI (a b c d e f : Int) : Int := if boxB a b c d e f then (d - a) * (e - b) + (e - b) * (f - c) + (f - c) * (d - a) else 0
/-- twice the middle of a box -/
def midB (a b c d e f k : Int) : Int := if boxB a b c d e f then (if k = 0 then a + d else if k = 1 then b + e else if k = 2 then c + f else 0) else 0
namespace PB
theorem mul_mono {a b c d : Int} (h0 : 0 ≤ a) (h1 : 0 ≤ b) (h2 : a ≤ c) (h3 : b ≤ d) : a * b ≤ c * d :=
  Int.le_trans (Int.mul_le_mul_of_nonneg_right h2 h1) (Int.mul_le_mul_of_nonneg_left h3 (by omega))
theorem area_mono {a b c d e f a' b' c' d' e' f' : Int} (h : boxB a b c d e f = true) (h' : boxB a' b' c' d' e' f' = true) (ha : a' ≤ a) (hb : b' ≤ b) (hc : c' ≤ c) (hd : d ≤ d') (he : e ≤ e') (hf : f ≤ f') : areaI a b c d e f ≤ areaI a' b' c' d' e' f' := by
  unfold areaI
  rw [if_pos h, if_pos h']
  have := box_iff.1 h
  have m1 := mul_mono (a := d - a) (b := e - b) (c := d' - a') (d := e' - b') (by omega) (by omega) (by omega) (by omega)
  have m2 := mul_mono (a := e - b) (b := f - c) (c := e' - b') (d := f' - c') (by omega) (by omega) (by omega) (by omega)
  have m3 := mul_mono (a := f - c) (b := d - a) (c := f' - c') (d := d' - a') (by omega) (by omega) (by omega) (by omega)
  omega
theorem mm_comm {x y u v : Int} (h : u = min x y) (k : v = min y x) : v = u := by omega
theorem mm_self {x v : Int} (k : v = min x x) : v = x := by omega
theorem mm_abs {x y u v : Int} (h : u = min x y) (k : v = min u x) : v = u := by omega
theorem mx_comm {x y u v : Int} (h : u = max x y) (k : v = max y x) : v = u := by omega
theorem mx_self {x v : Int} (k : v = max x x) : v = x := by omega
theorem mx_abs {x y u v : Int} (h : u = max x y) (k : v = max u x) : v = u := by omega
theorem mm_le {x y u : Int} (h : u = min x y) : (u ≤ x ∧ u ≤ y) ∧ (u = x ∨ u = y) := by omega
theorem mx_le {x y u : Int} (h : u = max x y) : (x ≤ u ∧ y ≤ u) ∧ (u = x ∨ u = y) := by omega
theorem ax_join {a d a' d' : Int} (h : (-1048576 ≤ a ∧ a ≤ 1048576) ∧ (-1048576 ≤ d ∧ d ≤ 1048576) ∧ a ≤ d) (h' : (-1048576 ≤ a' ∧ a' ≤ 1048576) ∧ (-1048576 ≤ d' ∧ d' ≤ 1048576) ∧ a' ≤ d') {u p : Int} (hu : u = min a a') (hp : p = max d d') : (-1048576 ≤ u ∧ u ≤ 1048576) ∧ (-1048576 ≤ p ∧ p ≤ 1048576) ∧ u ≤ p := by omega
theorem box_join {a b c d e f a' b' c' d' e' f' u v w p q r : Int} (h : boxB a b c d e f = true) (h' : boxB a' b' c' d' e' f' = true) (eu : u = min a a') (ev : v = min b b') (ew : w = min c c') (ep : p = max d d') (eq : q = max e e') (er : r = max f f') : boxB u v w p q r = true := by
  have x := box_iff.1 h
  have y := box_iff.1 h'
  have j1 := ax_join ⟨x.1.1, x.2.1.1, x.2.2.1⟩ ⟨y.1.1, y.2.1.1, y.2.2.1⟩ eu ep
  have j2 := ax_join ⟨x.1.2.1, x.2.1.2.1, x.2.2.2.1⟩ ⟨y.1.2.1, y.2.1.2.1, y.2.2.2.1⟩ ev eq
  have j3 := ax_join ⟨x.1.2.2, x.2.1.2.2, x.2.2.2.2⟩ ⟨y.1.2.2, y.2.1.2.2, y.2.2.2.2⟩ ew er
  exact box_iff.2 ⟨⟨j1.1, j2.1, j3.1⟩, ⟨j1.2.1, j2.2.1, j3.2.1⟩, j1.2.2, j2.2.2, j3.2.2⟩
theorem near_i64 {x : Int} (h : -1048576 ≤ x ∧ x ≤ 1048576) : I64 x := by unfold I64; omega
theorem box_i64 {a b c d e f : Int} (h : boxB a b c d e f = true) : I64 a ∧ I64 b ∧ I64 c ∧ I64 d ∧ I64 e ∧ I64 f := by
  have x := box_iff.1 h
  exact ⟨near_i64 x.1.1, near_i64 x.1.2.1, near_i64 x.1.2.2, near_i64 x.2.1.1, near_i64 x.2.1.2.1, near_i64 x.2.1.2.2⟩
theorem has_mono {a b c d e f a' b' c' d' e' f' x y z : Int} (h' : boxB a' b' c' d' e' f' = true) (ha : a' ≤ a) (hb : b' ≤ b) (hc : c' ≤ c) (hd : d ≤ d') (he : e ≤ e') (hf : f ≤ f')
    (h : true = (boxB a b c d e f && (decide (a ≤ x ∧ x ≤ d) && (decide (b ≤ y ∧ y ≤ e) && decide (c ≤ z ∧ z ≤ f))))) : (boxB a' b' c' d' e' f' && (decide (a' ≤ x ∧ x ≤ d') && (decide (b' ≤ y ∧ y ≤ e') && decide (c' ≤ z ∧ z ≤ f')))) = true := by
  have h := h.symm
  simp only [Bool.and_eq_true, decide_eq_true_eq] at h ⊢
  exact ⟨h', by omega, by omega, by omega⟩
theorem has_in {a' b' c' d' e' f' x y z : Int} (h' : boxB a' b' c' d' e' f' = true) (hx : a' ≤ x ∧ x ≤ d') (hy : b' ≤ y ∧ y ≤ e') (hz : c' ≤ z ∧ z ≤ f') : (boxB a' b' c' d' e' f' && (decide (a' ≤ x ∧ x ≤ d') && (decide (b' ≤ y ∧ y ≤ e') && decide (c' ≤ z ∧ z ≤ f')))) = true := by
  simp only [Bool.and_eq_true, decide_eq_true_eq]
  exact ⟨h', hx, hy, hz⟩
end PB
end Go.AW
