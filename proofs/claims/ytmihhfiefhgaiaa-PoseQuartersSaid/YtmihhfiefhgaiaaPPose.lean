/- Plain laws of quarter turns. -/
import Derived.Test.YtmihhfiefhgaiaaPTrig
namespace Go.AW
open Go
set_option linter.unusedVariables false
/-- a pose so far, and a vector -/
structure QS where
  k : Int
  a : Int
  b : Int
  c : Int
  d : Int
  e : Int
  f : Int
  g : Int
  i : Int
  j : Int
  p : Int
  q : Int
  r : Int
  u : Int
  v : Int
  w : Int
namespace PQ
/-- an entry of a quarter turn's pose -/
def En (x : Int) : Prop := x = -16384 ∨ x = 0 ∨ x = 16384
/-- quarters' sines -/
theorem quarter (k : Int) (h0 : 0 ≤ k) (h1 : k ≤ 1000) : (cosI (16384 * k) = 16384 ∧ sinI (16384 * k) = 0) ∨ (cosI (16384 * k) = 0 ∧ sinI (16384 * k) = 16384) ∨ (cosI (16384 * k) = -16384 ∧ sinI (16384 * k) = 0) ∨ (cosI (16384 * k) = 0 ∧ sinI (16384 * k) = -16384) := by
  have e : (16384 * k) % 65536 = 16384 * (k % 4) := by omega
  have c : k % 4 = 0 ∨ k % 4 = 1 ∨ k % 4 = 2 ∨ k % 4 = 3 := by omega
  unfold cosI sinI
  rw [e]
  rcases c with c | c | c | c <;> rw [c] <;> decide +kernel
theorem en_b {x : Int} (h : En x) : -16384 ≤ x ∧ x ≤ 16384 := by unfold En at h; omega
/-- a row of a quarter turn -/
def Un (α β γ : Int) : Prop := (β = 0 ∧ γ = 0 ∧ (α = 16384 ∨ α = -16384)) ∨ (α = 0 ∧ γ = 0 ∧ (β = 16384 ∨ β = -16384)) ∨ (α = 0 ∧ β = 0 ∧ (γ = 16384 ∨ γ = -16384))
/-- a row of the pose so far: its entries, its move, where it puts the vector -/
def Ro (B x y z a b c p w : Int) : Prop := En a ∧ En b ∧ En c ∧ (-B ≤ p ∧ p ≤ B) ∧ (-(1000 + B) ≤ w ∧ w ≤ 1000 + B) ∧ a * x + b * y + c * z = 16384 * (w - p)
theorem step {α β γ tq B T x y z a b c d e f g i j p q r w1 w2 w3 : Int} (hu : Un α β γ) (ht : -T ≤ tq ∧ tq ≤ T) (h1 : Ro B x y z a b c p w1) (h2 : Ro B x y z d e f q w2) (h3 : Ro B x y z g i j r w3) :
    Ro (B + T) x y z ((α * a + β * d + γ * g) / 16384) ((α * b + β * e + γ * i) / 16384) ((α * c + β * f + γ * j) / 16384) ((α * p + β * q + γ * r) / 16384 + tq) ((α * w1 + β * w2 + γ * w3) / 16384 + tq) := by
  have pos : ∀ n : Int, (16384 * n + 0 + 0) / 16384 = n := fun n => by omega
  have neg : ∀ n : Int, (-16384 * n + 0 + 0) / 16384 = -n := fun n => by omega
  have pos2 : ∀ n : Int, (0 + 16384 * n + 0) / 16384 = n := fun n => by omega
  have neg2 : ∀ n : Int, (0 + -16384 * n + 0) / 16384 = -n := fun n => by omega
  have pos3 : ∀ n : Int, (0 + 0 + 16384 * n) / 16384 = n := fun n => by omega
  have neg3 : ∀ n : Int, (0 + 0 + -16384 * n) / 16384 = -n := fun n => by omega
  have en : ∀ {n : Int}, En n → En (-n) := fun h => by unfold En at *; omega
  rcases hu with ⟨rfl, rfl, rfl | rfl⟩ | ⟨rfl, rfl, rfl | rfl⟩ | ⟨rfl, rfl, rfl | rfl⟩ <;> simp only [Int.zero_mul, pos, neg, pos2, neg2, pos3, neg3]
  · obtain ⟨e1, e2, e3, e4, e5, e6⟩ := h1
    exact ⟨e1, e2, e3, by omega, by omega, by omega⟩
  · obtain ⟨e1, e2, e3, e4, e5, e6⟩ := h1
    exact ⟨en e1, en e2, en e3, by omega, by omega, by rw [Int.neg_mul, Int.neg_mul, Int.neg_mul]; omega⟩
  · obtain ⟨e1, e2, e3, e4, e5, e6⟩ := h2
    exact ⟨e1, e2, e3, by omega, by omega, by omega⟩
  · obtain ⟨e1, e2, e3, e4, e5, e6⟩ := h2
    exact ⟨en e1, en e2, en e3, by omega, by omega, by rw [Int.neg_mul, Int.neg_mul, Int.neg_mul]; omega⟩
  · obtain ⟨e1, e2, e3, e4, e5, e6⟩ := h3
    exact ⟨e1, e2, e3, by omega, by omega, by omega⟩
  · obtain ⟨e1, e2, e3, e4, e5, e6⟩ := h3
    exact ⟨en e1, en e2, en e3, by omega, by omega, by rw [Int.neg_mul, Int.neg_mul, Int.neg_mul]; omega⟩
theorem rem_b (x : Int) : -1000 ≤ Z.rem .i64 x 1001 ∧ Z.rem .i64 x 1001 ≤ 1000 := by
  show -1000 ≤ x.tmod 1001 ∧ x.tmod 1001 ≤ 1000
  have h1 := Int.tmod_lt_of_pos x (show (0 : Int) < 1001 by omega)
  have h2 := Int.lt_tmod_of_pos x (show (0 : Int) < 1001 by omega)
  omega
theorem mono {B B' x y z a b c p w : Int} (h : Ro B x y z a b c p w) (hB : B ≤ B') : Ro B' x y z a b c p w := by
  obtain ⟨e1, e2, e3, e4, e5, e6⟩ := h
  exact ⟨e1, e2, e3, by omega, by omega, e6⟩
end PQ
end Go.AW
