/- Plain laws of rays and boxes: greater boxes, and the time 0. -/
import Derived.Test.YtgajnkfaelecaaaPBoxHit
namespace Go.AW
open Go
set_option linter.unusedVariables false
namespace PB
theorem hit3_mono {a b c d e f a' b' c' d' e' f' ox oy oz dx dy dz mn md : Int} (ha : a' ≤ a) (hb : b' ≤ b) (hc : c' ≤ c) (hd : d ≤ d') (he : e ≤ e') (hf : f ≤ f')
    (h : HitE [(a, d, ox, dx), (b, e, oy, dy), (c, f, oz, dz)] mn md) : HitE [(a', d', ox, dx), (b', e', oy, dy), (c', f', oz, dz)] mn md := by
  obtain ⟨n, m, h1, h2, h3, h4⟩ := h
  have m0 := Int.le_of_lt h1
  have g1 := h4 (a, d, ox, dx) (by simp)
  have g2 := h4 (b, e, oy, dy) (by simp)
  have g3 := h4 (c, f, oz, dz) (by simp)
  refine ⟨n, m, h1, h2, h3, fun x hx => ?_⟩
  have ka := Int.mul_le_mul_of_nonneg_right ha m0
  have kb := Int.mul_le_mul_of_nonneg_right hb m0
  have kc := Int.mul_le_mul_of_nonneg_right hc m0
  have kd := Int.mul_le_mul_of_nonneg_right hd m0
  have ke := Int.mul_le_mul_of_nonneg_right he m0
  have kf := Int.mul_le_mul_of_nonneg_right hf m0
  simp only [List.mem_cons, List.not_mem_nil, or_false] at hx
  rcases hx with rfl | rfl | rfl
  · exact ⟨Int.le_trans ka g1.1, Int.le_trans g1.2 kd⟩
  · exact ⟨Int.le_trans kb g2.1, Int.le_trans g2.2 ke⟩
  · exact ⟨Int.le_trans kc g3.1, Int.le_trans g3.2 kf⟩
theorem hit3_zero {a b c d e f ox oy oz dx dy dz : Int} : HitE [(a, d, ox, dx), (b, e, oy, dy), (c, f, oz, dz)] 0 1 ↔ (a ≤ ox ∧ ox ≤ d) ∧ (b ≤ oy ∧ oy ≤ e) ∧ (c ≤ oz ∧ oz ≤ f) := by
  constructor
  · rintro ⟨n, m, h1, h2, h3, h4⟩
    have n0 : n = 0 := by have := h3 (by omega); omega
    subst n0
    have g1 := h4 (a, d, ox, dx) (by simp)
    have g2 := h4 (b, e, oy, dy) (by simp)
    have g3 := h4 (c, f, oz, dz) (by simp)
    simp only [Int.zero_mul, Int.add_zero] at g1 g2 g3
    exact ⟨⟨Int.le_of_mul_le_mul_right g1.1 h1, Int.le_of_mul_le_mul_right g1.2 h1⟩, ⟨Int.le_of_mul_le_mul_right g2.1 h1, Int.le_of_mul_le_mul_right g2.2 h1⟩, ⟨Int.le_of_mul_le_mul_right g3.1 h1, Int.le_of_mul_le_mul_right g3.2 h1⟩⟩
  · rintro ⟨h1, h2, h3⟩
    refine ⟨0, 1, by omega, by omega, fun _ => by omega, fun x hx => ?_⟩
    simp only [List.mem_cons, List.not_mem_nil, or_false] at hx
    rcases hx with rfl | rfl | rfl <;> simp <;> omega
theorem hit_any {l : List (Int × Int × Int × Int)} {mn md : Int} (h : HitE l mn md) : HitE l 0 0 := by
  obtain ⟨n, m, h1, h2, h3, h4⟩ := h
  exact ⟨n, m, h1, h2, fun q => by omega, h4⟩
end PB
end Go.AW
