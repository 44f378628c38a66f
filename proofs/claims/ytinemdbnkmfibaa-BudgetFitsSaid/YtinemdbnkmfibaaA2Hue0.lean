/- Part of the proof of a law of the seat: its functions, walked. No condition. -/
import Derived.Test.YtinemdbnkmfibaaA2Num
namespace Go.AW.A2
open Go Go.AW Go.Proofs
set_option maxRecDepth 100000
set_option linter.unusedVariables false
theorem hueOf {r g b : Int} {s : List Ob} {Q : AV → List Ob → Prop} (h : Q (.agg [.int .i64 r, .int .i64 g, .int .i64 b]) s) : AC Try.prog 69 [.agg [.int .i64 r, .int .i64 g, .int .i64 b]] s Q := by
  refine AC_pure rfl ?_
  refine AC_body tok 3 Try.func69 rfl (by kernel_rfl) ?_
  conv => whnf
  exact ⟨rfl, h⟩
theorem hueWithin {r g b n : Int} {s : List Ob} {Q : AV → List Ob → Prop} (h : ∀ v, v = decide ((0 ≤ r ∧ r ≤ n) ∧ (0 ≤ g ∧ g ≤ n) ∧ (0 ≤ b ∧ b ≤ n)) → Q (.bool v) s) : AC Try.prog 70 [.agg [.int .i64 r, .int .i64 g, .int .i64 b], .int .i64 n] s Q := by
  refine AC_pure rfl ?_
  refine AC_body tok 12 Try.func70 rfl (by kernel_rfl) ?_
  conv => whnf
  have no : ∀ x : Int, (x = r ∨ x = g ∨ x = b) → (x < 0 ∨ x > n) → false = decide ((0 ≤ r ∧ r ≤ n) ∧ (0 ≤ g ∧ g ≤ n) ∧ (0 ≤ b ∧ b ≤ n)) := by
    intro x hx k; symm; rw [decide_eq_false_iff_not]; rintro ⟨⟨_, _⟩, ⟨_, _⟩, _, _⟩; rcases hx with rfl | rfl | rfl <;> rcases k with k | k <;> omega
  by_cases r1 : r < 0
  · rw [decide_eq_true r1]; conv => whnf
    exact ⟨rfl, h _ (no r (.inl rfl) (.inl r1))⟩
  rw [decide_eq_false r1]; conv => whnf
  by_cases r2 : r > n
  · rw [decide_eq_true r2]; conv => whnf
    exact ⟨rfl, h _ (no r (.inl rfl) (.inr r2))⟩
  rw [decide_eq_false r2]; conv => whnf
  by_cases g1 : g < 0
  · rw [decide_eq_true g1]; conv => whnf
    exact ⟨rfl, h _ (no g (.inr (.inl rfl)) (.inl g1))⟩
  rw [decide_eq_false g1]; conv => whnf
  by_cases g2 : g > n
  · rw [decide_eq_true g2]; conv => whnf
    exact ⟨rfl, h _ (no g (.inr (.inl rfl)) (.inr g2))⟩
  rw [decide_eq_false g2]; conv => whnf
  by_cases b1 : b < 0
  · rw [decide_eq_true b1]; conv => whnf
    exact ⟨rfl, h _ (no b (.inr (.inr rfl)) (.inl b1))⟩
  rw [decide_eq_false b1]; conv => whnf
  by_cases b2 : b > n
  · rw [decide_eq_true b2]; conv => whnf
    exact ⟨rfl, h _ (no b (.inr (.inr rfl)) (.inr b2))⟩
  rw [decide_eq_false b2]; conv => whnf
  exact ⟨rfl, h _ (by symm; rw [decide_eq_true_iff]; omega)⟩
/-- may these be a weight's channels? -/
def isW (r g b : Int) : Bool := decide ((0 ≤ r ∧ r ≤ 1099511627776) ∧ (0 ≤ g ∧ g ≤ 1099511627776) ∧ (0 ≤ b ∧ b ≤ 1099511627776))
theorem hueWeight {r g b : Int} {s : List Ob} {Q : AV → List Ob → Prop} (h : ∀ v, v = isW r g b → Q (.bool v) s) : AC Try.prog 68 [.agg [.int .i64 r, .int .i64 g, .int .i64 b]] s Q := by
  refine AC_pure rfl ?_
  refine AC_body tok 3 Try.func68 rfl (by kernel_rfl) ?_
  conv => whnf
  refine hueOf ?_
  conv => whnf
  refine hueWithin (fun v hv => ?_)
  conv => whnf
  exact ⟨rfl, h _ hv⟩
