/- Plain laws of pictures. -/
import Derived.Test.YthhhgdefejogoaaPHue
namespace Go.AW
open Go
set_option linter.unusedVariables false
def byteB (x : Int) : Bool := decide (0 ≤ x ∧ x ≤ 255)
def bytesB (r : List Int) : Bool := r.all byteB
/-- may a picture be? -/
def picB (W H : Int) (rows : List (List Int)) : Bool := rows.all bytesB && decide ((1 ≤ W ∧ W ≤ 256) ∧ (1 ≤ H ∧ H ≤ 256) ∧ (rows.length : Int) = W * H)
namespace PPi
theorem all_no {rows : List (List Int)} {k : Nat} (hk : k < rows.length) (h : bytesB (rows.getD k []) = false) : rows.all bytesB = false := by
  rw [List.all_eq_false]
  refine ⟨rows[k], List.getElem_mem hk, ?_⟩
  rw [List.getD_eq_getElem?_getD, List.getElem?_eq_getElem hk] at h
  simp only [Option.getD_some] at h
  rw [h]; decide
theorem all_yes {rows : List (List Int)} (h : ∀ k, k < rows.length → bytesB (rows.getD k []) = true) : rows.all bytesB = true := by
  rw [List.all_eq_true]
  intro r hr
  obtain ⟨k, hk, rfl⟩ := List.getElem_of_mem hr
  have := h k hk
  rw [List.getD_eq_getElem?_getD, List.getElem?_eq_getElem hk] at this
  exact this
theorem pic_at {W H : Int} {rows : List (List Int)} (h : picB W H rows = true) {k : Nat} (hk : k < rows.length) : bytesB (rows.getD k []) = true := by
  unfold picB at h
  rw [Bool.and_eq_true] at h
  rw [List.getD_eq_getElem?_getD, List.getElem?_eq_getElem hk, Option.getD_some]
  exact List.all_eq_true.1 h.1 _ (List.getElem_mem hk)
theorem pic_sides {W H : Int} {rows : List (List Int)} (h : picB W H rows = true) : (1 ≤ W ∧ W ≤ 256) ∧ (1 ≤ H ∧ H ≤ 256) ∧ (rows.length : Int) = W * H := by
  unfold picB at h
  rw [Bool.and_eq_true] at h
  exact of_decide_eq_true h.2
end PPi
end Go.AW
