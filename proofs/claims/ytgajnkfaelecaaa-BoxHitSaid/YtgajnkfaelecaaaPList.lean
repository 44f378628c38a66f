/- Plain laws of rows and folds. -/
import Derived.Test.YtgajnkfaelecaaaEngC
namespace Go.AW
open Go
set_option linter.unusedVariables false

theorem fold_step {α β : Type} (f : α → β → α) (a : α) (d : β) (rows : List β) {i : Nat} (h : i < rows.length) : (rows.take (i + 1)).foldl f a = f ((rows.take i).foldl f a) (rows.getD i d) := by
  rw [List.take_add_one, List.foldl_append]
  rw [List.getElem?_eq_getElem h, List.getD_eq_getElem?_getD, List.getElem?_eq_getElem h]
  rfl
theorem fold_all {α β : Type} (f : α → β → α) (a : α) (rows : List β) : (rows.take rows.length).foldl f a = rows.foldl f a := by rw [List.take_length]
theorem fold_zero {α β : Type} (f : α → β → α) (a : α) (rows : List β) : (rows.take 0).foldl f a = a := rfl

/-- a fold up to the place i, a number of Go's -/
def upto {α β : Type} (f : α → β → α) (a : α) (rows : List β) (i : Int) : α := (rows.take i.toNat).foldl f a
theorem upto_zero {α β : Type} (f : α → β → α) (a : α) (rows : List β) : upto f a rows 0 = a := rfl
theorem upto_step {α β : Type} (f : α → β → α) (a : α) (d : β) (rows : List β) {i : Int} (h0 : 0 ≤ i) (h : i < rows.length) : upto f a rows (i + 1) = f (upto f a rows i) (rows.getD i.toNat d) := by
  unfold upto
  rw [show (i + 1).toNat = i.toNat + 1 by omega]
  exact fold_step f a d rows (by omega)
theorem upto_all {α β : Type} (f : α → β → α) (a : α) (rows : List β) {i : Int} (h : rows.length ≤ i) : upto f a rows i = rows.foldl f a := by
  unfold upto; rw [List.take_of_length_le (by omega)]

/-- what holds of the first and stays holds of the fold -/
theorem upto_ind {α β : Type} (f : α → β → α) (a : α) (d : β) (rows : List β) (p : Nat → α → Prop) (h0 : p 0 a) (hs : ∀ i x, i < rows.length → p i x → p (i + 1) (f x (rows.getD i d))) : p rows.length (rows.foldl f a) := by
  have key : ∀ i, i ≤ rows.length → p i ((rows.take i).foldl f a) := by
    intro i
    induction i with
    | zero => intro _; exact h0
    | succ i ih => intro hi; rw [fold_step f a d rows (by omega)]; exact hs i _ (by omega) (ih (by omega))
  have := key rows.length (Nat.le_refl _)
  rwa [fold_all] at this

theorem getD_mem {β : Type} {rows : List β} {i : Nat} (h : i < rows.length) (d : β) : rows.getD i d ∈ rows := by
  rw [List.getD_eq_getElem?_getD, List.getElem?_eq_getElem h]; exact List.getElem_mem h

/-- Go's greater of two, as 'max' reckons it -/
abbrev mx (a b : Int) : Int := mmI true a b
abbrev mn (a b : Int) : Int := mmI false a b
theorem mx_eq (a b : Int) : mmI true a b = if b > a then b else a := rfl
theorem mn_eq (a b : Int) : mmI false a b = if b < a then b else a := rfl
theorem mx_spec (a b : Int) : a ≤ mmI true a b ∧ b ≤ mmI true a b ∧ (mmI true a b = a ∨ mmI true a b = b) := by rw [mx_eq]; split <;> omega
theorem mn_spec (a b : Int) : mmI false a b ≤ a ∧ mmI false a b ≤ b ∧ (mmI false a b = a ∨ mmI false a b = b) := by rw [mn_eq]; split <;> omega
theorem bne_s {α : Type} [BEq α] [LawfulBEq α] (a : α) : (a != a) = false := by simp
end Go.AW
