/- Plain laws of pictures' rows: a list that is filled up place by place. -/
import Derived.Test.YthhhgdefejogoaaPPic
import Derived.Test.YthhhgdefejogoaaPTrigLaw
namespace Go.AW
open Go
set_option linter.unusedVariables false
/-- the first k rows of a list, then zeros -/
def fillU (tgt : List (List Int)) (k : Nat) : List (List Int) := tgt.take k ++ List.replicate (tgt.length - k) [0, 0, 0]
namespace PR
theorem fill_zero (tgt : List (List Int)) : fillU tgt 0 = List.replicate tgt.length [0, 0, 0] := by unfold fillU; simp
theorem fill_all (tgt : List (List Int)) {k : Nat} (h : tgt.length ≤ k) : fillU tgt k = tgt := by
  unfold fillU; rw [List.take_of_length_le h, Nat.sub_eq_zero_of_le h]; simp
theorem fill_len (tgt : List (List Int)) {k : Nat} (h : k ≤ tgt.length) : (fillU tgt k).length = tgt.length := by
  unfold fillU; rw [List.length_append, List.length_take, List.length_replicate]; omega
theorem fill_at (tgt : List (List Int)) {k m : Nat} (h : k ≤ m) (hm : m < tgt.length) : (fillU tgt k).getD m [] = [0, 0, 0] := by
  unfold fillU
  rw [List.getD_eq_getElem?_getD, List.getElem?_append_right (by rw [List.length_take]; omega), List.length_take, List.getElem?_replicate]
  rw [if_pos (by omega)]; rfl
theorem fill_done (tgt : List (List Int)) {k m : Nat} (h : m < k) : (fillU tgt k).getD m [] = if m < tgt.length then tgt.getD m [] else [] := by
  unfold fillU
  split
  · rename_i g
    rw [List.getD_eq_getElem?_getD, List.getElem?_append_left (by rw [List.length_take]; omega), List.getElem?_take, if_pos h, ← List.getD_eq_getElem?_getD]
  · rename_i g
    rw [List.getD_eq_getElem?_getD, List.getElem?_eq_none]; rfl
    rw [List.length_append, List.length_take, List.length_replicate]; omega
theorem fill_set (tgt : List (List Int)) {k : Nat} (h : k < tgt.length) {r : List Int} (hr : tgt.getD k [] = r) : (fillU tgt k).set k r = fillU tgt (k + 1) := by
  subst hr
  refine List.ext_getElem? fun j => ?_
  rw [List.getElem?_set]
  unfold fillU
  by_cases e : k = j
  · subst e
    rw [if_pos rfl, if_pos (by rw [List.length_append, List.length_take, List.length_replicate]; omega), List.getElem?_append_left (by rw [List.length_take]; omega), List.getElem?_take, if_pos (by omega), List.getD_eq_getElem?_getD, List.getElem?_eq_getElem h]; rfl
  · rw [if_neg e]
    rcases Nat.lt_or_ge j k with q | q
    · rw [List.getElem?_append_left (by rw [List.length_take]; omega), List.getElem?_append_left (by rw [List.length_take]; omega), List.getElem?_take, List.getElem?_take, if_pos q, if_pos (by omega)]
    · rw [List.getElem?_append_right (by rw [List.length_take]; omega), List.getElem?_append_right (by rw [List.length_take]; omega), List.length_take, List.length_take, List.getElem?_replicate, List.getElem?_replicate, Nat.min_eq_left (by omega), Nat.min_eq_left (by omega)]
      by_cases g : j - k < tgt.length - k
      · rw [if_pos g, if_pos (by omega)]
      · rw [if_neg g, if_neg (by omega)]
/-- three channels, one by one -/
theorem set3 {U : List (List Int)} {k : Nat} (hk : k < U.length) {a0 b0 c0 : Int} (h0 : U.getD k [] = [a0, b0, c0]) (a b c : Int) :
    (((U.set k [a, (U.getD k []).tail.headD 0, (U.getD k []).tail.tail.headD 0]).set k [((U.set k [a, (U.getD k []).tail.headD 0, (U.getD k []).tail.tail.headD 0]).getD k []).headD 0, b, ((U.set k [a, (U.getD k []).tail.headD 0, (U.getD k []).tail.tail.headD 0]).getD k []).tail.tail.headD 0])) = U.set k [a, b, c0] := by
  rw [List.set_set, List.getD_eq_getElem?_getD (l := U.set k _), List.getElem?_set_self hk, h0]; rfl
/-- three channels into zeros -/
theorem fill_set3 (tgt : List (List Int)) {k : Nat} (h : k < tgt.length) {a b c : Int} (hr : tgt.getD k [] = [a, b, c]) {V W : List (List Int)} (hV : V = (fillU tgt k).set k [a, ((fillU tgt k).getD k []).tail.headD 0, ((fillU tgt k).getD k []).tail.tail.headD 0]) (hW : W = V.set k [(V.getD k []).headD 0, b, (V.getD k []).tail.tail.headD 0]) :
    W.set k [(W.getD k []).headD 0, (W.getD k []).tail.headD 0, c] = fillU tgt (k + 1) := by
  have hl : k < (fillU tgt k).length := by rw [fill_len _ (by omega)]; exact h
  have e1 : V.getD k [] = [a, 0, 0] := by rw [hV, List.getD_eq_getElem?_getD, List.getElem?_set_self hl, fill_at _ (Nat.le_refl k) h]; rfl
  have e2 : W = (fillU tgt k).set k [a, b, 0] := by rw [hW, e1, hV, List.set_set]; rfl
  have e3 : W.getD k [] = [a, b, 0] := by rw [e2, List.getD_eq_getElem?_getD, List.getElem?_set_self hl]; rfl
  rw [e3, e2, List.set_set]
  exact fill_set tgt h hr
theorem getD_set {U : List (List Int)} {k : Nat} (hk : k < U.length) (r : List Int) : (U.set k r).getD k [] = r := by
  rw [List.getD_eq_getElem?_getD, List.getElem?_set_self hk]; rfl
theorem set_set (U : List (List Int)) (k : Nat) (r r' : List Int) : (U.set k r).set k r' = U.set k r' := by simp
theorem take_succ {α : Type} (l : List α) (d : α) {k : Nat} (h : k < l.length) : l.take k ++ [l.getD k d] = l.take (k + 1) := by
  rw [List.take_add_one, List.getElem?_eq_getElem h, List.getD_eq_getElem?_getD, List.getElem?_eq_getElem h]; rfl
theorem map_getD {α β : Type} (f : α → β) (l : List α) (d : α) (e : β) {k : Nat} (h : k < l.length) : (l.map f).getD k e = f (l.getD k d) := by
  rw [List.getD_eq_getElem?_getD, List.getElem?_map, List.getElem?_eq_getElem h, List.getD_eq_getElem?_getD, List.getElem?_eq_getElem h]; rfl
end PR
end Go.AW
