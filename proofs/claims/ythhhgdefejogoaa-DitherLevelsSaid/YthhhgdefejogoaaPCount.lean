/- Plain laws of how many unlike bytes there are. -/
import Derived.Test.YthhhgdefejogoaaPRow
import Derived.Test.YthhhgdefejogoaaPSpr
namespace Go.AW
open Go
set_option linter.unusedVariables false
/-- which bytes are met -/
def metL (l : List Int) : List (List Int) := (List.range 256).map fun (b : Nat) => [if (b : Int) ∈ l then 1 else 0]
/-- how many of the first k bytes are met -/
def countK (l : List Int) (k : Nat) : Int := ((List.range k).filter fun (b : Nat) => decide ((b : Int) ∈ l)).length
def countL (l : List Int) : Int := countK l 256
namespace PC
theorem met_len (l : List Int) : (metL l).length = 256 := by unfold metL; simp
theorem met_nil : metL [] = List.replicate 256 [0] := by decide +kernel
theorem met_at (l : List Int) {k : Nat} (h : k < 256) : (metL l).getD k [] = [if (k : Int) ∈ l then 1 else 0] := by
  unfold metL
  rw [PR.map_getD _ _ 0 [] (by simpa using h), List.getD_eq_getElem?_getD, List.getElem?_range h]; rfl
theorem met_set (l : List Int) {n : Int} (h : 0 ≤ n ∧ n ≤ 255) : (metL l).set n.toNat [1] = metL (l ++ [n]) := by
  refine List.ext_getElem? fun j => ?_
  rw [List.getElem?_set]
  unfold metL
  simp only [List.length_map, List.length_range, List.getElem?_map]
  by_cases hj : j < 256
  · rw [List.getElem?_range hj]
    by_cases e : n.toNat = j
    · rw [if_pos e, if_pos (by omega)]
      have : (j : Int) = n := by omega
      simp [this]
    · rw [if_neg e]
      have : (j : Int) ≠ n := by omega
      simp [this]
  · rw [List.getElem?_eq_none (by simpa using hj)]
    rw [if_neg (by omega)]; rfl
theorem count_succ (l : List Int) (k : Nat) : countK l (k + 1) = countK l k + (if (k : Int) ∈ l then 1 else 0) := by
  unfold countK
  rw [List.range_succ, List.filter_append]
  by_cases h : (k : Int) ∈ l
  · simp [h]
  · simp [h]
theorem count_b (l : List Int) (k : Nat) : 0 ≤ countK l k ∧ countK l k ≤ k := by
  unfold countK
  have := List.length_filter_le (fun (b : Nat) => decide ((b : Int) ∈ l)) (List.range k)
  rw [List.length_range] at this
  omega
theorem flat_succ {rows : List (List Int)} {k : Nat} (h : k < rows.length) : (rows.take (k + 1)).flatten = (rows.take k).flatten ++ rows.getD k [] := by
  rw [← PR.take_succ rows [] h, List.flatten_append]; simp
/-- no more than levels, where all are levels -/
theorem count_lev {n : Int} (h : 2 ≤ n) (h' : n ≤ 16) {l : List Int} (hl : ∀ x ∈ l, ∃ k, 0 ≤ k ∧ k < n ∧ x = lvI n k) : countL l ≤ n := by
  have hs : ∀ b ∈ (List.range 256).filter (fun (b : Nat) => decide ((b : Int) ∈ l)), b ∈ (List.range n.toNat).map fun (k : Nat) => (lvI n k).toNat := by
    intro b hb
    rw [List.mem_filter] at hb
    obtain ⟨k, k0, k1, e⟩ := hl _ (of_decide_eq_true hb.2)
    rw [List.mem_map]
    refine ⟨k.toNat, by rw [List.mem_range]; omega, ?_⟩
    rw [show ((k.toNat : Nat) : Int) = k by omega, ← e]; omega
  have hnd : ((List.range 256).filter (fun (b : Nat) => decide ((b : Int) ∈ l))).Nodup := List.nodup_range.filter _
  have := List.Nodup.length_le_of_subset hnd hs
  rw [List.length_map, List.length_range] at this
  unfold countL countK
  omega
theorem count_pos {l : List Int} {x : Int} (hx : x ∈ l) (hb : 0 ≤ x ∧ x ≤ 255) : 1 ≤ countL l := by
  unfold countL countK
  have : x.toNat ∈ (List.range 256).filter (fun (b : Nat) => decide ((b : Int) ∈ l)) := by
    rw [List.mem_filter]
    refine ⟨by rw [List.mem_range]; omega, ?_⟩
    rw [show ((x.toNat : Nat) : Int) = x by omega]
    exact decide_eq_true hx
  have := List.length_pos_of_mem this
  omega
end PC
end Go.AW
