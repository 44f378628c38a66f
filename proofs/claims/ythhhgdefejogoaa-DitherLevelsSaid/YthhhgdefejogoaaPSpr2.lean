/- Plain laws of what is handed on: three channels at once, or one by one. -/
import Derived.Test.YthhhgdefejogoaaPCount
namespace Go.AW
open Go
set_option linter.unusedVariables false
def zip3 (N : Nat) (A B C : List Int) : List (List Int) := (List.range N).map fun m => [A.getD m 0, B.getD m 0, C.getD m 0]
def colR (c : Nat) (rows : List (List Int)) : List Int := rows.map fun r => r.getD c 0
noncomputable def sprR (n : Int) (W H : Nat) (rows : List (List Int)) : List (List Int) :=
  zip3 rows.length (spUpto n W H (colR 0 rows) rows.length) (spUpto n W H (colR 1 rows) rows.length) (spUpto n W H (colR 2 rows) rows.length)
def rows1 (l : List Int) : List (List Int) := l.map fun x => [x]
/-- what a place got, against what it is -/
def RelS (p A l : List Int) (k : Nat) : Prop := A.length = p.length ∧ l.length = p.length ∧ ∀ m, k ≤ m → l.getD m 0 = p.getD m 0 + A.getD m 0
/-- one hand -/
def handStep (W H i : Nat) (left : Int) (A : List Int) : Nat → List Int
  | 0 => if i % W + 1 < W then addAt A (i + 1) (7 * left / 16) else A
  | 1 => if i / W + 1 < H ∧ 0 < i % W then addAt A (i + W - 1) (3 * left / 16) else A
  | 2 => if i / W + 1 < H then addAt A (i + W) (5 * left / 16) else A
  | _ => if i / W + 1 < H ∧ i % W + 1 < W then addAt A (i + W + 1) (left / 16) else A
def handU (W H i : Nat) (left : Int) (A : List Int) : Nat → List Int
  | 0 => A
  | t + 1 => handStep W H i left (handU W H i left A t) t
theorem handU_4 (W H i : Nat) (left : Int) (A : List Int) : handU W H i left A 4 = handOn W H i left A := rfl
namespace PS
theorem handStep_len (W H i : Nat) (left : Int) (A : List Int) (t : Nat) : (handStep W H i left A t).length = A.length := by
  unfold handStep; split <;> split <;> simp [PD.addAt_len]
theorem handU_len (W H i : Nat) (left : Int) (A : List Int) : ∀ t, (handU W H i left A t).length = A.length
  | 0 => rfl
  | t + 1 => by unfold handU; rw [handStep_len, handU_len W H i left A t]
theorem handU_b {W H i k : Nat} {left : Int} {A : List Int} (hl : -5000 ≤ left ∧ left ≤ 5000) (hA : ∀ m, k ≤ m → -100000 ≤ A.getD m 0 ∧ A.getD m 0 ≤ 100000) : ∀ (t m : Nat), k ≤ m → -(100000 + 5000 * (t : Int)) ≤ (handU W H i left A t).getD m 0 ∧ (handU W H i left A t).getD m 0 ≤ 100000 + 5000 * t
  | 0, m, hm => by have := hA m hm; unfold handU; omega
  | t + 1, m, hm => by
    have := handU_b (W := W) (H := H) (i := i) hl hA t m hm
    unfold handU
    generalize handU W H i left A t = A' at *
    have ad : ∀ (j : Nat) (d : Int), -5000 ≤ d ∧ d ≤ 5000 → -(100000 + 5000 * ((t + 1 : Nat) : Int)) ≤ (addAt A' j d).getD m 0 ∧ (addAt A' j d).getD m 0 ≤ 100000 + 5000 * ((t + 1 : Nat) : Int) := fun j d hd => by
      rw [PD.addAt_get]; split <;> omega
    unfold handStep
    split <;> split <;> first | exact ad _ _ (by omega) | omega
theorem handU_b' {W H i k : Nat} {left B : Int} {A : List Int} (hl : -5000 ≤ left ∧ left ≤ 5000) (hA : ∀ m, k ≤ m → -B ≤ A.getD m 0 ∧ A.getD m 0 ≤ B) : ∀ (t m : Nat), k ≤ m → -(B + 5000 * (t : Int)) ≤ (handU W H i left A t).getD m 0 ∧ (handU W H i left A t).getD m 0 ≤ B + 5000 * t
  | 0, m, hm => by have := hA m hm; unfold handU; omega
  | t + 1, m, hm => by
    have := handU_b' (W := W) (H := H) (i := i) hl hA t m hm
    unfold handU
    generalize handU W H i left A t = A' at *
    have ad : ∀ (j : Nat) (d : Int), -5000 ≤ d ∧ d ≤ 5000 → -(B + 5000 * ((t + 1 : Nat) : Int)) ≤ (addAt A' j d).getD m 0 ∧ (addAt A' j d).getD m 0 ≤ B + 5000 * ((t + 1 : Nat) : Int) := fun j d hd => by
      rw [PD.addAt_get]; split <;> omega
    unfold handStep
    split <;> split <;> first | exact ad _ _ (by omega) | omega
theorem zip_len (N : Nat) (A B C : List Int) : (zip3 N A B C).length = N := by unfold zip3; simp
theorem zip_at {N : Nat} (A B C : List Int) {m : Nat} (h : m < N) : (zip3 N A B C).getD m [] = [A.getD m 0, B.getD m 0, C.getD m 0] := by
  unfold zip3
  rw [PR.map_getD _ _ 0 [] (by simpa using h), List.getD_eq_getElem?_getD (l := List.range N), List.getElem?_range h]; rfl
theorem zip_ext {N : Nat} {A B C A' B' C' : List Int} (h : ∀ m, m < N → A.getD m 0 = A'.getD m 0 ∧ B.getD m 0 = B'.getD m 0 ∧ C.getD m 0 = C'.getD m 0) : zip3 N A B C = zip3 N A' B' C' := by
  unfold zip3
  refine List.map_congr_left fun m hm => ?_
  obtain ⟨h1, h2, h3⟩ := h m (List.mem_range.1 hm)
  rw [h1, h2, h3]
theorem zip_set {N : Nat} {A B C A' B' C' : List Int} {j : Nat} (h : ∀ m, m < N → m ≠ j → A'.getD m 0 = A.getD m 0 ∧ B'.getD m 0 = B.getD m 0 ∧ C'.getD m 0 = C.getD m 0) : (zip3 N A B C).set j [A'.getD j 0, B'.getD j 0, C'.getD j 0] = zip3 N A' B' C' := by
  refine List.ext_getElem? fun m => ?_
  rw [List.getElem?_set]
  unfold zip3
  simp only [List.length_map, List.length_range, List.getElem?_map]
  by_cases hm : m < N
  · rw [List.getElem?_range hm]
    by_cases e : j = m
    · subst e; rw [if_pos rfl, if_pos hm]; rfl
    · rw [if_neg e]
      obtain ⟨h1, h2, h3⟩ := h m hm (Ne.symm e)
      rw [Option.map_some, Option.map_some, h1, h2, h3]
  · rw [List.getElem?_eq_none (by simpa using hm)]
    by_cases e : j = m
    · subst e; rw [if_pos rfl, if_neg hm]; rfl
    · rw [if_neg e]; rfl
theorem add_ne (A : List Int) (j : Nat) (d : Int) (m : Nat) (h : m ≠ j) : (addAt A j d).getD m 0 = A.getD m 0 := by rw [PD.addAt_get, if_neg (by omega)]
theorem add_eq {A : List Int} {j : Nat} (h : j < A.length) (d : Int) : (addAt A j d).getD j 0 = A.getD j 0 + d := by rw [PD.addAt_get, if_pos ⟨rfl, h⟩]
theorem zip_add0 {N : Nat} {A B C : List Int} {j : Nat} (h : j < A.length) (d : Int) : (zip3 N A B C).set j [A.getD j 0 + d, B.getD j 0, C.getD j 0] = zip3 N (addAt A j d) B C := by
  rw [← add_eq h d]; exact zip_set fun m _ hm => ⟨add_ne _ _ _ _ hm, rfl, rfl⟩
theorem zip_add1 {N : Nat} {A B C : List Int} {j : Nat} (h : j < B.length) (d : Int) : (zip3 N A B C).set j [A.getD j 0, B.getD j 0 + d, C.getD j 0] = zip3 N A (addAt B j d) C := by
  rw [← add_eq h d]; exact zip_set fun m _ hm => ⟨rfl, add_ne _ _ _ _ hm, rfl⟩
theorem zip_add2 {N : Nat} {A B C : List Int} {j : Nat} (h : j < C.length) (d : Int) : (zip3 N A B C).set j [A.getD j 0, B.getD j 0, C.getD j 0 + d] = zip3 N A B (addAt C j d) := by
  rw [← add_eq h d]; exact zip_set fun m _ hm => ⟨rfl, rfl, add_ne _ _ _ _ hm⟩
theorem r1_len (l : List Int) : (rows1 l).length = l.length := by unfold rows1; simp
theorem r1_at {l : List Int} {m : Nat} (h : m < l.length) : (rows1 l).getD m [] = [l.getD m 0] := by unfold rows1; rw [PR.map_getD _ _ 0 [] h]
theorem r1_set (l : List Int) (j : Nat) (v : Int) : (rows1 l).set j [v] = rows1 (l.set j v) := by
  unfold rows1; rw [List.map_set]
theorem r1_add (l : List Int) (j : Nat) (d : Int) : (rows1 l).set j [l.getD j 0 + d] = rows1 (addAt l j d) := r1_set l j _
theorem r1_app (l : List Int) (v : Int) : rows1 l ++ [[v]] = rows1 (l ++ [v]) := by unfold rows1; simp
theorem col_len (c : Nat) (rows : List (List Int)) : (colR c rows).length = rows.length := by unfold colR; simp
theorem col_at (c : Nat) {rows : List (List Int)} {k : Nat} (h : k < rows.length) : (colR c rows).getD k 0 = (rows.getD k []).getD c 0 := by unfold colR; rw [PR.map_getD _ _ [] 0 h]
/-- what is handed on is the same, whatever it is added to -/
theorem rel_next {p A l : List Int} {W H k : Nat} {left b : Int} (hW : 0 < W) (h : RelS p A l k) : RelS p (handOn W H k left A) (handOn W H k left (l.set k b)) (k + 1) := by
  obtain ⟨h1, h2, h3⟩ := h
  refine ⟨by rw [PD.handOn_len, h1], by rw [PD.handOn_len]; simpa using h2, fun m hm => ?_⟩
  have base : (l.set k b).getD m 0 = p.getD m 0 + A.getD m 0 := by rw [PD.getD_set_ne _ _ _ _ (by omega)]; exact h3 m (by omega)
  have ad : ∀ (A l : List Int) (j : Nat) (d : Int), A.length = p.length → l.length = p.length → l.getD m 0 = p.getD m 0 + A.getD m 0 → (addAt l j d).getD m 0 = p.getD m 0 + (addAt A j d).getD m 0 := by
    intro A l j d e1 e2 e
    rw [PD.addAt_get, PD.addAt_get, e, e1, e2]
    split <;> omega
  have cd : ∀ (c : Prop) [Decidable c] (A l : List Int) (j : Nat) (d : Int), A.length = p.length → l.length = p.length → l.getD m 0 = p.getD m 0 + A.getD m 0 →
      (if c then addAt A j d else A).length = p.length ∧ (if c then addAt l j d else l).length = p.length ∧ (if c then addAt l j d else l).getD m 0 = p.getD m 0 + (if c then addAt A j d else A).getD m 0 := by
    intro c _ A l j d e1 e2 e
    split
    · exact ⟨by rw [PD.addAt_len, e1], by rw [PD.addAt_len, e2], ad A l j d e1 e2 e⟩
    · exact ⟨e1, e2, e⟩
  unfold handOn
  simp only []
  obtain ⟨a1, a2, a3⟩ := cd (k % W + 1 < W) A (l.set k b) (k + 1) (7 * left / 16) h1 (by simpa using h2) base
  obtain ⟨b1, b2, b3⟩ := cd (k / W + 1 < H ∧ 0 < k % W) _ _ (k + W - 1) (3 * left / 16) a1 a2 a3
  obtain ⟨c1, c2, c3⟩ := cd (k / W + 1 < H) _ _ (k + W) (5 * left / 16) b1 b2 b3
  exact (cd (k / W + 1 < H ∧ k % W + 1 < W) _ _ (k + W + 1) (left / 16) c1 c2 c3).2.2
theorem rel_zero (p : List Int) : RelS p (List.replicate p.length 0) p 0 := by
  refine ⟨by simp, rfl, fun m _ => ?_⟩
  rw [List.getD_eq_getElem?_getD (l := List.replicate _ _), List.getElem?_replicate]
  split <;> simp
theorem zip_zero (N : Nat) (a b c : Nat) : zip3 N (List.replicate a 0) (List.replicate b 0) (List.replicate c 0) = List.replicate N [0, 0, 0] := by
  have z : ∀ a m, (List.replicate a (0 : Int)).getD m 0 = 0 := fun a m => by
    rw [List.getD_eq_getElem?_getD, List.getElem?_replicate]; split <;> simp
  unfold zip3
  simp only [z]
  rw [List.map_const', List.length_range]
theorem col_b {W H : Int} {rows : List (List Int)} (hp : picB W H rows = true) (hf : Fit3 rows) {c : Nat} (hc : c < 3) (m : Nat) : 0 ≤ (colR c rows).getD m 0 ∧ (colR c rows).getD m 0 ≤ 255 := by
  rcases Nat.lt_or_ge m rows.length with h | h
  · rw [col_at c h]
    have hb := PPi.pic_at hp h
    obtain ⟨x, y, z, e, _⟩ := hf m h
    rw [e] at hb ⊢
    simp only [bytesB, byteB, List.all_cons, List.all_nil, Bool.and_true, Bool.and_eq_true, decide_eq_true_eq] at hb
    rcases (show c = 0 ∨ c = 1 ∨ c = 2 by omega) with rfl | rfl | rfl <;> simp <;> omega
  · rw [List.getD_eq_getElem?_getD, List.getElem?_eq_none (by rw [col_len]; exact h)]; simp
theorem spr_len (n : Int) (W H : Nat) (rows : List (List Int)) : (sprR n W H rows).length = rows.length := zip_len _ _ _ _
theorem spr_at {n : Int} {W H : Nat} (hW : 0 < W) {rows : List (List Int)} {k : Nat} (h : k < rows.length) : (sprR n W H rows).getD k [] = [atN n ((spUpto n W H (colR 0 rows) k).getD k 0), atN n ((spUpto n W H (colR 1 rows) k).getD k 0), atN n ((spUpto n W H (colR 2 rows) k).getD k 0)] := by
  unfold sprR
  rw [zip_at _ _ _ h]
  have key : ∀ c, (spUpto n W H (colR c rows) rows.length).getD k 0 = atN n ((spUpto n W H (colR c rows) k).getD k 0) := fun c => by
    rw [PD.sp_done n hW _ k rows.length h, PD.sp_at n hW (by rw [col_len]; exact h)]
  rw [key, key, key]
/-- all that a step of a channel asks -/
theorem step_of {W H : Int} {n : Int} (hn : 2 ≤ n ∧ n ≤ 16) {rows : List (List Int)} (hl : rows.length ≤ 64) (hp : picB W H rows = true) (hf : Fit3 rows) {c : Nat} (hc : c < 3) {A : List Int} {k : Nat} (hk : k < rows.length)
    (hr : RelS (colR c rows) A (spUpto n W.toNat H.toNat (colR c rows) k) k) :
    A.length = rows.length ∧ (∀ m, k ≤ m → -100000 ≤ A.getD m 0 ∧ A.getD m 0 ≤ 100000) ∧ (spUpto n W.toNat H.toNat (colR c rows) k).getD k 0 = (rows.getD k []).getD c 0 + A.getD k 0 ∧ absD ((spUpto n W.toNat H.toNat (colR c rows) k).getD k 0 - atN n ((spUpto n W.toNat H.toNat (colR c rows) k).getD k 0)) ≤ 5000 ∧
    RelS (colR c rows) (handOn W.toNat H.toNat k ((spUpto n W.toNat H.toNat (colR c rows) k).getD k 0 - atN n ((spUpto n W.toNat H.toNat (colR c rows) k).getD k 0)) A) (spUpto n W.toNat H.toNat (colR c rows) (k + 1)) (k + 1) := by
  have hs := PPi.pic_sides hp
  have hx := fun m hm => PD.sp_x (H := H.toNat) hn.1 hn.2 (show 0 < W.toNat by omega) (fun m => col_b hp hf hc m) k m hm
  obtain ⟨h1, h2, h3⟩ := hr
  refine ⟨by rw [h1, col_len], fun m hm => ?_, ?_, ?_, ?_⟩
  · have a := hx m hm
    have b := h3 m hm
    have d := col_b hp hf hc m
    omega
  · rw [h3 k (Nat.le_refl k), col_at c hk]
  · have a := hx k (Nat.le_refl k)
    have b := PD.atN_b hn.1 hn.2 ((spUpto n W.toNat H.toNat (colR c rows) k).getD k 0)
    unfold absD; omega
  · rw [PD.spUpto_set]
    exact rel_next (show 0 < W.toNat by omega) ⟨h1, h2, h3⟩
end PS
end Go.AW
