/- Plain laws of pictures of few levels: plain, spread, ordered. -/
import Derived.Test.YthhhgdefejogoaaPDither
import Derived.Test.YthhhgdefejogoaaPPic
namespace Go.AW
open Go
set_option linter.unusedVariables false
open Classical in
/-- the nearest level, where there is one -/
noncomputable def nearF (n x : Int) : Int := if h : ∃ k, NearP n x k then h.choose else 0
noncomputable def atN (n x : Int) : Int := lvI n (nearF n x)
noncomputable def plainR (n : Int) (rows : List (List Int)) : List (List Int) := rows.map fun r => r.map (atN n)
namespace PD
theorem nearF_of {n x k : Int} (h : NearP n x k) : nearF n x = k := by
  have e : ∃ k, NearP n x k := ⟨k, h⟩
  unfold nearF
  rw [dif_pos e]
  exact near_uniq e.choose_spec h
/-- there is a nearest level -/
theorem near_ex {n : Int} (h : 2 ≤ n) (h' : n ≤ 16) (x : Int) : ∃ k, NearP n x k := by
  have key : ∀ (d : Nat) (k : Int), (n - k).toNat = d → 0 ≤ k → k < n → (k = 0 ∨ lvI n k ≤ x) → ∃ k, NearP n x k := by
    intro d
    induction d with
    | zero => intro k h1 h2 h3 _; omega
    | succ d ih =>
      intro k h1 h2 h3 h4
      by_cases g : k + 1 < n ∧ lvI n (k + 1) ≤ x
      · exact ih (k + 1) (by omega) (by omega) g.1 (.inr g.2)
      · have := near_of h h' h2 h3 h4 (by omega)
        by_cases q : k + 1 < n ∧ x - lvI n k > lvI n (k + 1) - x
        · exact ⟨_, this.1 q⟩
        · exact ⟨_, this.2 q⟩
  exact key _ 0 rfl (by omega) (by omega) (.inl rfl)
theorem nearF_spec {n : Int} (h : 2 ≤ n) (h' : n ≤ 16) (x : Int) : NearP n x (nearF n x) := by
  obtain ⟨k, hk⟩ := near_ex h h' x
  rw [nearF_of hk]; exact hk
theorem atN_b {n : Int} (h : 2 ≤ n) (h' : n ≤ 16) (x : Int) : 0 ≤ atN n x ∧ atN n x ≤ 255 := by
  have := nearF_spec h h' x
  exact lv_b h h' this.k0 this.k1
theorem atN_self {n k : Int} (h : 2 ≤ n) (h' : n ≤ 16) (k0 : 0 ≤ k) (k1 : k < n) : atN n (lvI n k) = lvI n k := by
  unfold atN; rw [nearF_of (near_self h h' k0 k1)]
theorem atN_at {n : Int} (h : 2 ≤ n) (h' : n ≤ 16) (x : Int) : atN n (atN n x) = atN n x := by
  have := nearF_spec h h' x
  exact atN_self h h' this.k0 this.k1
/-- how far a number is from its level -/
theorem atN_far {n : Int} (h : 2 ≤ n) (h' : n ≤ 16) (x : Int) : (x < 0 → atN n x = 0) ∧ (255 < x → atN n x = 255) ∧ (0 ≤ x → x ≤ 255 → absD (x - atN n x) ≤ 128) := by
  have hk := nearF_spec h h' x
  refine ⟨fun g => ?_, fun g => ?_, fun g g' => ?_⟩
  · unfold atN; rw [near_low h h' (by omega) hk]; exact lv_0 n
  · unfold atN; rw [near_high h h' (by omega) hk]; exact lv_last h
  · have a := hk.le 0 (by omega) (by omega)
    have b := hk.le (n - 1) (by omega) (by omega)
    rw [lv_0] at a; rw [lv_last h] at b
    unfold atN
    unfold absD at *
    omega
end PD
/-! ### spread -/
def addAt (l : List Int) (j : Nat) (d : Int) : List Int := l.set j (l.getD j 0 + d)
/-- what is left is handed on -/
def handOn (W H i : Nat) (left : Int) (l : List Int) : List Int :=
  let l1 := if i % W + 1 < W then addAt l (i + 1) (7 * left / 16) else l
  let l2 := if i / W + 1 < H ∧ 0 < i % W then addAt l1 (i + W - 1) (3 * left / 16) else l1
  let l3 := if i / W + 1 < H then addAt l2 (i + W) (5 * left / 16) else l2
  if i / W + 1 < H ∧ i % W + 1 < W then addAt l3 (i + W + 1) (left / 16) else l3
noncomputable def spStep (n : Int) (W H : Nat) (l : List Int) (i : Nat) : List Int := handOn W H i (l.getD i 0 - atN n (l.getD i 0)) (l.set i (atN n (l.getD i 0)))
noncomputable def spUpto (n : Int) (W H : Nat) (l : List Int) : Nat → List Int
  | 0 => l
  | i + 1 => spStep n W H (spUpto n W H l i) i
namespace PD
theorem addAt_len (l : List Int) (j : Nat) (d : Int) : (addAt l j d).length = l.length := by unfold addAt; simp
theorem addAt_get (l : List Int) (j : Nat) (d : Int) (m : Nat) : (addAt l j d).getD m 0 = if m = j ∧ m < l.length then l.getD m 0 + d else l.getD m 0 := by
  unfold addAt
  simp only [List.getD_eq_getElem?_getD, List.getElem?_set]
  by_cases e : j = m
  · subst e
    by_cases g : j < l.length
    · simp [g]
    · simp [g]
  · rw [if_neg e, if_neg (by omega)]
theorem handOn_len (W H i : Nat) (left : Int) (l : List Int) : (handOn W H i left l).length = l.length := by
  unfold handOn
  simp only []
  split <;> split <;> split <;> split <;> simp [addAt_len]
theorem spStep_len (n : Int) (W H : Nat) (l : List Int) (i : Nat) : (spStep n W H l i).length = l.length := by unfold spStep; rw [handOn_len]; simp
theorem spUpto_len (n : Int) (W H : Nat) (l : List Int) : ∀ i, (spUpto n W H l i).length = l.length
  | 0 => rfl
  | i + 1 => by rw [spUpto, spStep_len, spUpto_len n W H l i]
/-- how much a place gets from one that is done -/
def getsI (i W m : Nat) (b : Int) : Int := (if i + 1 = m then 7 * b + 16 else 0) + (if i + W = m + 1 then 3 * b + 16 else 0) + (if i + W = m then 5 * b + 16 else 0) + (if i + W + 1 = m then b + 16 else 0)
/-- how much a place has at most got, times 16, when i are done -/
def hasI (i W m : Nat) (b : Int) : Int := (if m < i + 1 then 7 * b + 16 else 0) + (if m + 1 < i + W then 3 * b + 16 else 0) + (if m < i + W then 5 * b + 16 else 0) + (if m < i + W + 1 then b + 16 else 0)
theorem addAt_by {l : List Int} {j : Nat} {d e : Int} {m : Nat} (hd : absD d * 16 ≤ e) : absD ((addAt l j d).getD m 0 - l.getD m 0) * 16 ≤ if j = m then e else 0 := by
  rw [addAt_get]
  unfold absD at *
  by_cases g : m = j
  · subst g; simp only [if_pos]; split <;> omega
  · rw [if_neg (by omega), if_neg (by omega)]; omega
theorem absD_tri (a b c : Int) : absD (a - c) ≤ absD (a - b) + absD (b - c) := by unfold absD; omega
theorem ite_iff {p q : Prop} [Decidable p] [Decidable q] (h : p ↔ q) (a b : Int) : (if p then a else b) = if q then a else b := by
  by_cases g : p
  · rw [if_pos g, if_pos (h.1 g)]
  · rw [if_neg g, if_neg (fun k => g (h.2 k))]
theorem cond_by {c : Prop} [Decidable c] {l k : List Int} {m : Nat} {e : Int} (he : 0 ≤ e) (h : absD (k.getD m 0 - l.getD m 0) * 16 ≤ e) : absD ((if c then k else l).getD m 0 - l.getD m 0) * 16 ≤ e := by
  split
  · exact h
  · unfold absD; omega
theorem handOn_at {W H i : Nat} (hW : 0 < W) {left b : Int} (hb : absD left ≤ b) (l : List Int) (m : Nat) : absD ((handOn W H i left l).getD m 0 - l.getD m 0) * 16 ≤ getsI i W m b := by
  have hb' : -b ≤ left ∧ left ≤ b := by unfold absD at hb; omega
  have d7 : absD (7 * left / 16) * 16 ≤ 7 * b + 16 := by unfold absD; omega
  have d3 : absD (3 * left / 16) * 16 ≤ 3 * b + 16 := by unfold absD; omega
  have d5 : absD (5 * left / 16) * 16 ≤ 5 * b + 16 := by unfold absD; omega
  have d1 : absD (left / 16) * 16 ≤ b + 16 := by unfold absD; omega
  have hb0 : 0 ≤ b := by omega
  unfold handOn getsI
  simp only []
  generalize e1 : (if i % W + 1 < W then addAt l (i + 1) (7 * left / 16) else l) = l1
  generalize e2 : (if i / W + 1 < H ∧ 0 < i % W then addAt l1 (i + W - 1) (3 * left / 16) else l1) = l2
  generalize e3 : (if i / W + 1 < H then addAt l2 (i + W) (5 * left / 16) else l2) = l3
  have s1 : absD (l1.getD m 0 - l.getD m 0) * 16 ≤ if i + 1 = m then 7 * b + 16 else 0 := by rw [← e1]; exact cond_by (by split <;> omega) (addAt_by d7)
  have s2 : absD (l2.getD m 0 - l1.getD m 0) * 16 ≤ if i + W - 1 = m then 3 * b + 16 else 0 := by rw [← e2]; exact cond_by (by split <;> omega) (addAt_by d3)
  have s3 : absD (l3.getD m 0 - l2.getD m 0) * 16 ≤ if i + W = m then 5 * b + 16 else 0 := by rw [← e3]; exact cond_by (by split <;> omega) (addAt_by d5)
  have s4 : absD ((if i / W + 1 < H ∧ i % W + 1 < W then addAt l3 (i + W + 1) (left / 16) else l3).getD m 0 - l3.getD m 0) * 16 ≤ if i + W + 1 = m then b + 16 else 0 := cond_by (by split <;> omega) (addAt_by d1)
  generalize (if i / W + 1 < H ∧ i % W + 1 < W then addAt l3 (i + W + 1) (left / 16) else l3) = l4 at *
  have t1 := absD_tri (l4.getD m 0) (l3.getD m 0) (l.getD m 0)
  have t2 := absD_tri (l3.getD m 0) (l2.getD m 0) (l.getD m 0)
  have t3 := absD_tri (l2.getD m 0) (l1.getD m 0) (l.getD m 0)
  rw [show (if i + W - 1 = m then 3 * b + 16 else 0) = (if i + W = m + 1 then 3 * b + 16 else 0) from ite_iff (by omega) _ _] at s2
  omega
theorem spUpto_set (n : Int) (W H : Nat) (l : List Int) (i : Nat) : spUpto n W H l (i + 1) = handOn W H i ((spUpto n W H l i).getD i 0 - atN n ((spUpto n W H l i).getD i 0)) ((spUpto n W H l i).set i (atN n ((spUpto n W H l i).getD i 0))) := rfl
theorem getD_set_ne (l : List Int) (i m : Nat) (v : Int) (h : i ≠ m) : (l.set i v).getD m 0 = l.getD m 0 := by
  simp only [List.getD_eq_getElem?_getD, List.getElem?_set, if_neg h]
theorem sp_left {n : Int} (h : 2 ≤ n) (h' : n ≤ 16) {x y b : Int} (hb : 128 ≤ b) (hy : 0 ≤ y ∧ y ≤ 255) (hx : absD (x - y) ≤ b) : absD (x - atN n x) ≤ b := by
  obtain ⟨f1, f2, f3⟩ := atN_far h h' x
  rcases Int.lt_or_le x 0 with g | g
  · rw [f1 g]; unfold absD at *; omega
  · rcases Int.lt_or_le 255 x with g2 | g2
    · rw [f2 g2]; unfold absD at *; omega
    · have := f3 g g2; omega
/-- how far what is handed on goes -/
theorem sp_b {n : Int} (h : 2 ≤ n) (h' : n ≤ 16) {W H : Nat} (hW : 0 < W) {l : List Int} (hl : ∀ m, 0 ≤ l.getD m 0 ∧ l.getD m 0 ≤ 255) : ∀ (i m : Nat), i ≤ m → absD ((spUpto n W H l i).getD m 0 - l.getD m 0) * 16 ≤ hasI i W m (128 + 4 * i)
  | 0, m, hm => by unfold spUpto hasI absD; repeat' split
                   all_goals omega
  | i + 1, m, hm => by
    have a := sp_b (H := H) h h' hW hl i i (Nat.le_refl i)
    have b := sp_b (H := H) h h' hW hl i m (by omega)
    have hx : absD ((spUpto n W H l i).getD i 0 - l.getD i 0) ≤ 132 + 4 * i := by
      unfold hasI at a
      rw [if_pos (by omega)] at a
      repeat' split at a
      all_goals omega
    have hlft := sp_left h h' (by omega) (hl i) hx
    have c := handOn_at (W := W) (H := H) (i := i) hW hlft ((spUpto n W H l i).set i (atN n ((spUpto n W H l i).getD i 0))) m
    rw [← spUpto_set, getD_set_ne _ _ _ _ (by omega)] at c
    have t := absD_tri ((spUpto n W H l (i + 1)).getD m 0) ((spUpto n W H l i).getD m 0) (l.getD m 0)
    have e : hasI i W m (128 + 4 * i) + getsI i W m (132 + 4 * i) ≤ hasI (i + 1) W m (128 + 4 * ((i + 1 : Nat) : Int)) := by
      unfold hasI getsI
      have q1 : (if m < i + 1 then 7 * (128 + 4 * (i : Int)) + 16 else 0) + (if i + 1 = m then 7 * (132 + 4 * (i : Int)) + 16 else 0) ≤ (if m < i + 1 + 1 then 7 * (128 + 4 * ((i + 1 : Nat) : Int)) + 16 else 0) := by (repeat' split) <;> omega
      have q2 : (if m + 1 < i + W then 3 * (128 + 4 * (i : Int)) + 16 else 0) + (if i + W = m + 1 then 3 * (132 + 4 * (i : Int)) + 16 else 0) ≤ (if m + 1 < i + 1 + W then 3 * (128 + 4 * ((i + 1 : Nat) : Int)) + 16 else 0) := by (repeat' split) <;> omega
      have q3 : (if m < i + W then 5 * (128 + 4 * (i : Int)) + 16 else 0) + (if i + W = m then 5 * (132 + 4 * (i : Int)) + 16 else 0) ≤ (if m < i + 1 + W then 5 * (128 + 4 * ((i + 1 : Nat) : Int)) + 16 else 0) := by (repeat' split) <;> omega
      have q4 : (if m < i + W + 1 then (128 + 4 * (i : Int)) + 16 else 0) + (if i + W + 1 = m then (132 + 4 * (i : Int)) + 16 else 0) ≤ (if m < i + 1 + W + 1 then (128 + 4 * ((i + 1 : Nat) : Int)) + 16 else 0) := by (repeat' split) <;> omega
      omega
    omega
theorem sp_x {n : Int} (h : 2 ≤ n) (h' : n ≤ 16) {W H : Nat} (hW : 0 < W) {l : List Int} (hl : ∀ m, 0 ≤ l.getD m 0 ∧ l.getD m 0 ≤ 255) (i m : Nat) (hm : i ≤ m) : -(200 + 4 * (i : Int)) ≤ (spUpto n W H l i).getD m 0 ∧ (spUpto n W H l i).getD m 0 ≤ 400 + 4 * i := by
  have a := sp_b (H := H) h h' hW hl i m hm
  have := hl m
  unfold hasI at a
  unfold absD at a
  repeat' split at a
  all_goals omega
/-- what is done stays -/
theorem sp_done (n : Int) {W H : Nat} (hW : 0 < W) (l : List Int) (m : Nat) : ∀ i, m < i → (spUpto n W H l i).getD m 0 = (spUpto n W H l (m + 1)).getD m 0
  | 0, h => by omega
  | i + 1, h => by
    by_cases e : m = i
    · subst e; rfl
    · rw [← sp_done n hW l m i (by omega), spUpto_set]
      have key : ∀ k : List Int, (handOn W H i ((spUpto n W H l i).getD i 0 - atN n ((spUpto n W H l i).getD i 0)) k).getD m 0 = k.getD m 0 := by
        intro k
        have ad : ∀ (k : List Int) (j : Nat) (d : Int), j ≠ m → (addAt k j d).getD m 0 = k.getD m 0 := fun k j d hj => by rw [addAt_get, if_neg (by omega)]
        unfold handOn
        simp only []
        have z1 := ad; 
        split <;> split <;> split <;> split <;> simp (disch := omega) only [ad]
      rw [key, getD_set_ne _ _ _ _ (by omega)]
theorem sp_at (n : Int) {W H : Nat} (hW : 0 < W) {l : List Int} {m : Nat} (hm : m < l.length) : (spUpto n W H l (m + 1)).getD m 0 = atN n ((spUpto n W H l m).getD m 0) := by
  rw [spUpto_set]
  have ad : ∀ (k : List Int) (j : Nat) (d : Int), j ≠ m → (addAt k j d).getD m 0 = k.getD m 0 := fun k j d hj => by rw [addAt_get, if_neg (by omega)]
  have key : ∀ (k : List Int) (left : Int), (handOn W H m left k).getD m 0 = k.getD m 0 := by
    intro k left
    unfold handOn
    simp only []
    by_cases w : W = 1
    · subst w
      rw [if_neg (show ¬ (m % 1 + 1 < 1) by omega), if_neg (show ¬ (m / 1 + 1 < H ∧ 0 < m % 1) by omega), if_neg (show ¬ (m / 1 + 1 < H ∧ m % 1 + 1 < 1) by omega)]
      split
      · exact ad _ _ _ (by omega)
      · rfl
    · split <;> split <;> split <;> split <;> simp (disch := omega) only [ad]
  rw [key, List.getD_eq_getElem?_getD, List.getElem?_set_self (by rw [spUpto_len]; exact hm)]; rfl
end PD
end Go.AW
