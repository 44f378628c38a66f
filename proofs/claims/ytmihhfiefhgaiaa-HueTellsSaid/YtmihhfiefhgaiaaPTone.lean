/- Plain laws of films as bytes. -/
import Derived.Test.YtmihhfiefhgaiaaPNum
import Derived.Test.YtmihhfiefhgaiaaPList
namespace Go.AW
open Go
set_option linter.unusedVariables false

abbrev K3 : List CK := [.ik .u64, .ik .u64, .ik .u64]
abbrev c0 (r : List Int) : Int := r.headD 0
abbrev c1 (r : List Int) : Int := r.tail.headD 0
abbrev c2 (r : List Int) : Int := r.tail.tail.headD 0
def whiteS (w : Int) (r : List Int) : Int := mmI true (mmI true (mmI true w (c0 r)) (c1 r)) (c2 r)
def whiteI (rows : List (List Int)) : Int := rows.foldl whiteS 0
def sumS (s : Int) (r : List Int) : Int := s + c0 r + c1 r + c2 r
def sumI (rows : List (List Int)) : Int := rows.foldl sumS 0
/-- all three channels are numbers of 64 bits -/
def FitU (r : List Int) : Prop := 0 ≤ c0 r ∧ c0 r < 18446744073709551616 ∧ 0 ≤ c1 r ∧ c1 r < 18446744073709551616 ∧ 0 ≤ c2 r ∧ c2 r < 18446744073709551616
def byteI (x w : Int) (r : Bool) : Int :=
  let all : Int := if r then 65025 else 255
  if w = 0 then 0 else
    let q := if x ≥ w then all else x * all / w
    if r then rootI q else q
theorem sumI_all {rows : List (List Int)} (hf : ∀ r ∈ rows, FitU r) : 0 ≤ sumI rows ∧ sumI rows ≤ rows.length * (3 * 18446744073709551615) := by
  have := upto_ind sumS 0 [] rows (fun i x => 0 ≤ x ∧ x ≤ (i : Int) * (3 * 18446744073709551615)) (by simp) (by
    intro i x hi ⟨h1, h2⟩
    obtain ⟨a0, a1, b0, b1, d0, d1⟩ := hf _ (getD_mem hi [])
    show 0 ≤ x + c0 (rows.getD i []) + c1 (rows.getD i []) + c2 (rows.getD i []) ∧ x + c0 (rows.getD i []) + c1 (rows.getD i []) + c2 (rows.getD i []) ≤ ((i + 1 : Nat) : Int) * (3 * 18446744073709551615)
    omega)
  exact this
theorem sumI_pos {rows : List (List Int)} (hf : ∀ r ∈ rows, FitU r) : 0 ≤ sumI rows := (sumI_all hf).1
theorem sumI_upto {rows : List (List Int)} (hf : ∀ r ∈ rows, FitU r) (i : Int) (h0 : 0 ≤ i) (h : i ≤ rows.length) : upto sumS 0 rows i ≤ sumI rows := by
  have key : ∀ k : Nat, i + k ≤ rows.length → upto sumS 0 rows i ≤ upto sumS 0 rows (i + k) := by
    intro k
    induction k with
    | zero => intro _; simp
    | succ k ih =>
      intro hk
      have e := upto_step sumS 0 [] rows (i := i + k) (by omega) (by omega)
      obtain ⟨a0, a1, b0, b1, d0, d1⟩ := hf _ (getD_mem (rows := rows) (i := (i + k).toNat) (by omega) [])
      have e2 : sumS (upto sumS 0 rows (i + k)) (rows.getD (i + k).toNat []) = upto sumS 0 rows (i + k) + c0 (rows.getD (i + k).toNat []) + c1 (rows.getD (i + k).toNat []) + c2 (rows.getD (i + k).toNat []) := rfl
      have := ih (by omega)
      rw [show i + ((k + 1 : Nat) : Int) = i + k + 1 by omega, e, e2]
      omega
  have := key (rows.length - i.toNat) (by omega)
  rwa [upto_all _ _ _ (i := i + ((rows.length - i.toNat : Nat) : Int)) (by omega)] at this
theorem sumI_hi {rows : List (List Int)} (hf : ∀ r ∈ rows, FitU r) : sumI rows ≤ rows.length * (3 * 18446744073709551615) := (sumI_all hf).2
theorem mean_fin {u l n : Int} (hn : 1 ≤ n) (hn' : n ≤ 3000000) (u0 : 0 ≤ u) (l0 : 0 ≤ l) (u1 : u ≤ n * 4294967295) (l1 : l ≤ n * 4294967296) (hs : u * 4294967296 + l ≤ n * 18446744073709551615) :
    Z.add .u64 (Z.shl .u64 (Z.quo .u64 u n) 32) (Z.quo .u64 (Z.add .u64 (Z.shl .u64 (Z.rem .u64 u n) 32) l) n) = (u * 4294967296 + l) / n := by
  have shl : ∀ a, Z.shl .u64 a 32 = (a * 4294967296) % 18446744073709551616 := fun a => Z.wrap_u _
  have q0 : 0 ≤ u / n := Int.ediv_nonneg u0 (by omega)
  have q1 : u / n < 4294967296 := Int.ediv_lt_of_lt_mul (by omega) (by omega)
  have r0 := Int.emod_nonneg u (show n ≠ 0 by omega)
  have r1 := Int.emod_lt_of_pos u (show 0 < n by omega)
  have e := Int.emod_add_mul_ediv u n
  have eq : Z.quo .u64 u n = u / n := by unfold Z.quo; rw [Int.tdiv_eq_ediv_of_nonneg u0]; exact Z.wrap_uid q0 (by omega)
  have er : Z.rem .u64 u n = u % n := Int.tmod_eq_emod_of_nonneg u0
  rw [eq, er, shl, shl, Int.emod_eq_of_lt (show 0 ≤ u / n * 4294967296 by omega) (by omega), Int.emod_eq_of_lt (show 0 ≤ u % n * 4294967296 by omega) (by omega)]
  have ea : Z.add .u64 (u % n * 4294967296) l = u % n * 4294967296 + l := Z.wrap_uid (by omega) (by omega)
  rw [ea]
  have e2 : u * 4294967296 + l = u % n * 4294967296 + l + n * (u / n * 4294967296) := by
    have : u * 4294967296 = (u % n + n * (u / n)) * 4294967296 := by rw [e]
    rw [this, Int.add_mul, Int.mul_assoc]; omega
  have e3 : (u * 4294967296 + l) / n = (u % n * 4294967296 + l) / n + u / n * 4294967296 := by
    rw [e2]; exact Int.add_mul_ediv_left _ _ (by omega)
  have e4 : (u * 4294967296 + l) / n < 18446744073709551616 := Int.ediv_lt_of_lt_mul (by omega) (by omega)
  have e5 : 0 ≤ (u % n * 4294967296 + l) / n := Int.ediv_nonneg (by omega) (by omega)
  have e6 : Z.quo .u64 (u % n * 4294967296 + l) n = (u % n * 4294967296 + l) / n := by
    unfold Z.quo; rw [Int.tdiv_eq_ediv_of_nonneg (by omega)]; exact Z.wrap_uid e5 (by omega)
  rw [e6, e3]
  exact (Z.wrap_uid (by omega) (by omega)).trans (by omega)
/-- the byte's number, before a root -/
def allI (r : Bool) : Int := if r then 65025 else 255
def qI (x w : Int) (r : Bool) : Int := if x ≥ w then allI r else x * allI r / w
theorem allI_le (r : Bool) : 255 ≤ allI r ∧ allI r ≤ 65025 := by cases r <;> decide
theorem qI_range {x w : Int} (r : Bool) (hx : 0 ≤ x) (hw : 0 < w) : 0 ≤ qI x w r ∧ qI x w r ≤ allI r := by
  have ha := allI_le r
  unfold qI
  split
  · omega
  · refine ⟨Int.ediv_nonneg (Int.mul_nonneg hx (by omega)) (by omega), ?_⟩
    have : x * allI r / w < allI r := by
      refine Int.ediv_lt_of_lt_mul hw ?_
      rw [Int.mul_comm (allI r)]
      exact Int.mul_lt_mul_of_pos_right (by omega) (by omega)
    omega
theorem byteI_eq (x w : Int) (r : Bool) : byteI x w r = if w = 0 then 0 else if r then rootI (qI x w r) else qI x w r := by
  unfold byteI qI allI
  cases r <;> rfl
/-- the program's part: of what is held by the white -/
theorem part_held {x w : Int} (r : Bool) (hx : 0 ≤ x) (hw : 0 < w) : PN.partI (if x ≥ w then w else x) (allI r) w = qI x w r := by
  have ha := allI_le r
  unfold PN.partI qI
  have hle : (if x ≥ w then w else x) ≤ w := by split <;> omega
  have h0 : 0 ≤ (if x ≥ w then w else x) := by split <;> omega
  have h1 : (if x ≥ w then w else x) * allI r ≤ w * allI r := Int.mul_le_mul_of_nonneg_right hle (by omega)
  have h2 : w * allI r < w * 18446744073709551616 := Int.mul_lt_mul_of_pos_left (by omega) hw
  rw [if_pos (by omega)]
  split
  · rw [Int.mul_comm]; exact Int.mul_ediv_cancel _ (by omega)
  · rfl
/-- the document's part, held -/
theorem part_ref {x w : Int} (r : Bool) (hx : 0 ≤ x) (hw : 0 < w) : (if ¬ PN.partOk x (allI r) w = true ∨ PN.partI x (allI r) w > allI r then allI r else PN.partI x (allI r) w) = qI x w r := by
  have ha := allI_le r
  have hq := qI_range r hx hw
  unfold PN.partOk PN.partI qI at *
  by_cases h : x ≥ w
  · rw [if_pos h] at *
    have h1 : w * allI r ≤ x * allI r := Int.mul_le_mul_of_nonneg_right h (by omega)
    have h2 : allI r ≤ x * allI r / w := Int.le_ediv_of_mul_le hw (by rw [Int.mul_comm]; exact h1)
    by_cases h3 : x * allI r < w * 18446744073709551616
    · rw [if_pos h3]
      simp only [h3, decide_true, not_true_eq_false, false_or]
      split <;> omega
    · rw [if_pos (.inl (by simp [h3]))]
  · rw [if_neg h] at *
    have h1 : x * allI r ≤ w * allI r := Int.mul_le_mul_of_nonneg_right (by omega) (by omega)
    have h2 : w * allI r < w * 18446744073709551616 := Int.mul_lt_mul_of_pos_left (by omega) hw
    rw [if_pos (show x * allI r < w * 18446744073709551616 by omega)] at *
    rw [if_neg ?_]
    rintro (h3 | h3)
    · exact h3 (decide_eq_true (by omega))
    · omega
theorem byte_all : 1 = 1 := rfl
def mapRow (w : Int) (r : Bool) (row : List Int) : List Int := [byteI (c0 row) w r, byteI (c1 row) w r, byteI (c2 row) w r]
/-- the white that is meant -/
def whiteOr (rows : List (List Int)) (w : Int) : Int := if w = 0 then whiteI rows else w
def mapI (rows : List (List Int)) (w : Int) (r : Bool) : List (List Int) := rows.map (mapRow (whiteOr rows w) r)
theorem whiteI_range {rows : List (List Int)} (hf : ∀ r ∈ rows, FitU r) : 0 ≤ whiteI rows ∧ whiteI rows < 18446744073709551616 := by
  refine upto_ind whiteS 0 [] rows (fun i x => 0 ≤ x ∧ x < 18446744073709551616) (by omega) ?_
  intro i x hi ⟨h1, h2⟩
  obtain ⟨a0, a1, b0, b1, d0, d1⟩ := hf _ (getD_mem hi [])
  unfold whiteS
  have m1 := mx_spec x (c0 (rows.getD i []))
  have m2 := mx_spec (mmI true x (c0 (rows.getD i []))) (c1 (rows.getD i []))
  have m3 := mx_spec (mmI true (mmI true x (c0 (rows.getD i []))) (c1 (rows.getD i []))) (c2 (rows.getD i []))
  omega
/-- the rows up to the place i; behind it they are as they were made -/
def mapTo (f : List Int → List Int) (rows : List (List Int)) (i : Nat) : List (List Int) := (rows.take i).map f ++ List.replicate (rows.length - i) [0, 0, 0]
theorem mapTo_length (f : List Int → List Int) (rows : List (List Int)) (i : Nat) (h : i ≤ rows.length) : (mapTo f rows i).length = rows.length := by
  simp [mapTo]; omega
theorem mapTo_at (f : List Int → List Int) (rows : List (List Int)) (i : Nat) (h : i < rows.length) : (mapTo f rows i).getD i [] = [0, 0, 0] := by
  unfold mapTo
  rw [List.getD_eq_getElem?_getD, List.getElem?_append_right (by simp; omega)]
  simp [show min i rows.length = i by omega, show 0 < rows.length - i by omega]
theorem mapTo_set (f : List Int → List Int) (rows : List (List Int)) (i : Nat) (h : i < rows.length) : (mapTo f rows i).set i (f (rows.getD i [])) = mapTo f rows (i + 1) := by
  have e2 : (rows.take (i + 1)).map f = (rows.take i).map f ++ [f (rows.getD i [])] := by
    rw [List.take_add_one, List.getElem?_eq_getElem h, List.getD_eq_getElem?_getD, List.getElem?_eq_getElem h, List.map_append]; rfl
  unfold mapTo
  rw [e2, List.set_append_right _ _ (by simp; omega)]
  have e1 : i - ((rows.take i).map f).length = 0 := by simp; omega
  rw [e1, show rows.length - i = (rows.length - (i + 1)) + 1 by omega, List.replicate_succ, List.set_cons_zero, List.append_assoc]
  rfl
theorem mapTo_zero (f : List Int → List Int) (rows : List (List Int)) : mapTo f rows 0 = List.replicate rows.length [0, 0, 0] := by simp [mapTo]
theorem mapTo_all (f : List Int → List Int) (rows : List (List Int)) : mapTo f rows rows.length = rows.map f := by simp [mapTo]
theorem getD_set {α : Type} (l : List α) (i : Nat) (x d : α) (h : i < l.length) : (l.set i x).getD i d = x := by
  rw [List.getD_eq_getElem?_getD, List.getElem?_set_self h]; rfl
theorem set_set' {α : Type} (l : List α) (i : Nat) (x y : α) : (l.set i x).set i y = l.set i y := by simp
theorem row2_eq {a : Ob} {e : TypeId} {ks : List CK} {l l' : List (List Int)} {r : List Ob} (h : l = l') : a :: .row true e ks l :: r = a :: .row true e ks l' :: r := by rw [h]
theorem qI_lt {x w : Int} (r : Bool) (hx : 0 ≤ x) (hx' : x < 18446744073709551616) (hw : 0 < w) : 0 ≤ qI x w r ∧ qI x w r < 18446744073709551616 := by
  have := qI_range r hx hw; have := allI_le r; omega
theorem byteI_range {x w : Int} (r : Bool) (hx : 0 ≤ x) (hw : 0 ≤ w) : 0 ≤ byteI x w r ∧ byteI x w r ≤ 255 := by
  rw [byteI_eq]
  split
  · omega
  · have hq := qI_range r hx (show 0 < w by omega)
    cases r
    · simp only [Bool.false_eq_true, if_false]; exact ⟨hq.1, hq.2⟩
    · simp only [if_true]
      have ha : allI true = 65025 := rfl
      have R := PN.root_I hq.1 (by omega)
      refine ⟨R.pos, ?_⟩
      have := R.hi 256 (by omega) (by omega)
      omega
theorem qI_mono {x y w : Int} (r : Bool) (hx : 0 ≤ x) (hxy : x ≤ y) (hw : 0 < w) : qI x w r ≤ qI y w r := by
  have ha := allI_le r
  have hy := qI_range r hx hw
  unfold qI at *
  by_cases h1 : y ≥ w
  · rw [if_pos h1]; exact hy.2
  · rw [if_neg h1, if_neg (by omega)]
    exact Int.ediv_le_ediv hw (Int.mul_le_mul_of_nonneg_right hxy (by omega))
theorem byteI_mono {x y w : Int} (r : Bool) (hx : 0 ≤ x) (hxy : x ≤ y) (hw : 0 ≤ w) : byteI x w r ≤ byteI y w r := by
  rw [byteI_eq, byteI_eq]
  split
  · omega
  · have h := qI_mono r hx hxy (show 0 < w by omega)
    have q1 := qI_range r hx (show 0 < w by omega)
    have q2 := qI_range r (show 0 ≤ y by omega) (show 0 < w by omega)
    have ha := allI_le r
    cases r
    · exact h
    · exact (PN.root_I q1.1 (by omega)).mono (PN.root_I q2.1 (by omega)) h
theorem byteI_roots {x w : Int} (hx : 0 ≤ x) (hw : 0 ≤ w) : byteI x w false ≤ byteI x w true := by
  rw [byteI_eq, byteI_eq]
  split
  · omega
  · simp only [Bool.false_eq_true, if_false, if_true]
    have q1 := qI_range true hx (show 0 < w by omega)
    have q2 := qI_range false hx (show 0 < w by omega)
    have a1 : allI true = 65025 := rfl
    have a2 : allI false = 255 := rfl
    refine (PN.root_I q1.1 (by omega)).ge _ ?_
    by_cases h : x ≥ w
    · rw [show qI x w true = 65025 from if_pos h, show qI x w false = 255 from if_pos h]; omega
    · have f1 : qI x w true = x * 65025 / w := if_neg h
      have f2 : qI x w false = x * 255 / w := if_neg h
      rw [f1, f2]
      generalize hk : x * 255 / w = k
      have k1 : k * w ≤ x * 255 := by rw [← hk]; exact Int.ediv_mul_le _ (by omega)
      refine Int.le_ediv_of_mul_le (c := w) (show 0 < w by omega) ?_
      -- k k w w ≤ 65025 x x ≤ 65025 x w
      have k2 : (k * w) * (k * w) ≤ (x * 255) * (x * 255) := Int.mul_le_mul k1 k1 (Int.mul_nonneg (by rw [← hk]; exact Int.ediv_nonneg (by omega) hw) hw) (by omega)
      have k3 : (x * 255) * (x * 255) ≤ (x * 255) * (w * 255) := Int.mul_le_mul_of_nonneg_left (by omega) (by omega)
      have e1 : (k * w) * (k * w) = (k * k * w) * w := by rw [Int.mul_assoc, Int.mul_left_comm w, ← Int.mul_assoc, Int.mul_assoc (k * k)]
      have e2 : (x * 255) * (w * 255) = (x * 65025) * w := by rw [Int.mul_assoc, Int.mul_left_comm 255, ← Int.mul_assoc x, ← Int.mul_assoc, Int.mul_assoc x 65025, Int.mul_comm 65025, ← Int.mul_assoc, Int.mul_assoc (x * w)]; rfl
      have k4 : (k * k * w) * w ≤ (x * 65025) * w := by rw [← e1, ← e2]; exact Int.le_trans k2 k3
      have hw' : 0 < w := by omega
      exact Int.le_of_mul_le_mul_right k4 hw'
theorem byteI_falls {x w o : Int} (r : Bool) (hx : 0 ≤ x) (hw : 0 < w) (ho : w ≤ o) : byteI x o r ≤ byteI x w r := by
  rw [byteI_eq, byteI_eq, if_neg (show ¬ o = 0 by omega), if_neg (show ¬ w = 0 by omega)]
  have ha := allI_le r
  have q1 := qI_range r hx (show 0 < o by omega)
  have q2 := qI_range r hx hw
  have h : qI x o r ≤ qI x w r := by
    unfold qI at *
    by_cases h1 : x ≥ w
    · rw [if_pos h1]; exact q1.2
    · rw [if_neg h1, if_neg (show ¬ x ≥ o by omega)]
      have p0 : 0 ≤ x * allI r := Int.mul_nonneg hx (by omega)
      refine Int.le_ediv_of_mul_le hw ?_
      have p1 : x * allI r / o * w ≤ x * allI r / o * o := Int.mul_le_mul_of_nonneg_left ho (Int.ediv_nonneg p0 (by omega))
      have p2 := Int.ediv_mul_le (x * allI r) (show o ≠ 0 by omega)
      omega
  cases r
  · exact h
  · exact (PN.root_I q1.1 (by omega)).mono (PN.root_I q2.1 (by omega)) h
theorem byteI_white {x w : Int} (r : Bool) (hw : 0 < w) (h : w ≤ x) : byteI x w r = 255 := by
  rw [byteI_eq, if_neg (show ¬ w = 0 by omega)]
  unfold qI
  rw [if_pos h]
  cases r
  · rfl
  · decide +kernel
theorem byteI_zero {w : Int} (r : Bool) (hw : 0 < w) : byteI 0 w r = 0 := by
  rw [byteI_eq, if_neg (show ¬ w = 0 by omega)]
  unfold qI
  rw [if_neg (show ¬ (0 : Int) ≥ w by omega), Int.zero_mul, Int.zero_ediv]
  cases r
  · rfl
  · decide +kernel
def mapPre (f : List Int → List Int) (rows : List (List Int)) (i : Int) : List (List Int) := (rows.take i.toNat).map f
theorem mapPre_step (f : List Int → List Int) (rows : List (List Int)) {i : Int} (h0 : 0 ≤ i) (h : i < rows.length) : mapPre f rows (i + 1) = mapPre f rows i ++ [f (rows.getD i.toNat [])] := by
  unfold mapPre
  rw [show (i + 1).toNat = i.toNat + 1 by omega, List.take_add_one, List.getElem?_eq_getElem (show i.toNat < rows.length by omega), List.getD_eq_getElem?_getD, List.getElem?_eq_getElem (show i.toNat < rows.length by omega), List.map_append]; rfl
theorem mapPre_length (f : List Int → List Int) (rows : List (List Int)) {i : Int} (h0 : 0 ≤ i) (h : i ≤ rows.length) : ((mapPre f rows i).length : Int) = i := by
  unfold mapPre; simp; omega
theorem mapPre_all (f : List Int → List Int) (rows : List (List Int)) {i : Int} (h : rows.length ≤ i) : mapPre f rows i = rows.map f := by
  unfold mapPre; rw [List.take_of_length_le (by omega)]
theorem mapPre_one (f : List Int → List Int) (rows : List (List Int)) (h : 0 < rows.length) : mapPre f rows 1 = [f (rows.getD 0 [])] := by
  have := mapPre_step f rows (i := 0) (by omega) (by omega)
  simpa [mapPre] using this
theorem row3_eq {a b : Ob} {e : TypeId} {ks : List CK} {l l' : List (List Int)} {r : List Ob} (h : l = l') : a :: b :: .row true e ks l :: r = a :: b :: .row true e ks l' :: r := by rw [h]
def leastS (m : Int) (r : List Int) : Int := mmI false (mmI false (mmI false m (c0 r)) (c1 r)) (c2 r)
theorem least_all : ∀ (rows : List (List Int)) (a : Int), rows.foldl leastS a ≤ a ∧ ∀ r ∈ rows, rows.foldl leastS a ≤ c0 r ∧ rows.foldl leastS a ≤ c1 r ∧ rows.foldl leastS a ≤ c2 r
  | [], a => ⟨Int.le_refl _, by simp⟩
  | x :: rows, a => by
    obtain ⟨h1, h2⟩ := least_all rows (leastS a x)
    have m1 := mn_spec a (c0 x)
    have m2 := mn_spec (mmI false a (c0 x)) (c1 x)
    have m3 := mn_spec (mmI false (mmI false a (c0 x)) (c1 x)) (c2 x)
    have e : leastS a x = mmI false (mmI false (mmI false a (c0 x)) (c1 x)) (c2 x) := rfl
    rw [List.foldl_cons]
    generalize rows.foldl leastS (leastS a x) = L at *
    refine ⟨by omega, fun r hr => ?_⟩
    rcases List.mem_cons.1 hr with rfl | hr
    · omega
    · exact h2 r hr
theorem white_all : ∀ (rows : List (List Int)) (a : Int), a ≤ rows.foldl whiteS a ∧ ∀ r ∈ rows, c0 r ≤ rows.foldl whiteS a ∧ c1 r ≤ rows.foldl whiteS a ∧ c2 r ≤ rows.foldl whiteS a
  | [], a => ⟨Int.le_refl _, by simp⟩
  | x :: rows, a => by
    obtain ⟨h1, h2⟩ := white_all rows (whiteS a x)
    have m1 := mx_spec a (c0 x)
    have m2 := mx_spec (mmI true a (c0 x)) (c1 x)
    have m3 := mx_spec (mmI true (mmI true a (c0 x)) (c1 x)) (c2 x)
    have e : whiteS a x = mmI true (mmI true (mmI true a (c0 x)) (c1 x)) (c2 x) := rfl
    rw [List.foldl_cons]
    generalize rows.foldl whiteS (whiteS a x) = L at *
    refine ⟨by omega, fun r hr => ?_⟩
    rcases List.mem_cons.1 hr with rfl | hr
    · omega
    · exact h2 r hr
theorem sum_shift : ∀ (rows : List (List Int)) (a : Int), rows.foldl sumS a = a + sumI rows
  | [], a => by simp [sumI]
  | x :: rows, a => by
    rw [List.foldl_cons, sum_shift rows]
    have : sumI (x :: rows) = sumS 0 x + sumI rows := by unfold sumI; rw [List.foldl_cons]; exact sum_shift rows _
    rw [this]; unfold sumS; omega
theorem sumI_cons (x : List Int) (rows : List (List Int)) : sumI (x :: rows) = c0 x + c1 x + c2 x + sumI rows := by
  have e : sumS 0 x = 0 + c0 x + c1 x + c2 x := rfl
  unfold sumI; rw [List.foldl_cons, sum_shift, e]; unfold sumI; omega
theorem sumI_append (a b : List (List Int)) : sumI (a ++ b) = sumI a + sumI b := by
  unfold sumI; rw [List.foldl_append, sum_shift]; rfl
theorem sum_ge {L : Int} : ∀ (rows : List (List Int)), (∀ r ∈ rows, L ≤ c0 r ∧ L ≤ c1 r ∧ L ≤ c2 r) → L * (3 * rows.length) ≤ sumI rows
  | [], _ => by simp [sumI]
  | x :: rows, h => by
    have h1 := h x (by simp)
    have h2 := sum_ge rows fun r hr => h r (by simp [hr])
    rw [sumI_cons, List.length_cons, show (3 * ((rows.length + 1 : Nat) : Int)) = 3 * rows.length + 3 by omega, Int.mul_add]
    omega
theorem sum_le {L : Int} : ∀ (rows : List (List Int)), (∀ r ∈ rows, c0 r ≤ L ∧ c1 r ≤ L ∧ c2 r ≤ L) → sumI rows ≤ L * (3 * rows.length)
  | [], _ => by simp [sumI]
  | x :: rows, h => by
    have h1 := h x (by simp)
    have h2 := sum_le rows fun r hr => h r (by simp [hr])
    rw [sumI_cons, List.length_cons, show (3 * ((rows.length + 1 : Nat) : Int)) = 3 * rows.length + 3 by omega, Int.mul_add]
    omega
/-- what the law of means asks -/
theorem mean_law {rows : List (List Int)} (h : 0 < rows.length) : rows.foldl leastS (c0 (rows.getD 0 [])) ≤ sumI rows / (3 * rows.length) ∧ sumI rows / (3 * rows.length) ≤ whiteI rows ∧ sumI (rows ++ rows) / (3 * (rows ++ rows).length) = sumI rows / (3 * rows.length) ∧
    sumI rows / (3 * rows.length) * (3 * rows.length) ≤ sumI rows ∧ sumI rows - sumI rows / (3 * rows.length) * (3 * rows.length) < 3 * rows.length := by
  have n0 : (0 : Int) < 3 * rows.length := by omega
  refine ⟨Int.le_ediv_of_mul_le n0 (sum_ge rows (least_all rows _).2), ?_, ?_, Int.ediv_mul_le _ (by omega), ?_⟩
  · have h1 := sum_le rows (white_all rows 0).2
    have h2 : sumI rows / (3 * rows.length) < whiteI rows + 1 := by
      refine Int.ediv_lt_of_lt_mul n0 ?_
      rw [Int.add_mul]
      have : whiteI rows = rows.foldl whiteS 0 := rfl
      rw [this]; omega
    omega
  · rw [sumI_append, List.length_append, show (3 * ((rows.length + rows.length : Nat) : Int)) = 2 * (3 * rows.length) by omega, show sumI rows + sumI rows = 2 * sumI rows by omega]
    exact Int.mul_ediv_mul_of_pos _ _ (by omega)
  · have e := Int.emod_add_mul_ediv (sumI rows) (3 * rows.length)
    have e2 := Int.emod_lt_of_pos (sumI rows) n0
    rw [Int.mul_comm (3 * (rows.length : Int)) (sumI rows / _)] at e
    omega
end Go.AW
