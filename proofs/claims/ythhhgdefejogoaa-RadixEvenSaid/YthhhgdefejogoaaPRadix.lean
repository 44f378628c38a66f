/- Plain laws of digits turned round. -/
import Derived.Test.YthhhgdefejogoaaPNum
import Derived.Test.YthhhgdefejogoaaPList
import Derived.Test.YthhhgdefejogoaaEngC
namespace Go.AW
open Go
set_option linter.unusedVariables false
/-- a base, so many times; 0, where that may not be -/
def powI (b k : Int) : Int := if b < 2 ∨ b > 64 ∨ k < 0 ∨ k > 40 then 0 else if b ^ k.toNat > 1099511627776 then 0 else b ^ k.toNat
/-- digits turned round -/
def turnR (b : Int) : Nat → Int → Int
  | 0, _ => 0
  | k + 1, n => n % b * b ^ k + turnR b k (n / b)
def turnI (n b k : Int) : Int := if n < 0 ∨ powI b k = 0 then 0 else turnR b k.toNat n
/-- points that are spread evenly -/
def ptRow (n k i : Int) : List Int := [i * (2 ^ k.toNat / n), turnI i 2 k]
def ptsR (n k : Int) : List (List Int) := (List.range n.toNat).map fun (i : Nat) => ptRow n k i
/-- how many of the first j rows are at a column -/
def cntR (rows : List (List Int)) (j : Nat) (c : Int) : Int := ((rows.take j).countP fun r => r.headD 0 == c : Nat)
/-- how many of so many columns have no row -/
def emptyI (rows : List (List Int)) (m : Int) : Int := ((List.range m.toNat).countP fun (c : Nat) => cntR rows rows.length c == 0 : Nat)
/-- how many rows each column has -/
def metR (rows : List (List Int)) (m : Int) (j : Nat) : List (List Int) := (List.range m.toNat).map fun (c : Nat) => [cntR rows j c]
namespace PR
theorem pow_pos {b : Int} (hb : 2 ≤ b) (k : Nat) : 0 < b ^ k := Int.pow_pos (by omega)
theorem pow_succ (b : Int) (k : Nat) : b ^ (k + 1) = b ^ k * b := Int.pow_succ _ _
theorem pow_step {b : Int} (hb : 2 ≤ b) (k : Nat) : b ^ k ≤ b ^ (k + 1) := by
  rw [pow_succ]
  have := Int.mul_le_mul_of_nonneg_left (show 1 ≤ b by omega) (Int.le_of_lt (pow_pos hb k))
  omega
theorem pow_mono {b : Int} (hb : 2 ≤ b) {i k : Nat} (h : i ≤ k) : b ^ i ≤ b ^ k := by
  induction k with
  | zero => obtain rfl : i = 0 := by omega
            exact Int.le_refl _
  | succ k ih =>
    rcases Nat.lt_or_ge i (k + 1) with q | q
    · exact Int.le_trans (ih (by omega)) (pow_step hb k)
    · obtain rfl : i = k + 1 := by omega
      exact Int.le_refl _
theorem turn_b {b : Int} (hb : 2 ≤ b) : ∀ (k : Nat) (n : Int), 0 ≤ turnR b k n ∧ turnR b k n < b ^ k
  | 0, n => by simp [turnR]
  | k + 1, n => by
    have ih := turn_b hb k (n / b)
    have m0 := Int.emod_nonneg n (show b ≠ 0 by omega)
    have m1 := Int.emod_lt_of_pos n (show 0 < b by omega)
    have p := pow_pos hb k
    have q0 := Int.mul_nonneg m0 (Int.le_of_lt p)
    have q1 := Int.mul_le_mul_of_nonneg_right (show n % b ≤ b - 1 by omega) (Int.le_of_lt p)
    rw [Int.sub_mul, Int.one_mul] at q1
    unfold turnR
    rw [pow_succ, Int.mul_comm (b ^ k) b]
    omega
/-- the digits gone over, the lowest one first -/
def rev (b : Int) : Nat → Int → Int → Int
  | 0, _, out => out
  | k + 1, n, out => rev b k (n / b) (out * b + n % b)
theorem rev_turn (b : Int) : ∀ (k : Nat) (n out : Int), rev b k n out = out * b ^ k + turnR b k n
  | 0, n, out => by simp [rev, turnR]
  | k + 1, n, out => by
    unfold rev turnR
    rw [rev_turn b k, pow_succ, Int.add_mul, Int.mul_assoc out b, Int.mul_comm b (b ^ k), Int.add_assoc]
theorem powI_ok {b k : Int} (h : powI b k ≠ 0) : 2 ≤ b ∧ b ≤ 64 ∧ 0 ≤ k ∧ k ≤ 40 ∧ b ^ k.toNat ≤ 1099511627776 ∧ powI b k = b ^ k.toNat := by
  unfold powI at *
  split at h
  · exact absurd rfl h
  · rename_i g
    rw [if_neg g]
    split at h
    · exact absurd rfl h
    · rename_i g2
      rw [if_neg g2]
      refine ⟨by omega, by omega, by omega, by omega, by omega, rfl⟩
theorem powI_pred {b k : Int} (h : powI b k ≠ 0) (hk : 1 ≤ k) : powI b (k - 1) = b ^ (k - 1).toNat ∧ powI b (k - 1) ≠ 0 ∧ powI b k = b ^ (k - 1).toNat * b ∧ b ^ (k - 1).toNat * b ≤ 1099511627776 ∧ 0 < b ^ (k - 1).toNat := by
  obtain ⟨b1, b2, k1, k2, pl, pe⟩ := powI_ok h
  have e : k.toNat = (k - 1).toNat + 1 := by omega
  rw [e, pow_succ] at pl pe
  have p0 := pow_pos (b := b) b1 (k - 1).toNat
  have pm := Int.mul_le_mul_of_nonneg_left (show 1 ≤ b by omega) (Int.le_of_lt p0)
  have q : powI b (k - 1) = b ^ (k - 1).toNat := by unfold powI; rw [if_neg (by omega), if_neg (by omega)]
  exact ⟨q, by rw [q]; omega, pe, pl, p0⟩
theorem turn_add {b : Int} (hb : 2 ≤ b) : ∀ (k : Nat) (n j : Int), turnR b k (n + b ^ k * j) = turnR b k n
  | 0, n, j => rfl
  | k + 1, n, j => by
    unfold turnR
    have e1 : n + b ^ (k + 1) * j = n + b * (b ^ k * j) := by rw [pow_succ, Int.mul_comm (b ^ k) b, Int.mul_assoc]
    rw [e1, Int.add_mul_emod_self_left, Int.add_mul_ediv_left _ _ (by omega), turn_add hb k]
/-- from the other end -/
theorem turn_alt {b : Int} (hb : 2 ≤ b) : ∀ (k : Nat) (n : Int), turnR b (k + 1) n = turnR b k n * b + n / b ^ k % b
  | 0, n => by simp [turnR]
  | k + 1, n => by
    have e : turnR b (k + 1 + 1) n = n % b * b ^ (k + 1) + turnR b (k + 1) (n / b) := rfl
    rw [e, turn_alt hb k (n / b)]
    have e2 : turnR b (k + 1) n = n % b * b ^ k + turnR b k (n / b) := rfl
    rw [e2, pow_succ, Int.add_mul, Int.mul_assoc, Int.ediv_ediv_of_nonneg (by omega), Int.mul_comm b (b ^ k)]
    omega
theorem turn_turn {b : Int} (hb : 2 ≤ b) : ∀ (k : Nat) (n : Int), 0 ≤ n → n < b ^ k → turnR b k (turnR b k n) = n
  | 0, n, h0, h1 => by simp at h1; unfold turnR; omega
  | k + 1, n, h0, h1 => by
    have p := pow_pos hb k
    have e : turnR b (k + 1) n = turnR b k (n / b) + b ^ k * (n % b) := by
      show n % b * b ^ k + turnR b k (n / b) = _
      rw [Int.mul_comm (n % b), Int.add_comm]
    have tb := turn_b hb k (n / b)
    have m0 := Int.emod_nonneg n (show b ≠ 0 by omega)
    have m1 := Int.emod_lt_of_pos n (show 0 < b by omega)
    rw [turn_alt hb k, e, turn_add hb k, turn_turn hb k (n / b) (Int.ediv_nonneg h0 (by omega)) (by rw [pow_succ] at h1; exact Int.ediv_lt_of_lt_mul (by omega) h1)]
    rw [Int.add_mul_ediv_left _ _ (by omega), Int.ediv_eq_zero_of_lt tb.1 tb.2, Int.zero_add, Int.emod_eq_of_lt m0 m1, Int.mul_comm]
    exact Int.mul_ediv_add_emod n b
theorem turn_inj {b : Int} (hb : 2 ≤ b) (k : Nat) {x y : Int} (hx : 0 ≤ x ∧ x < b ^ k) (hy : 0 ≤ y ∧ y < b ^ k) : turnR b k x = turnR b k y ↔ x = y :=
  ⟨fun h => by rw [← turn_turn hb k x hx.1 hx.2, h, turn_turn hb k y hy.1 hy.2], fun h => by rw [h]⟩
theorem turn_top {b : Int} (hb : 2 ≤ b) (k : Nat) (n : Int) : turnR b (k + 1) n / b ^ k = n % b := by
  have p := pow_pos hb k
  have tb := turn_b hb k (n / b)
  have e : turnR b (k + 1) n = turnR b k (n / b) + b ^ k * (n % b) := by
    show n % b * b ^ k + turnR b k (n / b) = _
    rw [Int.mul_comm (n % b), Int.add_comm]
  rw [e, Int.add_mul_ediv_left _ _ (by omega), Int.ediv_eq_zero_of_lt tb.1 tb.2, Int.zero_add]
theorem turn_0 (b : Int) : ∀ k, turnR b k 0 = 0
  | 0 => rfl
  | k + 1 => by unfold turnR; rw [Int.zero_emod, Int.zero_mul, Int.zero_ediv, turn_0 b k]; rfl
/-- a number of few digits -/
theorem turn_few {b : Int} (hb : 2 ≤ b) (m : Nat) : ∀ (k : Nat) (n : Int), 0 ≤ n → n < b ^ k → turnR b (k + m) n = turnR b k n * b ^ m
  | 0, n, h0, h1 => by
    obtain rfl : n = 0 := by simp at h1; omega
    rw [turn_0]; unfold turnR; rw [Int.zero_mul]
  | k + 1, n, h0, h1 => by
    have e : turnR b (k + 1 + m) n = n % b * b ^ (k + m) + turnR b (k + m) (n / b) := by rw [show k + 1 + m = (k + m) + 1 by omega]; rfl
    have e2 : turnR b (k + 1) n = n % b * b ^ k + turnR b k (n / b) := rfl
    rw [e, e2, turn_few hb m k (n / b) (Int.ediv_nonneg h0 (by omega)) (by rw [pow_succ] at h1; exact Int.ediv_lt_of_lt_mul (by omega) h1), Int.add_mul, Int.mul_assoc, Int.pow_add]
/-- the first i points, and nothing yet -/
def ptsUpto (n k i : Int) : List (List Int) := (List.range n.toNat).map fun (j : Nat) => if (j : Int) < i then ptRow n k j else [0, 0]
theorem pts_zero (n k : Int) : ptsUpto n k 0 = List.replicate n.toNat [0, 0] := by
  unfold ptsUpto
  rw [List.map_congr_left (g := fun _ => [0, 0]) (fun j _ => by rw [if_neg (by omega)]), List.map_const', List.length_range]
theorem pts_all (n k : Int) : ptsUpto n k n = ptsR n k := by
  unfold ptsUpto ptsR
  refine List.map_congr_left (fun j hj => ?_)
  have := List.mem_range.1 hj
  rw [if_pos (by omega)]
theorem pts_len (n k i : Int) : (ptsUpto n k i).length = n.toNat := by simp [ptsUpto]
theorem ptsR_len (n k : Int) : (ptsR n k).length = n.toNat := by simp [ptsR]
theorem ptsR_get {n k i : Int} (h0 : 0 ≤ i) (h : i < n) : (ptsR n k).getD i.toNat [] = ptRow n k i := by
  unfold ptsR
  rw [List.getD_eq_getElem?_getD, List.getElem?_map, List.getElem?_range (by omega)]
  simp only [Option.map_some, Option.getD_some]
  rw [Int.toNat_of_nonneg h0]
theorem pts_next {n k i : Int} (h0 : 0 ≤ i) (h : i < n) : (ptsUpto n k i).set i.toNat (ptRow n k i) = ptsUpto n k (i + 1) := by
  refine List.ext_getElem? (fun j => ?_)
  rw [List.getElem?_set]
  unfold ptsUpto
  simp only [List.length_map, List.length_range, List.getElem?_map]
  by_cases hj : j < n.toNat
  · rw [List.getElem?_range hj]
    by_cases e : i.toNat = j
    · rw [if_pos e, if_pos (by omega)]
      have : (j : Int) = i := by omega
      simp [this]; omega
    · rw [if_neg e]
      simp only [Option.map_some, Option.some.injEq]
      by_cases q : (j : Int) < i
      · rw [if_pos q, if_pos (by omega)]
      · rw [if_neg q, if_neg (by omega)]
  · rw [List.getElem?_eq_none (by simp; omega)]
    rw [if_neg (by omega)]
    rfl
/-- the first i points -/
def ptsK (n k i : Int) : List (List Int) := (List.range i.toNat).map fun (j : Nat) => ptRow n k j
theorem ptsK_len (n k i : Int) : (ptsK n k i).length = i.toNat := by simp [ptsK]
theorem ptsK_next (n k : Int) {i : Int} (h : 0 ≤ i) : ptsK n k (i + 1) = ptsK n k i ++ [ptRow n k i] := by
  unfold ptsK
  rw [show (i + 1).toNat = i.toNat + 1 by omega, List.range_succ, List.map_append]
  simp only [List.map_cons, List.map_nil]
  rw [Int.toNat_of_nonneg h]
theorem ptsK_one (n k : Int) : ptsK n k 1 = [ptRow n k 0] := rfl
theorem ptsK_all (n k : Int) : ptsK n k n = ptsR n k := rfl
theorem cnt_0 (rows : List (List Int)) (c : Int) : cntR rows 0 c = 0 := by unfold cntR; simp
theorem cnt_next (rows : List (List Int)) {j : Nat} (h : j < rows.length) (c : Int) : cntR rows (j + 1) c = cntR rows j c + if (rows.getD j []).headD 0 = c then 1 else 0 := by
  unfold cntR
  have e : rows.take (j + 1) = rows.take j ++ [rows.getD j []] := by
    rw [List.take_add_one, List.getD_eq_getElem?_getD, List.getElem?_eq_getElem h]; rfl
  rw [e, List.countP_append]
  simp only [List.countP_cons, List.countP_nil, beq_iff_eq]
  split <;> simp
theorem cnt_b (rows : List (List Int)) (j : Nat) (c : Int) : 0 ≤ cntR rows j c ∧ cntR rows j c ≤ rows.length := by
  unfold cntR
  have := List.countP_le_length (p := fun r : List Int => r.headD 0 == c) (l := rows.take j)
  rw [List.length_take] at this
  omega
theorem met_zero (rows : List (List Int)) (m : Int) : metR rows m 0 = List.replicate m.toNat [0] := by
  unfold metR
  rw [List.map_congr_left (g := fun _ => [0]) (fun c _ => by rw [cnt_0]), List.map_const', List.length_range]
theorem met_len (rows : List (List Int)) (m : Int) (j : Nat) : (metR rows m j).length = m.toNat := by simp [metR]
theorem met_get (rows : List (List Int)) {m c : Int} (j : Nat) (h0 : 0 ≤ c) (h : c < m) : (metR rows m j).getD c.toNat [] = [cntR rows j c] := by
  unfold metR
  rw [List.getD_eq_getElem?_getD, List.getElem?_map, List.getElem?_range (by omega)]
  simp only [Option.map_some, Option.getD_some]
  rw [Int.toNat_of_nonneg h0]
theorem met_out (rows : List (List Int)) {m : Int} {j : Nat} (h : j < rows.length) (ho : (rows.getD j []).headD 0 < 0 ∨ m ≤ (rows.getD j []).headD 0) : metR rows m (j + 1) = metR rows m j := by
  unfold metR
  refine List.map_congr_left (fun c hc => ?_)
  have := List.mem_range.1 hc
  rw [cnt_next rows h, if_neg (by omega), Int.add_zero]
theorem met_in (rows : List (List Int)) {m c : Int} {j : Nat} (h : j < rows.length) (hc : (rows.getD j []).headD 0 = c) (h0 : 0 ≤ c) (h1 : c < m) : (metR rows m j).set c.toNat [cntR rows j c + 1] = metR rows m (j + 1) := by
  refine List.ext_getElem? (fun q => ?_)
  rw [List.getElem?_set]
  unfold metR
  simp only [List.length_map, List.length_range, List.getElem?_map]
  by_cases hq : q < m.toNat
  · rw [List.getElem?_range hq]
    simp only [Option.map_some]
    rw [cnt_next rows h, hc]
    by_cases e : c.toNat = q
    · rw [if_pos e, if_pos (by omega), if_pos (by omega)]
      have : (q : Int) = c := by omega
      rw [this]
    · rw [if_neg e, if_neg (by omega), Int.add_zero]
  · rw [List.getElem?_eq_none (by simp; omega)]
    rw [if_neg (by omega)]
    rfl
/-- the first columns without a row -/
def emptyTo (rows : List (List Int)) (c : Int) : Int := ((List.range c.toNat).countP fun (c : Nat) => cntR rows rows.length c == 0 : Nat)
theorem emptyTo_0 (rows : List (List Int)) : emptyTo rows 0 = 0 := rfl
theorem emptyTo_next (rows : List (List Int)) {c : Int} (h : 0 ≤ c) : emptyTo rows (c + 1) = emptyTo rows c + if cntR rows rows.length c = 0 then 1 else 0 := by
  unfold emptyTo
  rw [show (c + 1).toNat = c.toNat + 1 by omega, List.range_succ, List.countP_append]
  simp only [List.countP_cons, List.countP_nil, beq_iff_eq, Int.toNat_of_nonneg h]
  split <;> simp
theorem emptyTo_b (rows : List (List Int)) (c : Int) : 0 ≤ emptyTo rows c ∧ emptyTo rows c ≤ c.toNat := by
  unfold emptyTo
  have := List.countP_le_length (p := fun (c : Nat) => cntR rows rows.length c == 0) (l := List.range c.toNat)
  rw [List.length_range] at this
  omega
theorem pow_le_l {a b : Int} (h0 : 0 ≤ a) (h : a ≤ b) : ∀ k : Nat, 0 ≤ a ^ k ∧ a ^ k ≤ b ^ k
  | 0 => by simp
  | k + 1 => by
    have ih := pow_le_l h0 h k
    rw [Int.pow_succ, Int.pow_succ]
    exact ⟨Int.mul_nonneg ih.1 h0, Int.mul_le_mul ih.2 h h0 (by omega)⟩
theorem powI_0 {b k : Int} (hb : 2 ≤ b) (hb' : b ≤ 64) (hk : 0 ≤ k) (hk' : k ≤ 40) (h : powI b k = 0) : k > 6 := by
  rcases Int.lt_or_le 6 k with q | q
  · exact q
  · exfalso
    have p := pow_pos hb k.toNat
    have l := (pow_le_l (show 0 ≤ b by omega) hb' k.toNat).2
    have l2 := pow_mono (b := 64) (by omega) (show k.toNat ≤ 6 by omega)
    have e : (64 : Int) ^ 6 = 68719476736 := by decide
    unfold powI at h
    rw [if_neg (by omega), if_neg (by omega)] at h
    omega
theorem turnI_eq {n b k : Int} (hn : 0 ≤ n) (h : powI b k ≠ 0) : turnI n b k = turnR b k.toNat n := by
  unfold turnI; rw [if_neg (by omega)]
/-- is one of the first j rows at a column? -/
def isTo (rows : List (List Int)) (j : Nat) (c : Int) : Bool := cntR rows j c != 0
theorem isTo_0 (rows : List (List Int)) (c : Int) : isTo rows 0 c = false := by unfold isTo; rw [cnt_0]; rfl
theorem isTo_next (rows : List (List Int)) {j : Nat} (h : j < rows.length) (c : Int) : isTo rows (j + 1) c = (isTo rows j c || ((rows.getD j []).headD 0 == c)) := by
  have b := cnt_b rows j c
  unfold isTo
  rw [cnt_next rows h, Bool.eq_iff_iff, Bool.or_eq_true, bne_iff_ne, bne_iff_ne, beq_iff_eq]
  split <;> omega
theorem powI_small {b k : Int} (hb : b = 2 ∨ b = 3) (h0 : 0 ≤ k) (h1 : k ≤ 8) : powI b k = b ^ k.toNat ∧ 1 ≤ b ^ k.toNat ∧ b ^ k.toNat ≤ 6561 := by
  have p := pow_pos (b := b) (by omega) k.toNat
  have l : b ^ k.toNat ≤ 6561 := by
    have a := (pow_le_l (show 0 ≤ b by omega) (show b ≤ 3 by omega) k.toNat).2
    have c := pow_mono (b := 3) (by omega) (show k.toNat ≤ 8 by omega)
    have e : (3 : Int) ^ 8 = 6561 := by decide
    omega
  refine ⟨?_, by omega, l⟩
  unfold powI
  rw [if_neg (by omega), if_neg (by omega)]
/-- the highest digits of the first numbers -/
def evenR (b : Int) (d : Nat) : List (List Int) := (List.range (b ^ d).toNat).map fun (i : Nat) => [turnR b d i]
theorem even_len (b : Int) (d : Nat) : (evenR b d).length = (b ^ d).toNat := by simp [evenR]
theorem even_get {b : Int} {d : Nat} {i : Int} (h0 : 0 ≤ i) (h : i < b ^ d) : (evenR b d).getD i.toNat [] = [turnR b d i] := by
  unfold evenR
  rw [List.getD_eq_getElem?_getD, List.getElem?_map, List.getElem?_range (by omega)]
  simp only [Option.map_some, Option.getD_some]
  rw [Int.toNat_of_nonneg h0]
theorem even2 : ∀ d : Nat, d < 5 → ∀ i : Nat, i < 2 ^ d → cntR (evenR 2 d) (2 ^ d) i = 1 := by decide +kernel
theorem even3 : ∀ d : Nat, d < 5 → ∀ i : Nat, i < 3 ^ d → cntR (evenR 3 d) (3 ^ d) i = 1 := by decide +kernel
theorem even_one {b : Int} (hb : b = 2 ∨ b = 3) {d : Nat} (hd : d < 5) {i : Int} (h0 : 0 ≤ i) (h : i < b ^ d) : cntR (evenR b d) (evenR b d).length i = 1 := by
  rw [even_len]
  obtain ⟨n, rfl⟩ := Int.eq_ofNat_of_zero_le h0
  rcases hb with rfl | rfl
  · have e : ((2 : Int) ^ d).toNat = 2 ^ d := by
      have : (2 : Int) ^ d = ((2 ^ d : Nat) : Int) := by simp
      rw [this, Int.toNat_natCast]
    rw [e]; exact even2 d hd n (by omega)
  · have e : ((3 : Int) ^ d).toNat = 3 ^ d := by
      have : (3 : Int) ^ d = ((3 ^ d : Nat) : Int) := by simp
      rw [this, Int.toNat_natCast]
    rw [e]; exact even3 d hd n (by omega)
theorem pts_empty : ∀ m : Nat, m < 64 → emptyI (ptsR ((m : Int) + 1) 6) 64 = 63 - (m : Int) := by decide +kernel
theorem turn_64 : ∀ i : Nat, i < 64 → ∀ q : Nat, q < i → turnR 2 6 (i : Int) ≠ turnR 2 6 (q : Int) := by decide +kernel
theorem pts_empty' {m : Int} (h0 : 1 ≤ m) (h1 : m ≤ 64) : emptyI (ptsR m 6) 64 = 64 - m := by
  obtain ⟨n, rfl⟩ : ∃ n : Nat, m = (n : Int) + 1 := ⟨(m - 1).toNat, by omega⟩
  rw [pts_empty n (by omega)]; omega
theorem pts_unlike {m i q : Int} (h0 : 1 ≤ m) (h1 : m ≤ 64) (q0 : 0 ≤ q) (qi : q < i) (i1 : i < m) : i * (2 ^ (6 : Int).toNat / m) ≠ q * (2 ^ (6 : Int).toNat / m) ∧ turnI i 2 6 ≠ turnI q 2 6 := by
  have e : (2 : Int) ^ (6 : Int).toNat = 64 := by decide
  have s1 : 1 ≤ (64 : Int) / m := (Int.le_ediv_iff_mul_le (by omega)).2 (by omega)
  constructor
  · rw [e]
    intro h
    have := Int.mul_lt_mul_of_pos_right qi (show 0 < (64 : Int) / m by omega)
    omega
  · have p : powI 2 6 ≠ 0 := by decide
    rw [turnI_eq (by omega) p, turnI_eq q0 p]
    obtain ⟨a, rfl⟩ := Int.eq_ofNat_of_zero_le (show 0 ≤ i by omega)
    obtain ⟨b, rfl⟩ := Int.eq_ofNat_of_zero_le q0
    exact turn_64 a (by omega) b (by omega)
theorem pts_fit {m : Int} (h0 : 1 ≤ m) (h1 : m ≤ 64) : Fit2 (ptsR m 6) := by
  intro k hk
  rw [ptsR_len] at hk
  have e : (2 : Int) ^ (6 : Int).toNat = 64 := by decide
  have g := ptsR_get (n := m) (k := 6) (i := (k : Int)) (by omega) (by omega)
  rw [Int.toNat_natCast] at g
  refine ⟨_, _, g, ?_, ?_⟩
  · rw [e]
    have s0 : 0 ≤ (64 : Int) / m := Int.ediv_nonneg (by omega) (by omega)
    have s1 : (64 : Int) / m ≤ 64 := Int.ediv_le_self _ (by omega)
    have a := Int.mul_nonneg (show 0 ≤ (k : Int) by omega) s0
    have b : (k : Int) * (64 / m) ≤ 64 * 64 := Int.mul_le_mul (by omega) s1 s0 (by omega)
    omega
  · have p : powI 2 6 ≠ 0 := by decide
    rw [turnI_eq (by omega) p]
    have tb := turn_b (b := 2) (by omega) (6 : Int).toNat (k : Int)
    rw [e] at tb
    omega
end PR
end Go.AW
