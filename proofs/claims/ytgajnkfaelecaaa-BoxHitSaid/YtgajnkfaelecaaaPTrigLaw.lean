/- Plain laws of sines: steps round. -/
import Derived.Test.YtgajnkfaelecaaaPTrig
namespace Go.AW
open Go
set_option linter.unusedVariables false
/-- cosine and sine of a step round -/
def stepR (n i : Int) : List Int := [cosI (i * 65536 / n), sinI (i * 65536 / n)]
def stepsR (n : Int) : List (List Int) := (List.range n.toNat).map fun (i : Nat) => stepR n i
/-- the first i steps, and nothing yet -/
def stepsUpto (n i : Int) : List (List Int) := (List.range n.toNat).map fun (j : Nat) => if (j : Int) < i then stepR n j else [0, 0]
namespace PT
theorem steps_zero (n : Int) : stepsUpto n 0 = List.replicate n.toNat [0, 0] := by
  unfold stepsUpto
  rw [List.map_congr_left (g := fun _ => [0, 0]) (fun j _ => by rw [if_neg (by omega)]), List.map_const', List.length_range]
theorem steps_all (n : Int) : stepsUpto n n = stepsR n := by
  unfold stepsUpto stepsR
  refine List.map_congr_left (fun j hj => ?_)
  have := List.mem_range.1 hj
  rw [if_pos (by omega)]
theorem steps_len (n i : Int) : (stepsUpto n i).length = n.toNat := by simp [stepsUpto]
theorem stepsR_len (n : Int) : (stepsR n).length = n.toNat := by simp [stepsR]
theorem steps_get {n i : Int} (h0 : 0 ≤ i) (h : i < n) : (stepsUpto n i).getD i.toNat [] = [0, 0] := by
  unfold stepsUpto
  rw [List.getD_eq_getElem?_getD, List.getElem?_map, List.getElem?_range (by omega)]
  simp; omega
theorem steps_next {n i : Int} (h0 : 0 ≤ i) (h : i < n) : (stepsUpto n i).set i.toNat (stepR n i) = stepsUpto n (i + 1) := by
  refine List.ext_getElem? (fun j => ?_)
  rw [List.getElem?_set]
  unfold stepsUpto
  simp only [List.length_map, List.length_range, List.getElem?_map]
  by_cases hj : j < n.toNat
  · rw [List.getElem?_range hj]
    by_cases e : i.toNat = j
    · rw [if_pos e, if_pos (by omega)]
      have : (j : Int) = i := by omega
      simp [this]; omega
    · rw [if_neg e]
      simp only [Option.map_some, Option.some.injEq]
      by_cases k : (j : Int) < i
      · rw [if_pos k, if_pos (by omega)]
      · rw [if_neg k, if_neg (by omega)]
  · rw [List.getElem?_eq_none (by simp; omega)]
    rw [if_neg (by omega)]
    rfl
theorem set2 {U : List (List Int)} {k : Nat} (hk : k < U.length) (a b : Int) : ((U.set k [a, (U.getD k []).tail.headD 0]).set k [((U.set k [a, (U.getD k []).tail.headD 0]).getD k []).headD 0, b]) = U.set k [a, b] := by
  rw [List.set_set, List.getD_eq_getElem?_getD (l := U.set k _), List.getElem?_set_self hk]; rfl
/-- the first k steps -/
def stepsK (n k : Int) : List (List Int) := (List.range k.toNat).map fun (j : Nat) => stepR n j
theorem stepsK_len (n k : Int) : (stepsK n k).length = k.toNat := by simp [stepsK]
theorem stepsK_next (n : Int) {k : Int} (h : 0 ≤ k) : stepsK n (k + 1) = stepsK n k ++ [stepR n k] := by
  unfold stepsK
  rw [show (k + 1).toNat = k.toNat + 1 by omega, List.range_succ, List.map_append]
  simp only [List.map_cons, List.map_nil]
  rw [Int.toNat_of_nonneg h]
theorem stepsK_one (n : Int) : stepsK n 1 = [stepR n 0] := rfl
theorem stepsK_all (n : Int) : stepsK n n = stepsR n := rfl
theorem sq_b {x : Int} (h : -16384 ≤ x ∧ x ≤ 16384) : 0 ≤ x * x ∧ x * x ≤ 268435456 := by
  have m1 : 0 ≤ (x + 16384) * (16384 - x) := Int.mul_nonneg (by omega) (by omega)
  have m2 : 0 ≤ x * x := by
    rcases Int.le_total 0 x with q | q
    · exact Int.mul_nonneg q q
    · have := Int.mul_nonneg (show 0 ≤ -x by omega) (show 0 ≤ -x by omega); rwa [Int.neg_mul_neg] at this
  simp only [Int.add_mul, Int.mul_sub] at m1
  omega
theorem bow_sym (h : Int) : bowI (32768 - h) = bowI h := by
  unfold bowI
  rw [show (32768 - h) * (32768 - (32768 - h)) = h * (32768 - h) by rw [Int.mul_comm]; congr 1; omega]
theorem bow_0 : bowI 0 = 0 := by decide
theorem sin_mod {a b : Int} (h : a % 65536 = b % 65536) : sinI a = sinI b := by unfold sinI; rw [h]
theorem cos_sin (h : Int) : cosI h = sinI (h + 16384) := sin_mod (by omega)
theorem sin_half (h : Int) : sinI (h + 32768) = -sinI h := by
  unfold sinI
  by_cases c : h % 65536 < 32768
  · rw [if_neg (show ¬ (h + 32768) % 65536 < 32768 by omega), if_pos c]; congr 2; omega
  · rw [if_pos (show (h + 32768) % 65536 < 32768 by omega), if_neg c, Int.neg_neg]; congr 1; omega
theorem sin_back (h : Int) : sinI (32768 - h) = sinI h := by
  unfold sinI
  by_cases c : h % 65536 < 32768
  · by_cases z : h % 65536 = 0
    · rw [if_neg (show ¬ (32768 - h) % 65536 < 32768 by omega), if_pos c, z, show (32768 - h) % 65536 - 32768 = 0 by omega, bow_0]; rfl
    · rw [if_pos (show (32768 - h) % 65536 < 32768 by omega), if_pos c, show (32768 - h) % 65536 = 32768 - h % 65536 by omega, bow_sym]
  · by_cases z : h % 65536 = 32768
    · rw [if_pos (show (32768 - h) % 65536 < 32768 by omega), if_neg c, z, show (32768 - h) % 65536 = 0 by omega]; decide
    · rw [if_neg (show ¬ (32768 - h) % 65536 < 32768 by omega), if_neg c, show (32768 - h) % 65536 - 32768 = 32768 - (h % 65536 - 32768) by omega, bow_sym]
theorem cos_half (h : Int) : cosI (h + 32768) = -cosI h := by
  rw [cos_sin, cos_sin, show h + 32768 + 16384 = h + 16384 + 32768 by omega, sin_half]
theorem cos_neg (h : Int) : cosI (-h) = cosI h := by
  rw [cos_sin, cos_sin, ← sin_back (h + 16384)]; congr 1; omega
/-- up to a quarter a sine never falls -/
theorem bow_mono {x y : Int} (h0 : 0 ≤ x) (h : x ≤ y) (h1 : y ≤ 16384) : bowI x ≤ bowI y := by
  obtain ⟨a0, a1⟩ := bow_arg h0 (show x ≤ 32768 by omega)
  obtain ⟨b0, b1⟩ := bow_arg (show 0 ≤ y by omega) (show y ≤ 32768 by omega)
  have ab : x * (32768 - x) ≤ y * (32768 - y) := by
    have : 0 ≤ (y - x) * (32768 - x - y) := Int.mul_nonneg (by omega) (by omega)
    simp only [Int.mul_sub, Int.sub_mul] at *
    have c := Int.mul_comm x y
    omega
  unfold bowI
  generalize x * (32768 - x) = a at *
  generalize y * (32768 - y) = b at *
  refine (Int.le_ediv_iff_mul_le (by omega)).2 ?_
  have d := (Int.le_ediv_iff_mul_le (show 0 < 5368709120 - 4 * a by omega)).1 (Int.le_refl (262144 * a / (5368709120 - 4 * a)))
  have q0 : 0 ≤ 262144 * a / (5368709120 - 4 * a) := Int.ediv_nonneg (by omega) (by omega)
  generalize 262144 * a / (5368709120 - 4 * a) = q at *
  have : q * (5368709120 - 4 * b) ≤ q * (5368709120 - 4 * a) := Int.mul_le_mul_of_nonneg_left (by omega) q0
  omega
/-- both squared, of a turn up to a quarter: looked at one by one -/
def bowN (h : Nat) : Nat := 262144 * (h * (32768 - h)) / (5368709120 - 4 * (h * (32768 - h)))
def okN (h : Nat) : Bool := let q := bowN h * bowN h + bowN (16384 - h) * bowN (16384 - h); Nat.ble q 271119810 && Nat.ble 265751102 q
def allN : Nat → Nat → Bool
  | 0, lo => okN lo
  | k + 1, lo => allN k lo && allN k (lo + 2 ^ k)
theorem allN_ok : ∀ (k lo h : Nat), allN k lo = true → lo ≤ h → h < lo + 2 ^ k → okN h = true
  | 0, lo, h, ha, h1, h2 => by
    obtain rfl : h = lo := by simp at h2; omega
    exact ha
  | k + 1, lo, h, ha, h1, h2 => by
    unfold allN at ha
    rw [Bool.and_eq_true] at ha
    rw [Nat.pow_succ] at h2
    rcases Nat.lt_or_ge h (lo + 2 ^ k) with q | q
    · exact allN_ok k lo h ha.1 h1 q
    · exact allN_ok k _ h ha.2 q (by omega)
theorem all_quarter : allN 14 0 = true := by decide +kernel
theorem bow_N {h : Nat} (h1 : h ≤ 32768) : bowI (h : Int) = (bowN h : Int) := by
  obtain ⟨a0, a1⟩ := bow_arg (show (0 : Int) ≤ h by omega) (show (h : Int) ≤ 32768 by omega)
  unfold bowI bowN
  have e : (h : Int) * (32768 - h) = ((h * (32768 - h) : Nat) : Int) := by rw [Int.natCast_mul, Int.natCast_sub h1]; rfl
  rw [e] at a0 a1 ⊢
  generalize h * (32768 - h) = a at *
  rw [Int.natCast_ediv, Int.natCast_mul, Int.natCast_sub (by omega), Int.natCast_mul]; rfl
theorem sq_quarter {h : Int} (h0 : 0 ≤ h) (h1 : h ≤ 16384) : 265751102 ≤ bowI h * bowI h + bowI (16384 - h) * bowI (16384 - h) ∧ bowI h * bowI h + bowI (16384 - h) * bowI (16384 - h) ≤ 271119810 := by
  obtain ⟨n, rfl⟩ := Int.eq_ofNat_of_zero_le h0
  have key : okN n = true := by
    rcases Nat.lt_or_ge n 16384 with q | q
    · exact allN_ok 14 0 n all_quarter (by omega) (by simpa using q)
    · obtain rfl : n = 16384 := by omega
      decide +kernel
  rw [show (16384 : Int) - (n : Int) = ((16384 - n : Nat) : Int) by omega, bow_N (by omega), bow_N (by omega)]
  unfold okN at key
  simp only [Bool.and_eq_true, Nat.ble_eq] at key
  have k1 := key.1; have k2 := key.2
  omega
/-- both squared, of any turn -/
theorem sq_any (h : Int) : 265751102 ≤ cosI h * cosI h + sinI h * sinI h ∧ cosI h * cosI h + sinI h * sinI h ≤ 271119810 := by
  have core : ∀ r : Int, 0 ≤ r → r ≤ 16384 → 265751102 ≤ sinI (r + 16384) * sinI (r + 16384) + sinI r * sinI r ∧ sinI (r + 16384) * sinI (r + 16384) + sinI r * sinI r ≤ 271119810 := by
    intro r r0 r1
    have q := sq_quarter r0 r1
    have e1 : sinI r = bowI r := by unfold sinI; rw [show r % 65536 = r by omega, if_pos (by omega)]
    have e2 : sinI (r + 16384) * sinI (r + 16384) = bowI (16384 - r) * bowI (16384 - r) := by
      rw [← sin_back (r + 16384), show 32768 - (r + 16384) = 16384 - r by omega]
      unfold sinI
      rw [show (16384 - r) % 65536 = 16384 - r by omega, if_pos (by omega)]
    rw [e1, e2]; omega
  have per : ∀ r : Int, 0 ≤ r → r < 32768 → 265751102 ≤ sinI (r + 16384) * sinI (r + 16384) + sinI r * sinI r ∧ sinI (r + 16384) * sinI (r + 16384) + sinI r * sinI r ≤ 271119810 := by
    intro r r0 r1
    by_cases c : r ≤ 16384
    · exact core r r0 c
    · have q := core (r - 16384) (by omega) (by omega)
      rw [show r - 16384 + 16384 = r by omega] at q
      have e : sinI (r + 16384) * sinI (r + 16384) = sinI (r - 16384) * sinI (r - 16384) := by
        rw [show r + 16384 = r - 16384 + 32768 by omega, sin_half, Int.neg_mul_neg]
      rw [e]; omega
  rw [cos_sin]
  by_cases c : h % 65536 < 32768
  · have q := per (h % 65536) (by omega) c
    rw [sin_mod (a := h + 16384) (b := h % 65536 + 16384) (by omega), sin_mod (a := h) (b := h % 65536) (by omega)]
    exact q
  · have q := per (h % 65536 - 32768) (by omega) (by omega)
    rw [sin_mod (a := h + 16384) (b := h % 65536 - 32768 + 16384 + 32768) (by omega), sin_mod (a := h) (b := h % 65536 - 32768 + 32768) (by omega), sin_half, sin_half, Int.neg_mul_neg, Int.neg_mul_neg]
    exact q
end PT
end Go.AW
