/- Plain laws of numbers of 128 bits. -/
import Derived.Test.YtgajnkfaelecaaaPNum
import Derived.Test.YtgajnkfaelecaaaPList
namespace Go.AW
open Go
set_option linter.unusedVariables false
def wv (h l : Int) : Int := h * 18446744073709551616 + l
def whi (n : Int) : Int := n / 18446744073709551616
def wlo (n : Int) : Int := n % 18446744073709551616
/-- a number as one of 128 bits -/
def w128 (n : Int) : Int := (n + 170141183460469231731687303715884105728) % 340282366920938463463374607431768211456 - 170141183460469231731687303715884105728
/-- a wide number -/
abbrev WA (n : Int) : AV := .agg [.int .i64 (whi n), .int .u64 (wlo n)]
def I64 (n : Int) : Prop := -9223372036854775808 ≤ n ∧ n < 9223372036854775808
def U64 (n : Int) : Prop := 0 ≤ n ∧ n < 18446744073709551616
/-- a number of 128 bits -/
def I128 (n : Int) : Prop := -170141183460469231731687303715884105728 ≤ n ∧ n < 170141183460469231731687303715884105728
instance (n : Int) : Decidable (I64 n) := by unfold I64; infer_instance
instance (n : Int) : Decidable (U64 n) := by unfold U64; infer_instance
instance (n : Int) : Decidable (I128 n) := by unfold I128; infer_instance
/-- the order of two numbers -/
def cmp3 (a b : Int) : Int := if a < b then -1 else if a > b then 1 else 0
namespace PW
theorem wv_split (n : Int) : wv (whi n) (wlo n) = n := by unfold wv whi wlo; omega
theorem whi_wv {h l : Int} (hl : U64 l) : whi (wv h l) = h := by unfold wv whi U64 at *; omega
theorem wlo_wv {h l : Int} (hl : U64 l) : wlo (wv h l) = l := by unfold wv wlo U64 at *; omega
theorem lo_u (n : Int) : U64 (wlo n) := by unfold U64 wlo; omega
theorem hi_i {n : Int} (h : I128 n) : I64 (whi n) := by unfold I64 I128 whi at *; omega
theorem wv_i {h l : Int} (hh : I64 h) (hl : U64 l) : I128 (wv h l) := by unfold wv I128 I64 U64 at *; omega
theorem w128_i (n : Int) : I128 (w128 n) := by unfold I128 w128; omega
theorem w128_id {n : Int} (h : I128 n) : w128 n = n := by unfold I128 w128 at *; omega
theorem WA_wv {h l : Int} (hl : U64 l) : AV.agg [.int .i64 h, .int .u64 l] = WA (wv h l) := by unfold WA; rw [whi_wv hl, wlo_wv hl]
theorem mul_i {a b : Int} (ha : I64 a) (hb : I64 b) : -85070591730234615865843651857942052864 ≤ a * b ∧ a * b ≤ 85070591730234615865843651857942052864 := by
  unfold I64 at *
  obtain ⟨m1, m2, m3⟩ : (¬ (a < 0 ↔ b < 0) → a * b = -(sizeI a * sizeI b)) ∧ ((a < 0 ↔ b < 0) → a * b = sizeI a * sizeI b) ∧ 0 ≤ sizeI a * sizeI b := by
    unfold sizeI
    refine ⟨fun h => ?_, fun h => ?_, Int.mul_nonneg (by split <;> omega) (by split <;> omega)⟩
    · by_cases h1 : a < 0
      · have h2 : ¬ b < 0 := by omega
        rw [if_pos h1, if_neg h2, Int.neg_mul, Int.neg_neg]
      · have h2 : b < 0 := by omega
        rw [if_neg h1, if_pos h2, Int.mul_neg, Int.neg_neg]
    · by_cases h1 : a < 0
      · have h2 : b < 0 := by omega
        rw [if_pos h1, if_pos h2, Int.neg_mul_neg]
      · have h2 : ¬ b < 0 := by omega
        rw [if_neg h1, if_neg h2]
  have s1 : 0 ≤ sizeI a ∧ sizeI a ≤ 9223372036854775808 := by unfold sizeI; split <;> omega
  have s2 : 0 ≤ sizeI b ∧ sizeI b ≤ 9223372036854775808 := by unfold sizeI; split <;> omega
  have m4 : sizeI a * sizeI b ≤ 9223372036854775808 * 9223372036854775808 := Int.mul_le_mul s1.2 s2.2 s2.1 (by omega)
  by_cases h : a < 0 ↔ b < 0
  · have := m2 h; omega
  · have := m1 h; omega
/-- a product's halves, by those of numbers without signs -/
theorem mul_halves {a b : Int} (ha : I64 a) (hb : I64 b) {hi lo : Int} (hhi : hi = (a % 18446744073709551616) * (b % 18446744073709551616) / 18446744073709551616) (hlo : lo = (a % 18446744073709551616) * (b % 18446744073709551616) % 18446744073709551616) :
    wlo (a * b) = lo ∧ whi (a * b) = IntKind.i64.wrap (hi - (if a < 0 then b else 0) - (if b < 0 then a else 0)) := by
  have ha' := ha; have hb' := hb
  unfold I64 at ha hb
  have mi := mul_i ha' hb'
  have ea : a % 18446744073709551616 = a + (if a < 0 then 18446744073709551616 else 0) := by split <;> omega
  have eb : b % 18446744073709551616 = b + (if b < 0 then 18446744073709551616 else 0) := by split <;> omega
  have ep : (a % 18446744073709551616) * (b % 18446744073709551616) = a * b + 18446744073709551616 * ((if a < 0 then b else 0) + (if b < 0 then a else 0)) + (if a < 0 ∧ b < 0 then 340282366920938463463374607431768211456 else 0) := by
    rw [ea, eb]
    by_cases h1 : a < 0 <;> by_cases h2 : b < 0
    · rw [if_pos h1, if_pos h2, if_pos h1, if_pos h2, if_pos ⟨h1, h2⟩, Int.add_mul, Int.mul_add]; omega
    · rw [if_pos h1, if_neg h2, if_pos h1, if_neg h2, if_neg (fun h => h2 h.2), Int.add_zero, Int.add_mul]; omega
    · rw [if_neg h1, if_pos h2, if_neg h1, if_pos h2, if_neg (fun h => h1 h.1), Int.add_zero, Int.mul_add]; omega
    · rw [if_neg h1, if_neg h2, if_neg h1, if_neg h2, if_neg (fun h => h1 h.1)]; simp only [Int.add_zero, Int.mul_zero]
  rw [ep] at hhi hlo
  unfold wlo whi
  generalize a * b = p at *
  refine ⟨?_, ?_⟩
  · rw [hlo]; split <;> omega
  · rw [hhi, IntKind.wrap_i64]
    generalize (if a < 0 then b else 0) = x at *
    generalize (if b < 0 then a else 0) = y at *
    split <;> omega
/-- a quotient, rounded down, if it is a number of 64 bits -/
theorem w128_add (x y : Int) : w128 (w128 x + w128 y) = w128 (x + y) := by unfold w128; omega
theorem w128_w (x : Int) : w128 (w128 x) = w128 x := by unfold w128; omega
theorem w128_mod {x y : Int} (k : Int) (h : x = y + 340282366920938463463374607431768211456 * k) : w128 x = w128 y := by unfold w128; omega
theorem row (a b0 b1 b2 b3 b4 b5 b6 b7 : Int) : a * (b0 + 65536 * b1 + 4294967296 * b2 + 281474976710656 * b3 + 18446744073709551616 * b4 + 1208925819614629174706176 * b5 + 79228162514264337593543950336 * b6 + 5192296858534827628530496329220096 * b7) =
    a * b0 + 65536 * (a * b1) + 4294967296 * (a * b2) + 281474976710656 * (a * b3) + 18446744073709551616 * (a * b4) + 1208925819614629174706176 * (a * b5) + 79228162514264337593543950336 * (a * b6) + 5192296858534827628530496329220096 * (a * b7) := by
  simp only [Int.mul_add, Int.mul_left_comm a]
theorem col (V a0 a1 a2 a3 a4 a5 a6 a7 : Int) : (a0 + 65536 * a1 + 4294967296 * a2 + 281474976710656 * a3 + 18446744073709551616 * a4 + 1208925819614629174706176 * a5 + 79228162514264337593543950336 * a6 + 5192296858534827628530496329220096 * a7) * V =
    a0 * V + 65536 * (a1 * V) + 4294967296 * (a2 * V) + 281474976710656 * (a3 * V) + 18446744073709551616 * (a4 * V) + 1208925819614629174706176 * (a5 * V) + 79228162514264337593543950336 * (a6 * V) + 5192296858534827628530496329220096 * (a7 * V) := by
  simp only [Int.add_mul, Int.mul_assoc]
end PW
def overB (n d : Int) : Bool := decide (1 ≤ d ∧ -9223372036854775808 ≤ n / d ∧ n / d < 9223372036854775808)
def overI (n d : Int) : Int := if 1 ≤ d ∧ -9223372036854775808 ≤ n / d ∧ n / d < 9223372036854775808 then n / d else 0
/-- a root of a number of 128 bits -/
def rootW (n : Int) : Int := if n < 0 then 0 else PN.rootBits 64 n 0
namespace PW
theorem root_W {n : Int} (h : 0 ≤ n) (h' : I128 n) : PN.Root n (rootW n) := by
  unfold rootW I128 at *
  rw [if_neg (by omega)]
  exact PN.root_bits 64 (by omega) (by omega) (by simpa using (by omega : n < 340282366920938463463374607431768211456))
theorem root_W_hi {n : Int} (h : 0 ≤ n) (h' : I128 n) : rootW n < 13043817825332782213 := (root_W h h').hi _ (by omega) (by unfold I128 at h'; omega)
theorem root_W_small {n : Int} (h : U64 n) : rootW n = rootI n := by
  unfold U64 at h
  exact (root_W (by omega) (by unfold I128; omega)).uniq (PN.root_I h.1 h.2)
theorem ofWide {h l : Int} (hh : I64 h) (hl : U64 l) : ∃ x, I128 x ∧ h = whi x ∧ l = wlo x := ⟨wv h l, wv_i hh hl, (whi_wv hl).symm, (wlo_wv hl).symm⟩
theorem div_ge {n d k : Int} (hd : 0 < d) : k ≤ n / d ↔ k * d ≤ n := Int.le_ediv_iff_mul_le hd
theorem div_lt {n d k : Int} (hd : 0 < d) : n / d < k ↔ n < k * d := Int.ediv_lt_iff_lt_mul hd
theorem neg_div {n d : Int} (hd : 0 < d) : n / d = -((-n - 1) / d) - 1 := by
  have a1 := (div_ge (n := n) (k := n / d) hd).1 (Int.le_refl _)
  have a2 := (div_lt (n := n) (k := n / d + 1) hd).1 (by omega)
  have b1 := (div_ge (n := -n - 1) (k := (-n - 1) / d) hd).1 (Int.le_refl _)
  have b2 := (div_lt (n := -n - 1) (k := (-n - 1) / d + 1) hd).1 (by omega)
  generalize n / d = x at *
  generalize (-n - 1) / d = y at *
  have e : (x + 1) * d = x * d + d := by rw [Int.add_mul, Int.one_mul]
  have f : (y + 1) * d = y * d + d := by rw [Int.add_mul, Int.one_mul]
  have c1 : (x + y) * d < 0 := by rw [Int.add_mul]; omega
  have c2 : 0 < (x + y + 2) * d := by rw [Int.add_mul, Int.add_mul]; omega
  have g1 : x + y < 0 := by
    rcases Int.lt_or_le (x + y) 0 with q | q
    · exact q
    · have := Int.mul_nonneg q (Int.le_of_lt hd); omega
  have g2 : 0 < x + y + 2 := by
    rcases Int.lt_or_le 0 (x + y + 2) with q | q
    · exact q
    · have := Int.mul_nonneg (show 0 ≤ -(x + y + 2) by omega) (Int.le_of_lt hd); rw [Int.neg_mul] at this; omega
  omega
/-- digits of a number of 128 bits -/
def dig (d0 d1 d2 d3 d4 d5 d6 d7 : Int) : Int := d0 + 65536 * d1 + 4294967296 * d2 + 281474976710656 * d3 + 18446744073709551616 * d4 + 1208925819614629174706176 * d5 + 79228162514264337593543950336 * d6 + 5192296858534827628530496329220096 * d7
def Dig (d0 d1 d2 d3 d4 d5 d6 d7 : Int) : Prop := (0 ≤ d0 ∧ d0 < 65536) ∧ (0 ≤ d1 ∧ d1 < 65536) ∧ (0 ≤ d2 ∧ d2 < 65536) ∧ (0 ≤ d3 ∧ d3 < 65536) ∧ (0 ≤ d4 ∧ d4 < 65536) ∧ (0 ≤ d5 ∧ d5 < 65536) ∧ (0 ≤ d6 ∧ d6 < 65536) ∧ (0 ≤ d7 ∧ d7 < 65536)
/-- one digit -/
def dg (x K : Int) : Int := x / K % 65536
theorem dg_b (x K : Int) : 0 ≤ dg x K ∧ dg x K < 65536 := by unfold dg; omega
theorem dg_sum (x : Int) : dig (dg x 1) (dg x 65536) (dg x 4294967296) (dg x 281474976710656) (dg x 18446744073709551616) (dg x 1208925819614629174706176) (dg x 79228162514264337593543950336) (dg x 5192296858534827628530496329220096) = x % 340282366920938463463374607431768211456 := by unfold dig dg; omega
theorem dg_add (x y K : Int) : Z.add .i64 (dg x K) (dg y K) = dg x K + dg y K := by have := dg_b x K; have := dg_b y K; exact Z.wrap_iid (by omega) (by omega)
theorem dg_sub (x y K : Int) : Z.sub .i64 (Z.add .i64 (dg x K) 65535) (dg y K) = dg x K + 65535 - dg y K := by
  have := dg_b x K; have := dg_b y K
  rw [show Z.add .i64 (dg x K) 65535 = dg x K + 65535 from Z.wrap_iid (by omega) (by omega)]
  exact Z.wrap_iid (by omega) (by omega)
theorem dg_mul (x y K L : Int) : Z.mul .i64 (dg x K) (dg y L) = dg x K * dg y L ∧ 0 ≤ dg x K * dg y L ∧ dg x K * dg y L < 4294967296 := by
  have a := dg_b x K; have b := dg_b y L
  have m1 : 0 ≤ dg x K * dg y L := Int.mul_nonneg (by omega) (by omega)
  have m2 : dg x K * dg y L ≤ 65535 * 65535 := Int.mul_le_mul (by omega) (by omega) (by omega) (by omega)
  exact ⟨Z.wrap_iid (by omega) (by omega), m1, by omega⟩
theorem dig_add (a0 a1 a2 a3 a4 a5 a6 a7 b0 b1 b2 b3 b4 b5 b6 b7 : Int) : dig (a0 + b0) (a1 + b1) (a2 + b2) (a3 + b3) (a4 + b4) (a5 + b5) (a6 + b6) (a7 + b7) = dig a0 a1 a2 a3 a4 a5 a6 a7 + dig b0 b1 b2 b3 b4 b5 b6 b7 := by unfold dig; omega
theorem w128_modl (x y : Int) : w128 (x % 340282366920938463463374607431768211456 + y) = w128 (x + y) := by unfold w128; omega
theorem w128_m (x : Int) : w128 (x % 340282366920938463463374607431768211456) = w128 x := by unfold w128; omega
end PW
end Go.AW
