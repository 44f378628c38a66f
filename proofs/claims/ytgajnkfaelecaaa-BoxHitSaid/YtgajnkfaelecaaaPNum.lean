/- Plain laws of numbers: quotients by two digits, roots, parts. -/
import Derived.Test.YtgajnkfaelecaaaEngC
namespace Go.AW
open Go
set_option linter.unusedVariables false

def divI (a b : Int) : Int := if b < 1 then 0 else a / b
def modI (a b : Int) : Int := if b < 1 then 0 else a % b
def holdI (n low high : Int) : Int := if n < low then low else if n > high then high else n
def plusI (a b : Int) : Int := if a + b > 9223372036854775807 then 9223372036854775807 else if a + b < -9223372036854775808 then -9223372036854775808 else a + b
def sizeI (n : Int) : Int := if n < 0 then -n else n
def timesI (a b : Int) : Int := if a * b > 9223372036854775807 then 9223372036854775807 else if a * b < -9223372036854775808 then -9223372036854775808 else a * b

namespace PN
theorem pow_le {i j : Nat} (h : i ≤ j) : (2 : Int) ^ i ≤ 2 ^ j := by
  have h1 : ((2 ^ i : Nat) : Int) ≤ ((2 ^ j : Nat) : Int) := by exact_mod_cast Nat.pow_le_pow_right (by omega) h
  rw [Int.natCast_pow, Int.natCast_pow] at h1
  exact h1
theorem pow_s (i : Nat) : (2 : Int) ^ (i + 1) = 2 ^ i + 2 ^ i := by rw [Int.pow_succ]; omega
theorem pow_pos (i : Nat) : (0 : Int) < 2 ^ i := Int.pow_pos (by omega)
/-- 1 << i -/
theorem shl_one {K : IntKind} {i : Int} (h : 0 ≤ i) (hi : i.toNat ≤ K.bits) : Z.shl K 1 i = K.wrap (2 ^ i.toNat) := by
  unfold Z.shl
  rw [show min i.toNat K.bits = i.toNat by omega, Int.one_mul]
/-! ### a quotient by digits -/
theorem dig_lt {u d Y B : Int} (hB : 0 < B) (hY : 0 < Y) (hu : u < Y) (hd : d < B) : (u * B + d) / Y < B := by
  refine Int.ediv_lt_of_lt_mul hY ?_
  have h : (u + 1) * B ≤ Y * B := Int.mul_le_mul_of_nonneg_right (by omega) (by omega)
  rw [Int.add_mul, Int.one_mul] at h
  rw [Int.mul_comm B Y]; omega
theorem dig_split {q y1 y0 r u B : Int} (e : q * y1 + r = u) : q * (y1 * B + y0) = u * B - B * r + q * y0 := by
  subst e
  rw [Int.mul_add, Int.add_mul, Int.mul_assoc, Int.mul_comm B r]; omega
theorem dig_dec {u d q r y1 y0 B : Int} (hB : 0 < B) (hY : 0 < y1 * B + y0) (hu : u < y1 * B + y0) (hd : d < B) (e : q * y1 + r = u) (hQ : (u * B + d) / (y1 * B + y0) ≤ q)
    (hc : B ≤ q ∨ B * r + d < q * y0) : (u * B + d) / (y1 * B + y0) ≤ q - 1 := by
  rcases hc with hc | hc
  · have := dig_lt hB hY hu hd; omega
  · have h : (u * B + d) / (y1 * B + y0) < q := Int.ediv_lt_of_lt_mul hY (by rw [dig_split e]; omega)
    omega
theorem dig_end {u d q r y1 y0 B : Int} (hY : 0 < y1 * B + y0) (e : q * y1 + r = u) (hQ : (u * B + d) / (y1 * B + y0) ≤ q) (hc : q * y0 ≤ B * r + d) : q = (u * B + d) / (y1 * B + y0) := by
  have h : q ≤ (u * B + d) / (y1 * B + y0) := Int.le_ediv_of_mul_le hY (by rw [dig_split e]; omega)
  omega
theorem dig_start {u d y1 y0 B : Int} (hB : 0 < B) (h1 : 0 < y1) (h0 : 0 ≤ y0) (h2 : y0 < 2 * y1) (hu0 : 0 ≤ u) (hu : u < y1 * B + y0) (hd : d < B) :
    (u * B + d) / (y1 * B + y0) ≤ u / y1 ∧ u / y1 ≤ B + 1 ∧ u / y1 * y1 + (u - u / y1 * y1) = u ∧ 0 ≤ u - u / y1 * y1 ∧ u - u / y1 * y1 < y1 := by
  have e := Int.emod_add_mul_ediv u y1
  have e1 := Int.emod_nonneg u (show y1 ≠ 0 by omega)
  have e2 := Int.emod_lt_of_pos u h1
  have hY1 : 0 < y1 * B := Int.mul_pos h1 hB
  rw [Int.mul_comm y1] at e
  generalize hq : u / y1 = q at *
  refine ⟨?_, ?_, by omega, by omega, by omega⟩
  · have h : (u * B + d) / (y1 * B + y0) < q + 1 := by
      refine Int.ediv_lt_of_lt_mul (by omega) ?_
      have hq0 : 0 ≤ q := by rw [← hq]; exact Int.ediv_nonneg hu0 (by omega)
      have h3 : (u + 1) * B ≤ ((q + 1) * y1) * B := Int.mul_le_mul_of_nonneg_right (by rw [Int.add_mul, Int.one_mul]; omega) (by omega)
      have h4 : 0 ≤ (q + 1) * y0 := Int.mul_nonneg (by omega) h0
      rw [Int.mul_add, ← Int.mul_assoc]
      rw [Int.add_mul u, Int.one_mul] at h3
      omega
    omega
  · have h : q < B + 2 := by
      rw [← hq]
      refine Int.ediv_lt_of_lt_mul h1 ?_
      rw [Int.add_mul, Int.mul_comm B]; omega
    omega
/-- two digits put together -/
theorem dig_two {u d1 d0 Y B Q1 Q0 : Int} (hY : 0 < Y) (h1 : Q1 = (u * B + d1) / Y) (h0 : Q0 = ((u * B + d1 - Q1 * Y) * B + d0) / Y) :
    (u * (B * B) + d1 * B + d0) / Y = Q1 * B + Q0 ∧ (u * (B * B) + d1 * B + d0) % Y = (u * B + d1 - Q1 * Y) * B + d0 - Q0 * Y := by
  have e0 := Int.emod_add_mul_ediv ((u * B + d1 - Q1 * Y) * B + d0) Y
  have a1 := Int.emod_nonneg ((u * B + d1 - Q1 * Y) * B + d0) (show Y ≠ 0 by omega)
  have a2 := Int.emod_lt_of_pos ((u * B + d1 - Q1 * Y) * B + d0) hY
  rw [← h0] at e0
  have := Int.ediv_emod_unique (a := u * (B * B) + d1 * B + d0) (b := Y) (r := (u * B + d1 - Q1 * Y) * B + d0 - Q0 * Y) (q := Q1 * B + Q0) hY
  rw [Int.mul_comm Y Q0] at e0
  refine this.2 ⟨?_, by omega, by omega⟩
  have e1 : Y * (Q1 * B + Q0) = Q1 * Y * B + Q0 * Y := by rw [Int.mul_add, ← Int.mul_assoc, Int.mul_comm Y Q1, Int.mul_comm Y Q0]
  have e2 : (u * B + d1 - Q1 * Y) * B = u * (B * B) + d1 * B - Q1 * Y * B := by rw [Int.sub_mul, Int.add_mul, Int.mul_assoc]
  rw [e1, e2]; omega

/-! ### roots -/
structure Root (n r : Int) : Prop where
  pos : 0 ≤ r
  le : r * r ≤ n
  lt : n < (r + 1) * (r + 1)

theorem sq_le {a b : Int} (ha : 0 ≤ a) (h : a ≤ b) : a * a ≤ b * b := Int.mul_le_mul h h ha (by omega)
theorem sq_lt {a b : Int} (hb : 0 ≤ b) (h : a * a < b * b) : a < b := by
  rcases Int.lt_or_le a b with q | q
  · exact q
  · exact absurd (sq_le hb q) (by omega)
theorem Root.uniq {n r r' : Int} (h : Root n r) (h' : Root n r') : r = r' := by
  have h1 := sq_lt (show 0 ≤ r' + 1 by have := h'.pos; omega) (Int.lt_of_le_of_lt h.le h'.lt)
  have h2 := sq_lt (show 0 ≤ r + 1 by have := h.pos; omega) (Int.lt_of_le_of_lt h'.le h.lt)
  omega
theorem Root.ex {n : Int} (hn : 0 ≤ n) : ∃ r, Root n r := by
  obtain ⟨n, rfl⟩ := Int.eq_ofNat_of_zero_le hn
  clear hn
  induction n with
  | zero => exact ⟨0, by omega, by decide, by decide⟩
  | succ n ih =>
    obtain ⟨r, h⟩ := ih
    have h1 := h.le; have h2 := h.lt; have h3 := h.pos
    rcases Int.lt_or_le ((n + 1 : Nat) : Int) ((r + 1) * (r + 1)) with q | q
    · exact ⟨r, h3, by omega, q⟩
    · refine ⟨r + 1, by omega, q, ?_⟩
      have : (r + 1 + 1) * (r + 1 + 1) = (r + 1) * (r + 1) + 2 * (r + 1) + 1 := by
        rw [Int.add_mul (r + 1), Int.mul_add (r + 1)]; omega
      omega
theorem Root.hi {n r : Int} (h : Root n r) (B : Int) (hB : 0 ≤ B) (hn : n < B * B) : r < B := sq_lt hB (Int.lt_of_le_of_lt h.le hn)
theorem Root.ge {n r : Int} (h : Root n r) (b : Int) (hn : b * b ≤ n) : b ≤ r := by
  have := sq_lt (a := b) (show 0 ≤ r + 1 by have := h.pos; omega) (Int.lt_of_le_of_lt hn h.lt)
  omega
theorem Root.mono {n n' r r' : Int} (h : Root n r) (h' : Root n' r') (hn : n ≤ n') : r ≤ r' := h'.ge r (Int.le_trans h.le hn)
/-- a root, bit by bit -/
def rootBits : Nat → Int → Int → Int
  | 0, _, r => r
  | i + 1, n, r => rootBits i n (if (r + 2 ^ i) * (r + 2 ^ i) ≤ n then r + 2 ^ i else r)
theorem root_bits : ∀ (i : Nat) {n r : Int}, 0 ≤ r → r * r ≤ n → n < (r + 2 ^ i) * (r + 2 ^ i) → Root n (rootBits i n r)
  | 0, n, r, h0, h1, h2 => ⟨h0, h1, h2⟩
  | i + 1, n, r, h0, h1, h2 => by
    have hp : (0 : Int) < 2 ^ i := Int.pow_pos (by omega)
    have e : (2 : Int) ^ (i + 1) = 2 ^ i + 2 ^ i := by rw [Int.pow_succ]; omega
    rw [e] at h2
    unfold rootBits
    split
    · rename_i h
      exact root_bits i (by omega) h (by rw [Int.add_assoc]; exact h2)
    · exact root_bits i h0 h1 (by omega)
/-- one round of Newton's -/
theorem newton {n r s : Int} (hs : Root n s) (hr : s ≤ r) (hr0 : 0 < r) : s ≤ (r + n / r) / 2 ∧ (r ≤ (r + n / r) / 2 → r = s) := by
  have h1 : 2 * s - r ≤ n / r := by
    refine Int.le_ediv_of_mul_le hr0 (Int.le_trans ?_ hs.le)
    have h : 0 ≤ (r - s) * (r - s) := Int.mul_nonneg (by omega) (by omega)
    have e : (r - s) * (r - s) = r * r - s * r - s * r + s * s := by rw [Int.sub_mul, Int.mul_sub, Int.mul_sub, Int.mul_comm r s]; omega
    have e2 : (2 * s - r) * r = s * r + s * r - r * r := by rw [Int.sub_mul, Int.mul_assoc]; omega
    omega
  refine ⟨by omega, fun h => ?_⟩
  have h2 : r ≤ n / r := by omega
  have h3 : r * r ≤ n := by
    have := Int.mul_le_mul_of_nonneg_right h2 (show 0 ≤ r by omega)
    exact Int.le_trans this (Int.ediv_mul_le n (by omega))
  have := hs.ge r h3
  omega

end PN
def rootI (n : Int) : Int := PN.rootBits 32 n 0
namespace PN
theorem root_I {n : Int} (h : 0 ≤ n) (h' : n < 18446744073709551616) : Root n (rootI n) := root_bits 32 (by omega) (by omega) (by simpa using h')
theorem root_hi {n : Int} (h : 0 ≤ n) (h' : n < 18446744073709551616) : rootI n < 4294967296 := (root_I h h').hi _ (by omega) (by omega)
/-! ### parts -/
def partOk (a b c : Int) : Bool := decide (a * b < c * 18446744073709551616)
def partI (a b c : Int) : Int := if a * b < c * 18446744073709551616 then a * b / c else 0
theorem part_hi {a b c : Int} : (c ≤ a * b / 18446744073709551616) ↔ ¬ a * b < c * 18446744073709551616 := by
  generalize a * b = p; omega
end PN
/-! ### how long a number is -/
def lenTab : ByteArray := ⟨#[0, 1, 2, 2, 3, 3, 3, 3, 4, 4, 4, 4, 4, 4, 4, 4, 5, 5, 5, 5, 5, 5, 5, 5, 5, 5, 5, 5, 5, 5, 5, 5, 6, 6, 6, 6, 6, 6, 6, 6, 6, 6, 6, 6, 6, 6, 6, 6, 6, 6, 6, 6, 6, 6, 6, 6, 6, 6, 6, 6, 6, 6, 6, 6, 7, 7, 7, 7, 7, 7, 7, 7, 7, 7, 7, 7, 7, 7, 7, 7, 7, 7, 7, 7, 7, 7, 7, 7, 7, 7, 7, 7, 7, 7, 7, 7, 7, 7, 7, 7, 7, 7, 7, 7, 7, 7, 7, 7, 7, 7, 7, 7, 7, 7, 7, 7, 7, 7, 7, 7, 7, 7, 7, 7, 7, 7, 7, 7, 8, 8, 8, 8, 8, 8, 8, 8, 8, 8, 8, 8, 8, 8, 8, 8, 8, 8, 8, 8, 8, 8, 8, 8, 8, 8, 8, 8, 8, 8, 8, 8, 8, 8, 8, 8, 8, 8, 8, 8, 8, 8, 8, 8, 8, 8, 8, 8, 8, 8, 8, 8, 8, 8, 8, 8, 8, 8, 8, 8, 8, 8, 8, 8, 8, 8, 8, 8, 8, 8, 8, 8, 8, 8, 8, 8, 8, 8, 8, 8, 8, 8, 8, 8, 8, 8, 8, 8, 8, 8, 8, 8, 8, 8, 8, 8, 8, 8, 8, 8, 8, 8, 8, 8, 8, 8, 8, 8, 8, 8, 8, 8, 8, 8, 8, 8, 8, 8, 8, 8, 8, 8, 8, 8, 8, 8, 8, 8]⟩
namespace PN
theorem lenTab_size : lenTab.size = 256 := by decide +kernel
theorem lenTab_key : ∀ i : Nat, i < 256 → i < 2 ^ (lenTab.data.getD i 0).toNat ∧ ((lenTab.data.getD i 0).toNat = 0 → i = 0) ∧ ((lenTab.data.getD i 0).toNat = 0 ∨ 2 ^ ((lenTab.data.getD i 0).toNat - 1) ≤ i) ∧ (lenTab.data.getD i 0).toNat ≤ 8 := by decide +kernel
theorem wrap_u8 (n : Int) : IntKind.u8.wrap n = n % 256 := by
  show (if IntKind.u8.signed && decide (n % (2 ^ IntKind.u8.bits : Int) ≥ (2 ^ (IntKind.u8.bits - 1) : Int)) then n % (2 ^ IntKind.u8.bits : Int) - (2 ^ IntKind.u8.bits : Int) else n % (2 ^ IntKind.u8.bits : Int)) = _
  rfl
theorem len_fin {x y m : Int} (k : Nat) {Q : AV → Prop} (hy0 : 0 ≤ y) (hy : y < 256) (h1 : y * 2 ^ k ≤ x) (h2 : x < (y + 1) * 2 ^ k) (h3 : k = 0 ∨ 1 ≤ y) (hm : m = k) (hk : k ≤ 56)
    (h : ∀ n : Nat, x < 2 ^ n → (n = 0 ∨ 2 ^ (n - 1) ≤ x) → n ≤ 64 → Q (.int .i64 (n : Int))) : Q (.int .i64 (Z.add .i64 m (IntKind.i64.wrap ((lenTab.data.getD (IntKind.u8.wrap y).toNat 0).toNat : Int)))) := by
  have ey : (IntKind.u8.wrap y).toNat = y.toNat := by rw [wrap_u8]; omega
  rw [ey]
  obtain ⟨c1, c2, c3, c4⟩ := lenTab_key y.toNat (by omega)
  generalize hv : (lenTab.data.getD y.toNat 0).toNat = v at *
  have e2 : Z.add .i64 m (IntKind.i64.wrap (v : Int)) = ((v + k : Nat) : Int) := by
    unfold Z.add
    simp only [IntKind.wrap_i64]; omega
  rw [e2]
  have p0 : (0 : Int) < 2 ^ k := Int.pow_pos (by omega)
  have ye : ((y.toNat : Nat) : Int) = y := Int.toNat_of_nonneg hy0
  refine h _ ?_ ?_ (by omega)
  · have a1 : (y + 1) * 2 ^ k ≤ 2 ^ v * 2 ^ k := by
      refine Int.mul_le_mul_of_nonneg_right ?_ (Int.le_of_lt p0)
      have : ((y.toNat : Nat) : Int) < ((2 ^ v : Nat) : Int) := by exact_mod_cast c1
      rw [Int.natCast_pow] at this
      have h2 : ((2 : Nat) : Int) ^ v = 2 ^ v := rfl
      omega
    rw [Int.pow_add]; omega
  · rcases Nat.eq_zero_or_pos v with q | q
    · left
      have := c2 q
      rcases h3 with h3 | h3 <;> omega
    · right
      have c3 : 2 ^ (v - 1) ≤ y.toNat := by rcases c3 with c3 | c3; omega; exact c3
      have a1 : 2 ^ (v - 1) * 2 ^ k ≤ y * 2 ^ k := by
        refine Int.mul_le_mul_of_nonneg_right ?_ (Int.le_of_lt p0)
        have : ((2 ^ (v - 1) : Nat) : Int) ≤ ((y.toNat : Nat) : Int) := by exact_mod_cast c3
        rw [Int.natCast_pow] at this
        have h2 : ((2 : Nat) : Int) ^ (v - 1) = 2 ^ (v - 1) := rfl
        omega
      have e3 : v + k - 1 = v - 1 + k := by omega
      rw [e3, Int.pow_add]; omega
/-! ### a quotient of two digits by one: what is shifted -/
theorem or_add' {X Y n : Nat} (hY : Y < 2 ^ n) : (X * 2 ^ n ||| Y) = X * 2 ^ n + Y := by
  rw [Nat.mul_comm]; exact (Nat.two_pow_add_eq_or_of_lt hY X).symm
theorem div_prep {hi lo y sh Y U L : Int} {n : Nat} (h0 : 0 ≤ hi) (h1 : hi < y) (hy : y < 18446744073709551616) (l0 : 0 ≤ lo) (l1 : lo < 18446744073709551616)
    (hn1 : y < 2 ^ n) (hn2 : n = 0 ∨ 2 ^ (n - 1) ≤ y) (hn3 : n ≤ 64) (hs : IntKind.u64.wrap (Z.sub .i64 64 (n : Int)) = sh) (hY : Z.shl .u64 y sh = Y)
    (hU : Z.or .u64 (Z.shl .u64 hi sh) (Z.shr .u64 lo (Z.sub .u64 64 sh)) = U) (hL : Z.shl .u64 lo sh = L) :
    ∃ p : Int, 0 < p ∧ Y = y * p ∧ 9223372036854775808 ≤ Y ∧ Y < 18446744073709551616 ∧ U * 18446744073709551616 + L = (hi * 18446744073709551616 + lo) * p ∧ 0 ≤ L ∧ L < 18446744073709551616 ∧ 0 ≤ U ∧ U < Y ∧
      0 ≤ sh ∧ 0 ≤ Z.sub .u64 64 sh ∧ ∀ z, Z.shr .u64 (z * p) sh = z := by
  have hn0 : n ≠ 0 := by rintro rfl; simp at hn1; omega
  obtain ⟨k, hk⟩ : ∃ k : Nat, k + n = 64 := ⟨64 - n, by omega⟩
  have es : sh = (k : Int) := by
    rw [← hs]; unfold Z.sub
    rw [IntKind.wrap_i64, Z.wrap_u]; omega
  have es2 : Z.sub .u64 64 sh = (n : Int) := by rw [es]; unfold Z.sub; rw [Z.wrap_u]; omega
  have hp : (0 : Int) < 2 ^ k := Int.pow_pos (by omega)
  have hq : (0 : Int) < 2 ^ n := Int.pow_pos (by omega)
  have e64 : (2 : Int) ^ k * 2 ^ n = 18446744073709551616 := by rw [← Int.pow_add, hk]; rfl
  have hmin : min sh.toNat IntKind.u64.bits = k := by rw [es]; show min (Int.toNat (k : Int)) 64 = k; omega
  have hmin2 : min (Z.sub .u64 64 sh).toNat IntKind.u64.bits = n := by rw [es2]; show min (Int.toNat (n : Int)) 64 = n; omega
  have shl : ∀ a, Z.shl .u64 a sh = (a * 2 ^ k) % 18446744073709551616 := by intro a; unfold Z.shl; rw [hmin, Z.wrap_u]
  have b1 : y * 2 ^ k + 2 ^ k ≤ 18446744073709551616 := by
    have : (y + 1) * 2 ^ k ≤ 2 ^ n * 2 ^ k := Int.mul_le_mul_of_nonneg_right (by omega) (Int.le_of_lt hp)
    rw [Int.add_mul, Int.one_mul, Int.mul_comm (2 ^ n), e64] at this; exact this
  have b2 : 9223372036854775808 ≤ y * 2 ^ k := by
    have h2 : (2 : Int) ^ (n - 1) ≤ y := by rcases hn2 with h | h; omega; exact h
    have : (2 : Int) ^ (n - 1) * 2 ^ k ≤ y * 2 ^ k := Int.mul_le_mul_of_nonneg_right h2 (Int.le_of_lt hp)
    rw [← Int.pow_add, show n - 1 + k = 63 by omega] at this
    exact this
  have b3 : hi * 2 ^ k + 2 ^ k ≤ y * 2 ^ k := by
    have : (hi + 1) * 2 ^ k ≤ y * 2 ^ k := Int.mul_le_mul_of_nonneg_right (by omega) (Int.le_of_lt hp)
    rw [Int.add_mul, Int.one_mul] at this; exact this
  have b4 : 0 ≤ hi * 2 ^ k := Int.mul_nonneg h0 (Int.le_of_lt hp)
  have eY : Y = y * 2 ^ k := by rw [← hY, shl]; exact Int.emod_eq_of_lt (by omega) (by omega)
  have eH : Z.shl .u64 hi sh = hi * 2 ^ k := by rw [shl]; exact Int.emod_eq_of_lt (by omega) (by omega)
  have eS : Z.shr .u64 lo (Z.sub .u64 64 sh) = lo / 2 ^ n := Z.shr_eq n hmin2
  have c1 : 0 ≤ lo / 2 ^ n := Int.ediv_nonneg l0 (Int.le_of_lt hq)
  have c2 : lo / 2 ^ n < 2 ^ k := by
    refine Int.ediv_lt_of_lt_mul hq ?_
    rw [e64]; exact l1
  have eU : U = hi * 2 ^ k + lo / 2 ^ n := by
    rw [← hU, eH, eS, Z.or_u b4 (by omega) c1 (by omega)]
    have h2 : (hi * 2 ^ k).toNat = hi.toNat * 2 ^ k := by
      have : hi * 2 ^ k = ((hi.toNat * 2 ^ k : Nat) : Int) := by
        rw [Int.natCast_mul, Int.toNat_of_nonneg h0, Int.natCast_pow]; rfl
      rw [this]; exact Int.toNat_natCast _
    have h3 : (lo / 2 ^ n).toNat < 2 ^ k := by
      have : ((lo / 2 ^ n).toNat : Int) < ((2 ^ k : Nat) : Int) := by
        rw [Int.toNat_of_nonneg c1, Int.natCast_pow]; exact c2
      exact_mod_cast this
    rw [h2, or_add' h3, ← h2]
    rw [Int.natCast_add, Int.toNat_of_nonneg b4, Int.toNat_of_nonneg c1]
  have m0 := Int.emod_add_mul_ediv lo (2 ^ n)
  have m1 := Int.emod_nonneg lo (show (2 : Int) ^ n ≠ 0 by omega)
  have m2 := Int.emod_lt_of_pos lo hq
  have lp : lo * 2 ^ k = (lo / 2 ^ n) * 18446744073709551616 + (lo % 2 ^ n) * 2 ^ k := by
    have h2 : (lo % 2 ^ n + 2 ^ n * (lo / 2 ^ n)) * 2 ^ k = lo * 2 ^ k := by rw [m0]
    rw [← h2, Int.add_mul, Int.mul_assoc, Int.mul_left_comm, Int.mul_comm (2 ^ n), e64]; omega
  have lr : (lo % 2 ^ n) * 2 ^ k + 2 ^ k ≤ 18446744073709551616 := by
    have : (lo % 2 ^ n + 1) * 2 ^ k ≤ 2 ^ n * 2 ^ k := Int.mul_le_mul_of_nonneg_right (by omega) (Int.le_of_lt hp)
    rw [Int.add_mul, Int.one_mul, Int.mul_comm (2 ^ n), e64] at this; exact this
  have ln : 0 ≤ (lo % 2 ^ n) * 2 ^ k := Int.mul_nonneg m1 (Int.le_of_lt hp)
  have eL : L = (lo % 2 ^ n) * 2 ^ k := by rw [← hL, shl, lp]; omega
  refine ⟨2 ^ k, hp, eY, by omega, by omega, ?_, by omega, by omega, by omega, by omega, by omega, by omega, fun z => ?_⟩
  · rw [eU, eL, Int.add_mul (hi * 18446744073709551616), lp, Int.add_mul (hi * 2 ^ k), Int.mul_assoc, Int.mul_comm (2 ^ k), ← Int.mul_assoc]; omega
  · rw [Z.shr_eq k hmin]; exact Int.mul_ediv_cancel z (by omega)

/-- a digit's remainder, as it goes round -/
theorem dig_rem {u d q Y R B : Int} (hY : 0 < Y) (hY' : Y < 18446744073709551616) (hB : B = 4294967296) (hq : q = (u * B + d) / Y) (h : Z.sub .u64 (Z.add .u64 (Z.mul .u64 u B) d) (Z.mul .u64 q Y) = R) : R = u * B + d - q * Y ∧ 0 ≤ R ∧ R < Y := by
  have e := Int.emod_add_mul_ediv (u * B + d) Y
  have e1 := Int.emod_nonneg (u * B + d) (show Y ≠ 0 by omega)
  have e2 := Int.emod_lt_of_pos (u * B + d) hY
  rw [← hq, Int.mul_comm Y] at e
  have : R = u * B + d - q * Y := by
    rw [← h]
    simp only [Z.sub, Z.add, Z.mul, Z.wrap_u]
    generalize q * Y = z at *
    subst hB
    omega
  exact ⟨this, by omega, by omega⟩
theorem div_fin {V y p Y U L u1 u0 Q1 Q0 R1 : Int} (hp : 0 < p) (eY : Y = y * p) (eV : U * 18446744073709551616 + L = V * p) (eL : L = u1 * 4294967296 + u0)
    (h1 : (U * (4294967296 * 4294967296) + u1 * 4294967296 + u0) / Y = Q1 * 4294967296 + Q0) (h2 : (U * (4294967296 * 4294967296) + u1 * 4294967296 + u0) % Y = R1 * 4294967296 + u0 - Q0 * Y) :
    V / y = Q1 * 4294967296 + Q0 ∧ R1 * 4294967296 + u0 - Q0 * Y = (V % y) * p := by
  have e : U * (4294967296 * 4294967296) + u1 * 4294967296 + u0 = p * V := by rw [Int.mul_comm p]; omega
  rw [e, eY, Int.mul_comm y p] at h1 h2
  rw [Int.mul_ediv_mul_of_pos _ _ hp] at h1
  rw [Int.mul_emod_mul_of_pos _ _ hp] at h2
  refine ⟨h1, ?_⟩
  rw [eY, Int.mul_comm y p, ← h2, Int.mul_comm]
end PN
end Go.AW
