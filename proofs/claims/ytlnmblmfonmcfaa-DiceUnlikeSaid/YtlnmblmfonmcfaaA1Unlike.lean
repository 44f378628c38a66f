/- Part of the proof of a law of the seat: its functions, walked. No condition. -/
import Derived.Test.YtlnmblmfonmcfaaA1Dice
namespace Go.AW.A1
open Go Go.AW Go.Proofs
set_option maxRecDepth 100000
set_option linter.unusedVariables false

theorem xs_lt {V : Nat} (K : Nat) (h : V < 2 ^ 64) : V ^^^ V >>> K < 2 ^ 64 := Nat.xor_lt_two_pow h (Nat.lt_of_le_of_lt (Nat.shiftRight_le _ _) h)

theorem hi_step (V I : Nat) : V / 2 ^ (I + 1) * 2 ^ (I + 1) + 2 ^ I * (V.testBit I).toNat = V / 2 ^ I * 2 ^ I := by
  rw [Nat.toNat_testBit]
  have h1 : V / 2 ^ (I + 1) = V / 2 ^ I / 2 := by rw [Nat.pow_succ, Nat.div_div_eq_div_mul]
  have h2 := Nat.div_add_mod (V / 2 ^ I) 2
  rw [h1, Nat.pow_succ]
  generalize V / 2 ^ I = z at *
  generalize hp : 2 ^ I = p at *
  have h3 : z / 2 * (p * 2) + p * (z % 2) = p * (2 * (z / 2) + z % 2) := by rw [Nat.mul_add, Nat.mul_comm p 2, ← Nat.mul_assoc, ← Nat.mul_assoc, Nat.mul_comm p 2, Nat.mul_comm (z / 2) 2, Nat.mul_right_comm]
  rw [h3, h2, Nat.mul_comm]

theorem hi_bit (V I J : Nat) (h : I ≤ J) : (V / 2 ^ I * 2 ^ I).testBit J = V.testBit J := by
  rw [Nat.testBit_mul_two_pow]
  simp [h, Nat.testBit_div_two_pow, Nat.sub_add_cancel h]

/-- **back**: what was shifted -/
theorem back {V : Nat} {y k : Int} (hV : V < 2 ^ 64) (hk : 0 < k) (hk' : k < 64) (hy : y = ((V ^^^ V >>> k.toNat : Nat) : Int)) {s : List Ob} {Q : AV → List Ob → Prop}
    (hQ : ∀ u, u = (V : Int) → Q (.int .u64 u) s) : AC Try.prog 39 [.int .u64 y, .int .i64 k] s Q := by
  refine AC_pure rfl ?_
  refine AC_body tok 0 Try.func39 rfl (by kernel_rfl) ?_
  conv => whnf
  have hY := xs_lt k.toNat hV
  have y0 : 0 ≤ y := by omega
  have y1 : y < 18446744073709551616 := by omega
  have hyn : y.toNat = V ^^^ V >>> k.toNat := by omega
  refine ALs.inv (ι := Nat × Int × Int) tok 0 (keepN 7) (fun p => p.2.1 + 1 = p.1 ∧ p.1 ≤ 64 ∧ p.2.2 = ((V / 2 ^ p.1 * 2 ^ p.1 : Nat) : Int)) (fun p => p.1)
    (fun p => [.int .u64 y, .int .i64 k, .junk, .junk, .int .u64 0, .int .u64 p.2.2, .int .i64 p.2.1] ++ junks 27) (fun _ => []) (fun _ => ()) (64, 63, 0) ⟨by rfl, by simp, by simp [Nat.div_eq_of_lt hV]⟩ rfl rfl rfl ?_
  rintro ⟨n, i, out⟩ ⟨h1, h2, h3⟩
  dsimp only at h1 h2 h3
  conv => whnf
  refine ifP (fun h => ?_) (fun h => ?_)
  · dsimp only at h
    obtain ⟨I, rfl⟩ : ∃ I, n = I + 1 := ⟨n - 1, by omega⟩
    have hi : i.toNat = I := by omega
    have hle : V / 2 ^ (I + 1) * 2 ^ (I + 1) ≤ V := Nat.div_mul_le_self _ _
    conv => whnf
    refine andP h ?_
    conv => whnf
    have e1 : Z.sub .i64 i 1 = i - 1 := Z.wrap_iid (by omega) (by omega)
    have e2 : Z.add .i64 i k = i + k := Z.wrap_iid (by omega) (by omega)
    have hstep : ∀ b : Int, b = ((V.testBit I).toNat : Int) → Z.add .u64 out (Z.shl .u64 b i) = ((V / 2 ^ I * 2 ^ I : Nat) : Int) := by
      rintro b rfl
      have hs := hi_step V I
      have hl2 : V / 2 ^ I * 2 ^ I ≤ V := Nat.div_mul_le_self _ _
      have h4 : Z.shl .u64 ((V.testBit I).toNat : Int) i = ((2 ^ I * (V.testBit I).toNat : Nat) : Int) := by
        unfold Z.shl
        rw [show min i.toNat IntKind.u64.bits = I by (show min i.toNat 64 = _; omega)]
        have : (((V.testBit I).toNat : Int) * 2 ^ I) = ((2 ^ I * (V.testBit I).toNat : Nat) : Int) := by rw [Nat.mul_comm]; norm_cast
        rw [this, Z.cast_lt (by omega)]
      rw [h4, h3]
      have : Z.add .u64 ((V / 2 ^ (I + 1) * 2 ^ (I + 1) : Nat) : Int) ((2 ^ I * (V.testBit I).toNat : Nat) : Int) = IntKind.u64.wrap ((V / 2 ^ (I + 1) * 2 ^ (I + 1) + 2 ^ I * (V.testBit I).toNat : Nat) : Int) := by unfold Z.add; norm_cast
      rw [this, hs, Z.cast_lt (by omega)]
    refine ifP (fun h => ?_) (fun h => ?_)
    · conv => whnf
      dsimp only at h
      refine andP (by show 0 ≤ Z.add .i64 i k; omega) ?_
      conv => whnf
      refine andP (by show 0 ≤ i; omega) ?_
      conv => whnf
      refine ⟨(I, _, _), rfl, rfl, rfl, ?_, ?_, ?_, hstep _ ?_⟩
      · show I < I + 1; omega
      · show Z.sub .i64 i 1 + 1 = (I : Int); omega
      · show I ≤ 64; omega
      · dsimp only
        have o0 : 0 ≤ out := by omega
        have o1 : out < 18446744073709551616 := by omega
        have hot : out.toNat = V / 2 ^ (I + 1) * 2 ^ (I + 1) := by omega
        rw [e2, bit_u y0 y1 (by omega) (by omega), bit_u o0 o1 (i := i + k) (by omega) (by omega), Z.xor_u (by omega) (by have := toNat_lt2 (y.toNat.testBit i.toNat); omega) (by omega) (by have := toNat_lt2 (out.toNat.testBit (i + k).toNat); omega)]
        simp only [Int.toNat_natCast]
        rw [bitx, hyn, hot, hi, hi_bit _ _ _ (by omega), Nat.testBit_xor, Nat.testBit_shiftRight, show (i + k).toNat = k.toNat + I by omega, Bool.xor_assoc, Bool.xor_self, Bool.xor_false]
    · conv => whnf
      dsimp only at h
      refine andP (by show 0 ≤ i; omega) ?_
      conv => whnf
      refine ⟨(I, _, _), rfl, rfl, rfl, ?_, ?_, ?_, hstep _ ?_⟩
      · show I < I + 1; omega
      · show Z.sub .i64 i 1 + 1 = (I : Int); omega
      · show I ≤ 64; omega
      · dsimp only
        rw [bit_u y0 y1 (by omega) (by omega), hyn, hi, Nat.testBit_xor, Nat.testBit_shiftRight]
        have : V.testBit (k.toNat + I) = false := Nat.testBit_lt_two_pow (Nat.lt_of_lt_of_le hV (Nat.pow_le_pow_right (by omega) (by omega)))
        rw [this, Bool.xor_false]
  · conv => whnf
    dsimp only at h
    have : n = 0 := by omega
    subst this
    refine ⟨rfl, hQ _ ?_⟩
    dsimp only
    rw [h3]; simp

def turnI : Nat → Int → Int → Int
  | 0, _, x => x
  | k + 1, n, x => turnI k n (Z.mul .u64 x (Z.sub .u64 2 (Z.mul .u64 n x)))

theorem turned {n : Int} {s : List Ob} {Q : AV → List Ob → Prop} (hQ : ∀ v, v = turnI 6 n n → Q (.int .u64 v) s) : AC Try.prog 40 [.int .u64 n] s Q := by
  refine AC_pure rfl ?_
  refine AC_body tok 0 Try.func40 rfl (by kernel_rfl) ?_
  conv => whnf
  refine ALs.inv (ι := Nat × Int × Int) tok 0 (keepN 5) (fun p => p.2.1 + p.1 = 6 ∧ 0 ≤ p.2.1 ∧ turnI p.1 n p.2.2 = turnI 6 n n) (fun p => p.1)
    (fun p => [.int .u64 n, .junk, .int .u64 0, .int .u64 p.2.2, .int .i64 p.2.1] ++ junks 12) (fun _ => []) (fun _ => ()) (6, 0, n) ⟨by rfl, by simp, rfl⟩ rfl rfl rfl ?_
  rintro ⟨k, i, x⟩ ⟨h1, h2, h3⟩
  dsimp only at h1 h2 h3
  conv => whnf
  refine ifP (fun h => ?_) (fun h => ?_)
  · dsimp only at h
    obtain ⟨K, rfl⟩ : ∃ K, k = K + 1 := ⟨k - 1, by omega⟩
    have e1 : Z.add .i64 i 1 = i + 1 := Z.wrap_iid (by omega) (by omega)
    conv => whnf
    refine ⟨(K, _, _), rfl, rfl, rfl, ?_, ?_, ?_, h3⟩
    · show K < K + 1; omega
    · show Z.add .i64 i 1 + (K : Int) = 6; omega
    · show 0 ≤ Z.add .i64 i 1; omega
  · dsimp only at h
    obtain rfl : k = 0 := by omega
    conv => whnf
    exact ⟨rfl, hQ _ h3⟩

theorem unmul {V : Int} {c d : Int} (h0 : 0 ≤ V) (h1 : V < 18446744073709551616) (h : c * d % 18446744073709551616 = 1) : Z.mul .u64 (Z.mul .u64 V c) d = V := by
  unfold Z.mul
  rw [Z.wrap_u, Z.wrap_u, Int.mul_emod (V * c % 18446744073709551616), Int.emod_emod, ← Int.mul_emod, Int.mul_assoc, Int.mul_emod, h, Int.mul_one, Int.emod_emod, Int.emod_eq_of_lt h0 h1]

theorem unmix {x v : Int} (hx : 0 ≤ x) (hx' : x < 18446744073709551616) (hv : v = mixI x) {s : List Ob} {Q : AV → List Ob → Prop} (hQ : Q (.int .u64 x) s) : AC Try.prog 25 [.int .u64 v] s Q := by
  refine AC_pure rfl ?_
  refine AC_body tok 0 Try.func25 rfl (by kernel_rfl) ?_
  conv => whnf
  generalize hA : Z.mul .u64 (Z.xor .u64 x (Z.shr .u64 x 30)) 13787848793156543929 = A
  generalize hB : Z.mul .u64 (Z.xor .u64 A (Z.shr .u64 A 27)) 10723151780598845931 = B
  have a0 : 0 ≤ A := by rw [← hA]; exact Z.wrap_u_lo _
  have a1 : A < 18446744073709551616 := by rw [← hA]; exact Z.wrap_u_hi _
  have b0 : 0 ≤ B := by rw [← hB]; exact Z.wrap_u_lo _
  have b1 : B < 18446744073709551616 := by rw [← hB]; exact Z.wrap_u_hi _
  refine back (V := B.toNat) (by omega) (by omega) (by omega) (by rw [xs_u b0 b1 (by omega) (by omega), hv]; unfold mixI; simp only; rw [hA, hB]) (fun u1 h1 => ?_)
  conv => whnf
  refine turned (fun t1 ht1 => ?_)
  conv => whnf
  refine back (V := A.toNat) (by omega) (by omega) (by omega) ?_ (fun u2 h2 => ?_)
  · rw [xs_u a0 a1 (by omega) (by omega), h1, ht1, Int.toNat_of_nonneg b0, ← hB]
    exact unmul (xor_lo _ _) (xor_hi _ _) (by decide +kernel)
  conv => whnf
  refine turned (fun t2 ht2 => ?_)
  conv => whnf
  refine back (V := x.toNat) (by omega) (by omega) (by omega) ?_ (fun u3 h3 => ?_)
  · rw [xs_u hx hx' (by omega) (by omega), h2, ht2, Int.toNat_of_nonneg a0, ← hA]
    exact unmul (xor_lo _ _) (xor_hi _ _) (by decide +kernel)
  conv => whnf
  exact ⟨rfl, Qeq (by rw [h3, Int.toNat_of_nonneg hx]) hQ⟩

/-- unlike numbers are mixed to unlike ones -/
theorem xs_inj {X Y : Nat} {K : Nat} (hK : 0 < K) (hX : X < 2 ^ 64) (hY : Y < 2 ^ 64) (h : X ^^^ X >>> K = Y ^^^ Y >>> K) : X = Y := by
  have key : ∀ n I : Nat, 64 ≤ I + n → X.testBit I = Y.testBit I := by
    intro n
    induction n with
    | zero =>
      intro I hI
      rw [Nat.testBit_lt_two_pow (Nat.lt_of_lt_of_le hX (Nat.pow_le_pow_right (by omega) (by omega))), Nat.testBit_lt_two_pow (Nat.lt_of_lt_of_le hY (Nat.pow_le_pow_right (by omega) (by omega)))]
    | succ n ih =>
      intro I hI
      have h1 := congrArg (·.testBit I) h
      simp only [Nat.testBit_xor, Nat.testBit_shiftRight] at h1
      rw [ih (K + I) (by omega)] at h1
      cases hx : X.testBit I <;> cases hy : Y.testBit I <;> simp_all
  exact Nat.eq_of_testBit_eq fun I => key 64 I (by omega)

theorem xsI_inj {x y : Int} {k : Int} (hk : 0 < k) (hk' : k < 64) (hx : 0 ≤ x) (hx' : x < 18446744073709551616) (hy : 0 ≤ y) (hy' : y < 18446744073709551616) (h : Z.xor .u64 x (Z.shr .u64 x k) = Z.xor .u64 y (Z.shr .u64 y k)) : x = y := by
  rw [← xs_u hx hx' (by omega) hk', ← xs_u hy hy' (by omega) hk'] at h
  have := xs_inj (K := k.toNat) (by omega) (X := x.toNat) (Y := y.toNat) (by omega) (by omega) (by omega)
  omega

theorem bne_self {α : Type} [BEq α] [LawfulBEq α] (a : α) : (a != a) = false := by simp
theorem mix_inj {x y : Int} (hx : 0 ≤ x) (hx' : x < 18446744073709551616) (hy : 0 ≤ y) (hy' : y < 18446744073709551616) (h : mixI x = mixI y) : x = y := by
  unfold mixI at h
  have h1 := xsI_inj (by omega) (by omega) (Z.wrap_u_lo _) (Z.wrap_u_hi _) (Z.wrap_u_lo _) (Z.wrap_u_hi _) h
  have h2 := congrArg (fun z => Z.mul .u64 z (turnI 6 10723151780598845931 10723151780598845931)) h1
  rw [unmul (xor_lo _ _) (xor_hi _ _) (by decide +kernel), unmul (xor_lo _ _) (xor_hi _ _) (by decide +kernel)] at h2
  have h3 := xsI_inj (by omega) (by omega) (Z.wrap_u_lo _) (Z.wrap_u_hi _) (Z.wrap_u_lo _) (Z.wrap_u_hi _) h2
  have h4 := congrArg (fun z => Z.mul .u64 z (turnI 6 13787848793156543929 13787848793156543929)) h3
  rw [unmul (xor_lo _ _) (xor_hi _ _) (by decide +kernel), unmul (xor_lo _ _) (xor_hi _ _) (by decide +kernel)] at h4
  exact xsI_inj (by omega) (by omega) hx hx' hy hy' h4

theorem mix_lo (x : Int) : 0 ≤ mixI x := xor_lo _ _
theorem mix_hi (x : Int) : mixI x < 18446744073709551616 := xor_hi _ _

theorem link_lo (x n : Int) : 0 ≤ linkI x n := xor_lo _ _
theorem link_hi (x n : Int) : linkI x n < 18446744073709551616 := xor_hi _ _

theorem link_iff {x y a b : Int} (hx : 0 ≤ x) (hx' : x < 18446744073709551616) (hy : 0 ≤ y) (hy' : y < 18446744073709551616) (ha : -9223372036854775808 ≤ a) (ha' : a < 9223372036854775808)
    (hb : -9223372036854775808 ≤ b) (hb' : b < 9223372036854775808) (hh : a = b ∨ x = y) : linkI x a = linkI y b ↔ (a = b ∧ x = y) := by
  constructor
  · intro h
    have h1 := mix_inj (Z.wrap_u_lo _) (Z.wrap_u_hi _) (Z.wrap_u_lo _) (Z.wrap_u_hi _) h
    simp only [Z.wrap_u] at h1
    rcases hh with rfl | rfl
    · exact ⟨rfl, by omega⟩
    · exact ⟨by omega, rfl⟩
  · rintro ⟨rfl, rfl⟩; rfl

theorem law7 {x y seed a b c : Int} (hx : 0 ≤ x) (hx' : x < 18446744073709551616) (hy : 0 ≤ y) (hy' : y < 18446744073709551616)
    (ha : -9223372036854775808 ≤ a) (ha' : a < 9223372036854775808) (hb : -9223372036854775808 ≤ b) (hb' : b < 9223372036854775808) (hc : -9223372036854775808 ≤ c) (hc' : c < 9223372036854775808)
    {s : List Ob} {Q : AV → List Ob → Prop} (hQ : Q (.bool true) s) : AC Try.prog 7 [.int .u64 x, .int .u64 y, .int .u64 seed, .int .i64 a, .int .i64 b, .int .i64 c] s Q := by
  refine AC_pure rfl ?_
  refine AC_body tok 0 Try.func7 rfl (by kernel_rfl) ?_
  conv => whnf
  refine mix _ _ _ (fun v1 h1 => ?_)
  conv => whnf
  refine unmix hx hx' h1 ?_
  conv => whnf
  rw [bne_self x]
  conv => whnf
  refine mix _ _ _ (fun v2 h2 => ?_)
  conv => whnf
  refine mix _ _ _ (fun v3 h3 => ?_)
  have e : (v2 == v3) = (x == y) := by
    rw [Bool.eq_iff_iff, beq_iff_eq, beq_iff_eq, h2, h3]
    exact ⟨mix_inj hx hx' hy hy', congrArg mixI⟩
  conv => whnf
  rw [e, beq_self_eq_true (x == y)]
  conv => whnf
  refine draw (fun d1 hd1 => ?_)
  conv => whnf
  refine draw (fun d2 hd2 => ?_)
  have e1 : (d1 == d2) = (a == b) := by
    rw [Bool.eq_iff_iff, beq_iff_eq, beq_iff_eq, hd1, hd2]
    unfold drawI
    rw [link_iff (link_lo _ _) (link_hi _ _) (link_lo _ _) (link_hi _ _) hc hc' hc hc' (.inl rfl), link_iff (mix_lo _) (mix_hi _) (mix_lo _) (mix_hi _) ha ha' hb hb' (.inr rfl)]
    simp
  conv => whnf
  rw [e1, beq_self_eq_true]
  conv => whnf
  refine draw (fun d3 hd3 => ?_)
  conv => whnf
  refine draw (fun d4 hd4 => ?_)
  have e2 : (d3 == d4) = (a == b) := by
    rw [Bool.eq_iff_iff, beq_iff_eq, beq_iff_eq, hd3, hd4]
    unfold drawI
    rw [link_iff (link_lo _ _) (link_hi _ _) (link_lo _ _) (link_hi _ _) ha ha' hb hb' (.inr rfl)]
    simp
  conv => whnf
  rw [e2, beq_self_eq_true]
  conv => whnf
  refine awake ?_
  conv => whnf
  exact ⟨rfl, hQ⟩
end Go.AW.A1
