/- Part of the proof of a law of the seat: its functions, walked. No condition. -/
import Derived.Test.YtlnmblmfonmcfaaA1T
import Derived.Test.YtlnmblmfonmcfaaPNum
import Derived.Test.YtlnmblmfonmcfaaPList
import Derived.Test.YtlnmblmfonmcfaaEngC
namespace Go.AW.A1
open Go Go.AW Go.Proofs
set_option maxRecDepth 100000
set_option linter.unusedVariables false
theorem hP : Try.prog.follows .mixedOrders = true := by kernel_rfl


theorem not_i {a : Int} (ha : -9223372036854775808 ≤ a) (ha' : a < 9223372036854775808) : Z.not .i64 a = -a - 1 := by
  have e : (BitVec.ofInt IntKind.i64.bits (if IntKind.i64.signed then -1 else IntKind.i64.max) ^^^ BitVec.ofInt IntKind.i64.bits a).toNat = 18446744073709551615 - (a % 18446744073709551616).toNat := by
    show (BitVec.ofInt 64 (-1) ^^^ BitVec.ofInt 64 a).toNat = _
    have h1 : BitVec.ofInt 64 (-1) = BitVec.allOnes 64 := by decide
    rw [h1, BitVec.allOnes_xor, BitVec.toNat_not, BitVec.toNat_ofInt]
    rfl
  unfold Z.not
  rw [e, IntKind.wrap_i64]
  omega
theorem quo_i {a b : Int} (ha : -9223372036854775808 ≤ a) (ha' : a < 9223372036854775808) (hb : 1 ≤ b) : Z.quo .i64 a b = a.tdiv b := IntWalk.i64_quo' a b ⟨ha, by omega, hb⟩
theorem quo_pos {a b : Int} (ha : 0 ≤ a) (ha' : a < 9223372036854775808) (hb : 1 ≤ b) : Z.quo .i64 a b = a / b := by rw [quo_i (by omega) ha' hb, Int.tdiv_eq_ediv_of_nonneg ha]

theorem tmod_mod {a b : Int} (hb : 0 < b) : a % b = if a.tmod b < 0 then a.tmod b + b else a.tmod b := by
  have h := Int.tmod_eq_emod (a := a) (b := b)
  have h1 := Int.emod_nonneg a (show b ≠ 0 by omega)
  have h2 := Int.emod_lt_of_pos a hb
  split at h
  · rw [h, if_neg (by omega)]; omega
  · rename_i hc
    have h3 : a % b ≠ 0 := fun e => hc (.inr (Int.dvd_of_emod_eq_zero e))
    rw [h, if_pos (by omega)]; omega
theorem refMod {a b : Int} (ha : -9223372036854775808 ≤ a) (ha' : a < 9223372036854775808) (hb' : b < 9223372036854775808) {s : List Ob} {Q : AV → List Ob → Prop} (h : ∀ v, v = modI a b → Q (.int .i64 v) s) : AC Try.prog 33 [.int .i64 a, .int .i64 b] s Q := by
  refine AC_pure rfl ?_
  refine AC_body tok 0 Try.func33 rfl (by kernel_rfl) ?_
  conv => whnf
  refine ifP (fun h1 => ?_) (fun h1 => ?_)
  · conv => whnf
    exact ⟨rfl, h _ (by unfold modI; rw [if_pos h1])⟩
  · conv => whnf
    refine andI (by simp; omega) ?_
    conv => whnf
    have e := tmod_mod (a := a) (b := b) (by omega)
    have h1' := Int.emod_nonneg a (show b ≠ 0 by omega)
    have h2' := Int.emod_lt_of_pos a (show 0 < b by omega)
    refine ifP (fun h2 => ?_) (fun h2 => ?_)
    · conv => whnf
      have h2 : a.tmod b < 0 := h2
      rw [if_pos h2] at e
      exact ⟨rfl, h _ (by unfold modI; rw [if_neg h1, e]; exact (show IntKind.i64.wrap (a.tmod b + b) = _ from Z.wrap_iid (by omega) (by omega)))⟩
    · conv => whnf
      have h2 : ¬ a.tmod b < 0 := h2
      rw [if_neg h2] at e
      exact ⟨rfl, h _ (by unfold modI; rw [if_neg h1, e])⟩

theorem and_m1 {b : Int} (hb : -9223372036854775808 ≤ b) (hb' : b < 9223372036854775808) : Z.and .i64 b (-1) = b := by
  unfold Z.and
  have h2 : (BitVec.ofInt IntKind.i64.bits b &&& BitVec.ofInt IntKind.i64.bits (-1)).toNat = (b % 18446744073709551616).toNat := by
    show (BitVec.ofInt 64 b &&& BitVec.ofInt 64 (-1)).toNat = _
    have h1 : BitVec.ofInt 64 (-1) = BitVec.allOnes 64 := by decide
    rw [h1, BitVec.and_allOnes, BitVec.toNat_ofInt]; rfl
  rw [h2, IntKind.wrap_i64]
  omega
theorem and_0 (b : Int) : Z.and .i64 b 0 = 0 := by
  unfold Z.and
  have h2 : (BitVec.ofInt IntKind.i64.bits b &&& BitVec.ofInt IntKind.i64.bits 0).toNat = 0 := by
    show (BitVec.ofInt 64 b &&& BitVec.ofInt 64 0).toNat = 0
    simp
  rw [h2]; rfl
theorem shr63 {r : Int} (h : -9223372036854775808 ≤ r) (h' : r < 9223372036854775808) : Z.shr .i64 r 63 = if r < 0 then -1 else 0 := by
  rw [Z.shr_eq 63 rfl, show (2 : Int) ^ 63 = 9223372036854775808 from rfl]
  split <;> omega

theorem numMod {a b : Int} (ha : -9223372036854775808 ≤ a) (ha' : a < 9223372036854775808) (hb' : b < 9223372036854775808) {s : List Ob} {Q : AV → List Ob → Prop} (h : ∀ v, v = modI a b → Q (.int .i64 v) s) : AC Try.prog 31 [.int .i64 a, .int .i64 b] s Q := by
  refine AC_pure rfl ?_
  refine AC_body tok 0 Try.func31 rfl (by kernel_rfl) ?_
  conv => whnf
  refine ifP (fun h1 => ?_) (fun h1 => ?_)
  · conv => whnf
    exact ⟨rfl, h _ (by unfold modI; rw [if_pos h1])⟩
  · conv => whnf
    refine andI (by simp; omega) ?_
    conv => whnf
    have e := tmod_mod (a := a) (b := b) (by omega)
    have h1' := Int.emod_nonneg a (show b ≠ 0 by omega)
    have h2' := Int.emod_lt_of_pos a (show 0 < b by omega)
    refine ⟨rfl, h _ ?_⟩
    show IntKind.i64.wrap (a.tmod b + Z.and .i64 b (Z.shr .i64 (a.tmod b) 63)) = _
    unfold modI
    rw [if_neg h1, e, shr63 (by split at e <;> omega) (by split at e <;> omega)]
    split
    · rw [and_m1 (by omega) (by omega)]; split at e <;> exact Z.wrap_iid (by omega) (by omega)
    · rw [and_0, Int.add_zero]; split at e <;> exact Z.wrap_iid (by omega) (by omega)
theorem sign_bits (x : BitVec 64) : (IntKind.i64.wrap (x.toNat : Int) < 0) ↔ x.msb = true := by
  rw [IntKind.wrap_i64, BitVec.msb_eq_decide]
  simp only [decide_eq_true_eq]
  have := x.isLt
  omega
theorem ofInt_msb {a : Int} (ha : -9223372036854775808 ≤ a) (ha' : a < 9223372036854775808) : (BitVec.ofInt 64 a).msb = decide (a < 0) := by
  rw [BitVec.msb_eq_decide, BitVec.toNat_ofInt]
  simp only [decide_eq_decide]
  omega
theorem and_neg {a b : Int} (ha : -9223372036854775808 ≤ a) (ha' : a < 9223372036854775808) (hb : -9223372036854775808 ≤ b) (hb' : b < 9223372036854775808) : Z.and .i64 a b < 0 ↔ a < 0 ∧ b < 0 := by
  have := sign_bits (BitVec.ofInt 64 a &&& BitVec.ofInt 64 b)
  rw [BitVec.msb_and, ofInt_msb ha ha', ofInt_msb hb hb'] at this
  exact this.trans (by simp)
theorem xor_neg {a b : Int} (ha : -9223372036854775808 ≤ a) (ha' : a < 9223372036854775808) (hb : -9223372036854775808 ≤ b) (hb' : b < 9223372036854775808) : Z.xor .i64 a b < 0 ↔ ¬ (a < 0 ↔ b < 0) := by
  have := sign_bits (BitVec.ofInt 64 a ^^^ BitVec.ofInt 64 b)
  rw [BitVec.msb_xor, ofInt_msb ha ha', ofInt_msb hb hb'] at this
  exact this.trans (by by_cases h1 : a < 0 <;> by_cases h2 : b < 0 <;> simp [h1, h2])

theorem i_lo (n : Int) : -9223372036854775808 ≤ IntKind.i64.wrap n := by rw [IntKind.wrap_i64]; omega
theorem i_hi (n : Int) : IntKind.i64.wrap n < 9223372036854775808 := by rw [IntKind.wrap_i64]; omega
theorem mul64 {a b : Int} (ha : 0 ≤ a) (ha' : a < 18446744073709551616) (hb : 0 ≤ b) (hb' : b < 18446744073709551616) {s : List Ob} {Q : AV → List Ob → Prop}
    (h : ∀ v u, v = a * b / 18446744073709551616 → u = a * b % 18446744073709551616 → Q (.tup [.int .u64 v, .int .u64 u]) s) : AC Try.prog 38 [.int .u64 a, .int .u64 b] s Q := by
  refine AC_pure rfl ?_
  refine AC_body tok 0 Try.func38 rfl (by kernel_rfl) ?_
  conv => whnf
  refine ⟨rfl, Qeq ?_ (h _ _ rfl rfl)⟩
  rw [Z.mask_u (a := a) (m := 4294967295) 32 rfl (by omega) ha ha', Z.mask_u (a := b) (m := 4294967295) 32 rfl (by omega) hb hb', Z.shr_eq (a := a) (k := 32) 32 rfl, Z.shr_eq (a := b) (k := 32) 32 rfl]
  simp only [Z.add, Z.mul, Z.mask_w _ 4294967295 32 rfl (by omega), Z.shr_eq (k := 32) 32 (show min (Int.toNat 32) IntKind.u64.bits = 32 from rfl)]
  simp only [Z.wrap_u]
  obtain ⟨h1, h2⟩ := Z.hi_eq ha ha' hb hb'
  simp only [AV.tup.injEq, List.cons.injEq, AV.int.injEq, true_and, and_true]
  rw [h1]
  have p1 := Z.half_mul (a := a / 4294967296) (b := b / 4294967296) (by omega) (by omega) (by omega) (by omega)
  have p2 := Z.half_mul (a := a / 4294967296) (b := b % 4294967296) (by omega) (by omega) (by omega) (by omega)
  have p3 := Z.half_mul (a := a % 4294967296) (b := b / 4294967296) (by omega) (by omega) (by omega) (by omega)
  have p4 := Z.half_mul (a := a % 4294967296) (b := b % 4294967296) (by omega) (by omega) (by omega) (by omega)
  simp only [show (2 : Int) ^ 32 = 4294967296 from rfl]
  generalize (a / 4294967296) * (b / 4294967296) = s at *
  generalize (a / 4294967296) * (b % 4294967296) = q at *
  generalize (a % 4294967296) * (b / 4294967296) = r at *
  generalize (a % 4294967296) * (b % 4294967296) = p at *
  omega
theorem or_add {X Y n : Nat} (hY : Y < 2 ^ n) : (X * 2 ^ n ||| Y) = X * 2 ^ n + Y := by
  rw [Nat.mul_comm]; exact (Nat.two_pow_add_eq_or_of_lt hY X).symm
theorem mulR {a b : Int} (ha : 0 ≤ a) (ha' : a < 18446744073709551616) (hb : 0 ≤ b) (hb' : b < 18446744073709551616) {s : List Ob} {Q : AV → List Ob → Prop}
    (h : ∀ v u, v = a * b / 18446744073709551616 → u = a * b % 18446744073709551616 → Q (.tup [.int .u64 v, .int .u64 u]) s) : AC Try.prog 35 [.int .u64 a, .int .u64 b] s Q := by
  refine AC_pure rfl ?_
  refine AC_body tok 0 Try.func35 rfl (by kernel_rfl) ?_
  conv => whnf
  refine ⟨rfl, Qeq ?_ (h _ _ rfl rfl)⟩
  rw [Z.mask_u (a := a) (m := 4294967295) 32 rfl (by omega) ha ha', Z.mask_u (a := b) (m := 4294967295) 32 rfl (by omega) hb hb', Z.shr_eq (a := a) (k := 32) 32 rfl, Z.shr_eq (a := b) (k := 32) 32 rfl]
  simp only [Z.add, Z.mul, Z.mask_w _ 4294967295 32 rfl (by omega), Z.shr_eq (k := 32) 32 (show min (Int.toNat 32) IntKind.u64.bits = 32 from rfl)]
  obtain ⟨h1, h2⟩ := Z.hi_eq ha ha' hb hb'
  simp only [AV.tup.injEq, List.cons.injEq, AV.int.injEq, true_and, and_true]
  rw [h1]
  have p1 := Z.half_mul (a := a / 4294967296) (b := b / 4294967296) (by omega) (by omega) (by omega) (by omega)
  have p2 := Z.half_mul (a := a / 4294967296) (b := b % 4294967296) (by omega) (by omega) (by omega) (by omega)
  have p3 := Z.half_mul (a := a % 4294967296) (b := b / 4294967296) (by omega) (by omega) (by omega) (by omega)
  have p4 := Z.half_mul (a := a % 4294967296) (b := b % 4294967296) (by omega) (by omega) (by omega) (by omega)
  simp only [show (2 : Int) ^ 32 = 4294967296 from rfl]
  rw [h2]
  generalize (a / 4294967296) * (b / 4294967296) = s at *
  generalize (a / 4294967296) * (b % 4294967296) = q at *
  generalize (a % 4294967296) * (b / 4294967296) = r at *
  generalize (a % 4294967296) * (b % 4294967296) = p at *
  refine ⟨by simp only [Z.wrap_u]; omega, ?_⟩
  have e : ∀ X Y : Int, 0 ≤ Y → Y < 4294967296 → 0 ≤ X → Z.or .u64 (Z.shl .u64 X 32) Y = X * 4294967296 % 18446744073709551616 + Y := by
    intro X Y h1 h2 h3
    have h4 : Z.shl .u64 X 32 = X * 4294967296 % 18446744073709551616 := Z.wrap_u _
    rw [h4, Z.or_u (by omega) (by omega) (by omega) (by omega)]
    have h5 : (X * 4294967296 % 18446744073709551616).toNat = (X % 4294967296).toNat * 2 ^ 32 := by omega
    have h6 : Y.toNat < 2 ^ 32 := by omega
    rw [h5, or_add h6]
    omega
  rw [e]
  · simp only [Z.wrap_u]; omega
  · simp only [Z.wrap_u]; omega
  · simp only [Z.wrap_u]; omega
  · simp only [Z.wrap_u]; omega

theorem size_mul (a b : Int) : (¬ (a < 0 ↔ b < 0) → a * b = -(sizeI a * sizeI b)) ∧ ((a < 0 ↔ b < 0) → a * b = sizeI a * sizeI b) ∧ 0 ≤ sizeI a * sizeI b := by
  unfold sizeI
  refine ⟨fun h => ?_, fun h => ?_, Int.mul_nonneg (by split <;> omega) (by split <;> omega)⟩
  · by_cases h1 : a < 0
    · have h2 : ¬ b < 0 := by omega
      rw [if_pos h1, if_neg h2, Int.neg_mul, Int.neg_neg]
    · have h2 : b < 0 := by omega
      rw [if_neg h1, if_pos h2, Int.mul_neg, Int.neg_neg]
  · by_cases h1 : a < 0
    · have h2 : b < 0 := by omega
      rw [if_pos h1, if_pos h2, Int.neg_mul_neg]
    · have h2 : ¬ b < 0 := by omega
      rw [if_neg h1, if_neg h2]

end Go.AW.A1
