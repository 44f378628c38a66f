/- Part of the proof of a law of the seat: its functions, walked. No condition. -/
import Derived.Test.YthhhgdefejogoaaA3T
import Derived.Test.YthhhgdefejogoaaPNum
import Derived.Test.YthhhgdefejogoaaPList
import Derived.Test.YthhhgdefejogoaaEngC
namespace Go.AW.A3
open Go Go.AW Go.Proofs
set_option maxRecDepth 100000
set_option linter.unusedVariables false
theorem hP : Try.prog.follows .mixedOrders = true := by kernel_rfl


theorem not_i {a : Int} (ha : -9223372036854775808 ≤ a) (ha' : a < 9223372036854775808) : Z.not .i64 a = -a - 1 := by
  have e : (BitVec.ofInt IntKind.i64.bits (if IntKind.i64.signed then -1 else IntKind.i64.max) ^^^ BitVec.ofInt IntKind.i64.bits a).toNat = 18446744073709551615 - (a % 18446744073709551616).toNat := by
    show (BitVec.ofInt 64 (-1) ^^^ BitVec.ofInt 64 a).toNat = _
    have h1 : BitVec.ofInt 64 (-1) = BitVec.allOnes 64 := by decide
    rw [h1, BitVec.allOnes_xor, BitVec.toNat_not, BitVec.toNat_ofInt]
    rfl
  unfold Z.not
  rw [e, IntKind.wrap_i64]
  omega
theorem quo_i {a b : Int} (ha : -9223372036854775808 ≤ a) (ha' : a < 9223372036854775808) (hb : 1 ≤ b) : Z.quo .i64 a b = a.tdiv b := IntWalk.i64_quo' a b ⟨ha, by omega, hb⟩
theorem quo_pos {a b : Int} (ha : 0 ≤ a) (ha' : a < 9223372036854775808) (hb : 1 ≤ b) : Z.quo .i64 a b = a / b := by rw [quo_i (by omega) ha' hb, Int.tdiv_eq_ediv_of_nonneg ha]

theorem numDiv {a b : Int} (ha : -9223372036854775808 ≤ a) (ha' : a < 9223372036854775808) {s : List Ob} {Q : AV → List Ob → Prop} (h : ∀ v, v = divI a b → Q (.int .i64 v) s) : AC Try.prog 48 [.int .i64 a, .int .i64 b] s Q := by
  refine AC_pure rfl ?_
  refine AC_body tok 0 Try.func48 rfl (by kernel_rfl) ?_
  conv => whnf
  refine ifP (fun h1 => ?_) (fun h1 => ?_)
  · conv => whnf
    exact ⟨rfl, h _ (by unfold divI; rw [if_pos h1])⟩
  · conv => whnf
    refine ifP (fun h2 => ?_) (fun h2 => ?_)
    · conv => whnf
      refine andI (by simp; omega) ?_
      conv => whnf
      exact ⟨rfl, h _ (by unfold divI; rw [if_neg h1, quo_pos h2 ha' (by omega)])⟩
    · conv => whnf
      refine andI (by simp; omega) ?_
      conv => whnf
      refine ⟨rfl, h _ ?_⟩
      have h3 : 0 ≤ (-a - 1) / b := Int.ediv_nonneg (by omega) (by omega)
      have h4 : (-a - 1) / b ≤ -a - 1 := Int.ediv_le_self _ (by omega)
      unfold divI
      rw [if_neg h1, not_i ha ha', quo_pos (by omega) (by omega) (by omega), not_i (by omega) (by omega)]
      have h5 := Int.emod_add_mul_ediv (-a - 1) b
      have h6 := Int.emod_nonneg (-a - 1) (show b ≠ 0 by omega)
      have h7 := Int.emod_lt_of_pos (-a - 1) (show 0 < b by omega)
      have e : b * (-((-a - 1) / b) - 1) = -(b * ((-a - 1) / b)) - b := by rw [Int.mul_sub, Int.mul_neg, Int.mul_one]
      exact ((Int.ediv_emod_unique (r := b - 1 - (-a - 1) % b) (show 0 < b by omega)).2 ⟨by rw [e]; omega, by omega, by omega⟩).1.symm
theorem refDiv {a b : Int} (ha : -9223372036854775808 ≤ a) (ha' : a < 9223372036854775808) {s : List Ob} {Q : AV → List Ob → Prop} (h : ∀ v, v = divI a b → Q (.int .i64 v) s) : AC Try.prog 39 [.int .i64 a, .int .i64 b] s Q := by
  refine AC_pure rfl ?_
  refine AC_body tok 0 Try.func39 rfl (by kernel_rfl) ?_
  conv => whnf
  refine ifP (fun h1 => ?_) (fun h1 => ?_)
  · conv => whnf
    exact ⟨rfl, h _ (by unfold divI; rw [if_pos h1])⟩
  · conv => whnf
    refine andI (by simp; omega) ?_
    conv => whnf
    by_cases h2 : a < 0
    · rw [decide_eq_true h2]
      conv => whnf
      refine andI (by simp; omega) ?_
      conv => whnf
      have e0 := Int.tdiv_eq_ediv (a := a) (b := b)
      have e1 : Z.quo .i64 a b = a.tdiv b := quo_i (by omega) ha' (by omega)
      by_cases h3 : Z.rem .i64 a b = 0
      · rw [show (Z.rem .i64 a b != 0) = false by simp [h3]]
        conv => whnf
        refine ⟨rfl, h _ ?_⟩
        unfold divI
        rw [if_neg h1, e1, e0, if_pos (.inr (Int.dvd_of_tmod_eq_zero h3)), Int.add_zero]
      · rw [show (Z.rem .i64 a b != 0) = true by simpa using h3]
        conv => whnf
        refine ⟨rfl, h _ ?_⟩
        have h4 : ¬ b ∣ a := fun hd => h3 (Int.tmod_eq_zero_of_dvd hd)
        rw [if_neg (by simp [h4]; omega), Int.sign_eq_one_of_pos (by omega)] at e0
        have h5 : a / b < 0 := Int.ediv_neg_of_neg_of_pos h2 (by omega)
        have h6 : a ≤ a / b := by
          have := Int.emod_add_mul_ediv a b
          have h7 := Int.emod_nonneg a (show b ≠ 0 by omega)
          have h8 : b * (a / b + 1) ≤ 1 * (a / b + 1) := Int.mul_le_mul_of_nonpos_right (by omega) (by omega)
          have h9 := Int.emod_lt_of_pos a (show 0 < b by omega)
          rw [Int.mul_add, Int.mul_one] at h8
          omega
        unfold divI
        rw [if_neg h1, e1, e0]
        rw [show a / b + 1 = (a / b + 1) from rfl]
        exact (Z.wrap_iid (by omega) (by omega)).trans (by omega)
    · rw [decide_eq_false h2]
      conv => whnf
      exact ⟨rfl, h _ (by unfold divI; rw [if_neg h1, quo_pos (by omega) ha' (by omega)])⟩

theorem tmod_mod {a b : Int} (hb : 0 < b) : a % b = if a.tmod b < 0 then a.tmod b + b else a.tmod b := by
  have h := Int.tmod_eq_emod (a := a) (b := b)
  have h1 := Int.emod_nonneg a (show b ≠ 0 by omega)
  have h2 := Int.emod_lt_of_pos a hb
  split at h
  · rw [h, if_neg (by omega)]; omega
  · rename_i hc
    have h3 : a % b ≠ 0 := fun e => hc (.inr (Int.dvd_of_emod_eq_zero e))
    rw [h, if_pos (by omega)]; omega
theorem and_m1 {b : Int} (hb : -9223372036854775808 ≤ b) (hb' : b < 9223372036854775808) : Z.and .i64 b (-1) = b := by
  unfold Z.and
  have h2 : (BitVec.ofInt IntKind.i64.bits b &&& BitVec.ofInt IntKind.i64.bits (-1)).toNat = (b % 18446744073709551616).toNat := by
    show (BitVec.ofInt 64 b &&& BitVec.ofInt 64 (-1)).toNat = _
    have h1 : BitVec.ofInt 64 (-1) = BitVec.allOnes 64 := by decide
    rw [h1, BitVec.and_allOnes, BitVec.toNat_ofInt]; rfl
  rw [h2, IntKind.wrap_i64]
  omega
theorem and_0 (b : Int) : Z.and .i64 b 0 = 0 := by
  unfold Z.and
  have h2 : (BitVec.ofInt IntKind.i64.bits b &&& BitVec.ofInt IntKind.i64.bits 0).toNat = 0 := by
    show (BitVec.ofInt 64 b &&& BitVec.ofInt 64 0).toNat = 0
    simp
  rw [h2]; rfl
theorem shr63 {r : Int} (h : -9223372036854775808 ≤ r) (h' : r < 9223372036854775808) : Z.shr .i64 r 63 = if r < 0 then -1 else 0 := by
  rw [Z.shr_eq 63 rfl, show (2 : Int) ^ 63 = 9223372036854775808 from rfl]
  split <;> omega

theorem sign_bits (x : BitVec 64) : (IntKind.i64.wrap (x.toNat : Int) < 0) ↔ x.msb = true := by
  rw [IntKind.wrap_i64, BitVec.msb_eq_decide]
  simp only [decide_eq_true_eq]
  have := x.isLt
  omega
theorem ofInt_msb {a : Int} (ha : -9223372036854775808 ≤ a) (ha' : a < 9223372036854775808) : (BitVec.ofInt 64 a).msb = decide (a < 0) := by
  rw [BitVec.msb_eq_decide, BitVec.toNat_ofInt]
  simp only [decide_eq_decide]
  omega
theorem and_neg {a b : Int} (ha : -9223372036854775808 ≤ a) (ha' : a < 9223372036854775808) (hb : -9223372036854775808 ≤ b) (hb' : b < 9223372036854775808) : Z.and .i64 a b < 0 ↔ a < 0 ∧ b < 0 := by
  have := sign_bits (BitVec.ofInt 64 a &&& BitVec.ofInt 64 b)
  rw [BitVec.msb_and, ofInt_msb ha ha', ofInt_msb hb hb'] at this
  exact this.trans (by simp)
theorem xor_neg {a b : Int} (ha : -9223372036854775808 ≤ a) (ha' : a < 9223372036854775808) (hb : -9223372036854775808 ≤ b) (hb' : b < 9223372036854775808) : Z.xor .i64 a b < 0 ↔ ¬ (a < 0 ↔ b < 0) := by
  have := sign_bits (BitVec.ofInt 64 a ^^^ BitVec.ofInt 64 b)
  rw [BitVec.msb_xor, ofInt_msb ha ha', ofInt_msb hb hb'] at this
  exact this.trans (by by_cases h1 : a < 0 <;> by_cases h2 : b < 0 <;> simp [h1, h2])

theorem i_lo (n : Int) : -9223372036854775808 ≤ IntKind.i64.wrap n := by rw [IntKind.wrap_i64]; omega
theorem i_hi (n : Int) : IntKind.i64.wrap n < 9223372036854775808 := by rw [IntKind.wrap_i64]; omega
theorem numSize {n : Int} (hn : -9223372036854775808 ≤ n) (hn' : n < 9223372036854775808) {s : List Ob} {Q : AV → List Ob → Prop} (h : ∀ v, v = sizeI n → Q (.int .u64 v) s) : AC Try.prog 60 [.int .i64 n] s Q := by
  refine AC_pure rfl ?_
  refine AC_body tok 0 Try.func60 rfl (by kernel_rfl) ?_
  conv => whnf
  refine ifP (fun h1 => ?_) (fun h1 => ?_)
  · conv => whnf
    refine ⟨rfl, h _ ?_⟩
    unfold sizeI; rw [if_pos h1]
    show IntKind.u64.wrap (0 - IntKind.u64.wrap n) = -n
    simp only [Z.wrap_u]; omega
  · conv => whnf
    refine ⟨rfl, h _ ?_⟩
    unfold sizeI; rw [if_neg h1]
    exact Z.wrap_uid (by omega) (by omega)
theorem mul64 {a b : Int} (ha : 0 ≤ a) (ha' : a < 18446744073709551616) (hb : 0 ≤ b) (hb' : b < 18446744073709551616) {s : List Ob} {Q : AV → List Ob → Prop}
    (h : ∀ v u, v = a * b / 18446744073709551616 → u = a * b % 18446744073709551616 → Q (.tup [.int .u64 v, .int .u64 u]) s) : AC Try.prog 59 [.int .u64 a, .int .u64 b] s Q := by
  refine AC_pure rfl ?_
  refine AC_body tok 0 Try.func59 rfl (by kernel_rfl) ?_
  conv => whnf
  refine ⟨rfl, Qeq ?_ (h _ _ rfl rfl)⟩
  rw [Z.mask_u (a := a) (m := 4294967295) 32 rfl (by omega) ha ha', Z.mask_u (a := b) (m := 4294967295) 32 rfl (by omega) hb hb', Z.shr_eq (a := a) (k := 32) 32 rfl, Z.shr_eq (a := b) (k := 32) 32 rfl]
  simp only [Z.add, Z.mul, Z.mask_w _ 4294967295 32 rfl (by omega), Z.shr_eq (k := 32) 32 (show min (Int.toNat 32) IntKind.u64.bits = 32 from rfl)]
  simp only [Z.wrap_u]
  obtain ⟨h1, h2⟩ := Z.hi_eq ha ha' hb hb'
  simp only [AV.tup.injEq, List.cons.injEq, AV.int.injEq, true_and, and_true]
  rw [h1]
  have p1 := Z.half_mul (a := a / 4294967296) (b := b / 4294967296) (by omega) (by omega) (by omega) (by omega)
  have p2 := Z.half_mul (a := a / 4294967296) (b := b % 4294967296) (by omega) (by omega) (by omega) (by omega)
  have p3 := Z.half_mul (a := a % 4294967296) (b := b / 4294967296) (by omega) (by omega) (by omega) (by omega)
  have p4 := Z.half_mul (a := a % 4294967296) (b := b % 4294967296) (by omega) (by omega) (by omega) (by omega)
  simp only [show (2 : Int) ^ 32 = 4294967296 from rfl]
  generalize (a / 4294967296) * (b / 4294967296) = s at *
  generalize (a / 4294967296) * (b % 4294967296) = q at *
  generalize (a % 4294967296) * (b / 4294967296) = r at *
  generalize (a % 4294967296) * (b % 4294967296) = p at *
  omega
theorem or_add {X Y n : Nat} (hY : Y < 2 ^ n) : (X * 2 ^ n ||| Y) = X * 2 ^ n + Y := by
  rw [Nat.mul_comm]; exact (Nat.two_pow_add_eq_or_of_lt hY X).symm
theorem size_mul (a b : Int) : (¬ (a < 0 ↔ b < 0) → a * b = -(sizeI a * sizeI b)) ∧ ((a < 0 ↔ b < 0) → a * b = sizeI a * sizeI b) ∧ 0 ≤ sizeI a * sizeI b := by
  unfold sizeI
  refine ⟨fun h => ?_, fun h => ?_, Int.mul_nonneg (by split <;> omega) (by split <;> omega)⟩
  · by_cases h1 : a < 0
    · have h2 : ¬ b < 0 := by omega
      rw [if_pos h1, if_neg h2, Int.neg_mul, Int.neg_neg]
    · have h2 : b < 0 := by omega
      rw [if_neg h1, if_pos h2, Int.mul_neg, Int.neg_neg]
  · by_cases h1 : a < 0
    · have h2 : b < 0 := by omega
      rw [if_pos h1, if_pos h2, Int.neg_mul_neg]
    · have h2 : ¬ b < 0 := by omega
      rw [if_neg h1, if_neg h2]

theorem numTimes {a b : Int} (ha : -9223372036854775808 ≤ a) (ha' : a < 9223372036854775808) (hb : -9223372036854775808 ≤ b) (hb' : b < 9223372036854775808) {s : List Ob} {Q : AV → List Ob → Prop} (h : ∀ v, v = timesI a b → Q (.int .i64 v) s) : AC Try.prog 55 [.int .i64 a, .int .i64 b] s Q := by
  refine AC_pure rfl ?_
  refine AC_body tok 0 Try.func55 rfl (by kernel_rfl) ?_
  conv => whnf
  refine numSize ha ha' (fun x hx => ?_)
  conv => whnf
  refine numSize hb hb' (fun y hy => ?_)
  conv => whnf
  refine mul64 (by rw [hx]; unfold sizeI; split <;> omega) (by rw [hx]; unfold sizeI; split <;> omega) (by rw [hy]; unfold sizeI; split <;> omega) (by rw [hy]; unfold sizeI; split <;> omega) (fun hi lo hhi hlo => ?_)
  conv => whnf
  obtain ⟨m1, m2, m3⟩ := size_mul a b
  rw [← hx, ← hy] at m1 m2 m3
  have xn := xor_neg ha ha' hb hb'
  have p1 : x * y = hi * 18446744073709551616 + lo := by rw [hhi, hlo]; omega
  have p2 : 0 ≤ hi := by rw [hhi]; omega
  have p3 : 0 ≤ lo ∧ lo < 18446744073709551616 := by rw [hlo]; omega
  generalize hp : x * y = p at *
  by_cases h1 : hi = 0
  · rw [show (hi == 0) = true by simp [h1]]
    conv => whnf
    by_cases h2 : lo ≤ 9223372036854775807
    · rw [decide_eq_true h2]
      conv => whnf
      by_cases h3 : Z.xor .i64 a b < 0
      · rw [decide_eq_true h3]
        conv => whnf
        refine ⟨rfl, h _ ?_⟩
        rw [xn] at h3
        have := m1 h3
        unfold timesI
        rw [this, if_neg (by omega), if_neg (by omega)]
        show IntKind.i64.wrap (0 - IntKind.i64.wrap lo) = _
        simp only [IntKind.wrap_i64]; omega
      · rw [decide_eq_false h3]
        conv => whnf
        rw [show (hi == 0) = true by simp [h1]]
        conv => whnf
        rw [decide_eq_true h2]
        conv => whnf
        refine ⟨rfl, h _ ?_⟩
        rw [xn] at h3
        have := m2 (by omega)
        unfold timesI
        rw [this, if_neg (by omega), if_neg (by omega)]
        show IntKind.i64.wrap lo = _
        simp only [IntKind.wrap_i64]; omega
    · rw [decide_eq_false h2]
      conv => whnf
      rw [show (hi == 0) = true by simp [h1]]
      conv => whnf
      rw [decide_eq_false h2]
      conv => whnf
      by_cases h3 : Z.xor .i64 a b < 0
      · rw [decide_eq_true h3]
        conv => whnf
        refine ⟨rfl, h _ ?_⟩
        rw [xn] at h3
        have := m1 h3
        unfold timesI
        rw [this, if_neg (by omega)]
        split <;> omega
      · rw [decide_eq_false h3]
        conv => whnf
        refine ⟨rfl, h _ ?_⟩
        rw [xn] at h3
        have := m2 (by omega)
        unfold timesI
        rw [this, if_pos (by omega)]
  · rw [show (hi == 0) = false by simp [h1]]
    conv => whnf
    rw [show (hi == 0) = false by simp [h1]]
    conv => whnf
    by_cases h3 : Z.xor .i64 a b < 0
    · rw [decide_eq_true h3]
      conv => whnf
      refine ⟨rfl, h _ ?_⟩
      rw [xn] at h3
      have := m1 h3
      unfold timesI
      rw [this, if_neg (by omega)]
      split <;> omega
    · rw [decide_eq_false h3]
      conv => whnf
      refine ⟨rfl, h _ ?_⟩
      rw [xn] at h3
      have := m2 (by omega)
      unfold timesI
      rw [this, if_pos (by omega)]

end Go.AW.A3
