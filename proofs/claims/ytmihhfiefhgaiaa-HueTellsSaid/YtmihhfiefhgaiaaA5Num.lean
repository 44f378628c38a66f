/- Part of the proof of a law of the seat: its functions, walked. No condition. -/
import Derived.Test.YtmihhfiefhgaiaaA5T
import Derived.Test.YtmihhfiefhgaiaaPNum
import Derived.Test.YtmihhfiefhgaiaaPList
import Derived.Test.YtmihhfiefhgaiaaEngC
namespace Go.AW.A5
open Go Go.AW Go.Proofs
set_option maxRecDepth 100000
set_option linter.unusedVariables false
theorem hP : Try.prog.follows .mixedOrders = true := by kernel_rfl


theorem not_i {a : Int} (ha : -9223372036854775808 ≤ a) (ha' : a < 9223372036854775808) : Z.not .i64 a = -a - 1 := by
  have e : (BitVec.ofInt IntKind.i64.bits (if IntKind.i64.signed then -1 else IntKind.i64.max) ^^^ BitVec.ofInt IntKind.i64.bits a).toNat = 18446744073709551615 - (a % 18446744073709551616).toNat := by
    show (BitVec.ofInt 64 (-1) ^^^ BitVec.ofInt 64 a).toNat = _
    have h1 : BitVec.ofInt 64 (-1) = BitVec.allOnes 64 := by decide
    rw [h1, BitVec.allOnes_xor, BitVec.toNat_not, BitVec.toNat_ofInt]
    rfl
  unfold Z.not
  rw [e, IntKind.wrap_i64]
  omega
theorem quo_i {a b : Int} (ha : -9223372036854775808 ≤ a) (ha' : a < 9223372036854775808) (hb : 1 ≤ b) : Z.quo .i64 a b = a.tdiv b := IntWalk.i64_quo' a b ⟨ha, by omega, hb⟩
theorem quo_pos {a b : Int} (ha : 0 ≤ a) (ha' : a < 9223372036854775808) (hb : 1 ≤ b) : Z.quo .i64 a b = a / b := by rw [quo_i (by omega) ha' hb, Int.tdiv_eq_ediv_of_nonneg ha]

theorem numDiv {a b : Int} (ha : -9223372036854775808 ≤ a) (ha' : a < 9223372036854775808) {s : List Ob} {Q : AV → List Ob → Prop} (h : ∀ v, v = divI a b → Q (.int .i64 v) s) : AC Try.prog 75 [.int .i64 a, .int .i64 b] s Q := by
  refine AC_pure rfl ?_
  refine AC_body tok 0 Try.func75 rfl (by kernel_rfl) ?_
  conv => whnf
  refine ifP (fun h1 => ?_) (fun h1 => ?_)
  · conv => whnf
    exact ⟨rfl, h _ (by unfold divI; rw [if_pos h1])⟩
  · conv => whnf
    refine ifP (fun h2 => ?_) (fun h2 => ?_)
    · conv => whnf
      refine andI (by simp; omega) ?_
      conv => whnf
      exact ⟨rfl, h _ (by unfold divI; rw [if_neg h1, quo_pos h2 ha' (by omega)])⟩
    · conv => whnf
      refine andI (by simp; omega) ?_
      conv => whnf
      refine ⟨rfl, h _ ?_⟩
      have h3 : 0 ≤ (-a - 1) / b := Int.ediv_nonneg (by omega) (by omega)
      have h4 : (-a - 1) / b ≤ -a - 1 := Int.ediv_le_self _ (by omega)
      unfold divI
      rw [if_neg h1, not_i ha ha', quo_pos (by omega) (by omega) (by omega), not_i (by omega) (by omega)]
      have h5 := Int.emod_add_mul_ediv (-a - 1) b
      have h6 := Int.emod_nonneg (-a - 1) (show b ≠ 0 by omega)
      have h7 := Int.emod_lt_of_pos (-a - 1) (show 0 < b by omega)
      have e : b * (-((-a - 1) / b) - 1) = -(b * ((-a - 1) / b)) - b := by rw [Int.mul_sub, Int.mul_neg, Int.mul_one]
      exact ((Int.ediv_emod_unique (r := b - 1 - (-a - 1) % b) (show 0 < b by omega)).2 ⟨by rw [e]; omega, by omega, by omega⟩).1.symm
theorem refDiv {a b : Int} (ha : -9223372036854775808 ≤ a) (ha' : a < 9223372036854775808) {s : List Ob} {Q : AV → List Ob → Prop} (h : ∀ v, v = divI a b → Q (.int .i64 v) s) : AC Try.prog 59 [.int .i64 a, .int .i64 b] s Q := by
  refine AC_pure rfl ?_
  refine AC_body tok 0 Try.func59 rfl (by kernel_rfl) ?_
  conv => whnf
  refine ifP (fun h1 => ?_) (fun h1 => ?_)
  · conv => whnf
    exact ⟨rfl, h _ (by unfold divI; rw [if_pos h1])⟩
  · conv => whnf
    refine andI (by simp; omega) ?_
    conv => whnf
    by_cases h2 : a < 0
    · rw [decide_eq_true h2]
      conv => whnf
      refine andI (by simp; omega) ?_
      conv => whnf
      have e0 := Int.tdiv_eq_ediv (a := a) (b := b)
      have e1 : Z.quo .i64 a b = a.tdiv b := quo_i (by omega) ha' (by omega)
      by_cases h3 : Z.rem .i64 a b = 0
      · rw [show (Z.rem .i64 a b != 0) = false by simp [h3]]
        conv => whnf
        refine ⟨rfl, h _ ?_⟩
        unfold divI
        rw [if_neg h1, e1, e0, if_pos (.inr (Int.dvd_of_tmod_eq_zero h3)), Int.add_zero]
      · rw [show (Z.rem .i64 a b != 0) = true by simpa using h3]
        conv => whnf
        refine ⟨rfl, h _ ?_⟩
        have h4 : ¬ b ∣ a := fun hd => h3 (Int.tmod_eq_zero_of_dvd hd)
        rw [if_neg (by simp [h4]; omega), Int.sign_eq_one_of_pos (by omega)] at e0
        have h5 : a / b < 0 := Int.ediv_neg_of_neg_of_pos h2 (by omega)
        have h6 : a ≤ a / b := by
          have := Int.emod_add_mul_ediv a b
          have h7 := Int.emod_nonneg a (show b ≠ 0 by omega)
          have h8 : b * (a / b + 1) ≤ 1 * (a / b + 1) := Int.mul_le_mul_of_nonpos_right (by omega) (by omega)
          have h9 := Int.emod_lt_of_pos a (show 0 < b by omega)
          rw [Int.mul_add, Int.mul_one] at h8
          omega
        unfold divI
        rw [if_neg h1, e1, e0]
        rw [show a / b + 1 = (a / b + 1) from rfl]
        exact (Z.wrap_iid (by omega) (by omega)).trans (by omega)
    · rw [decide_eq_false h2]
      conv => whnf
      exact ⟨rfl, h _ (by unfold divI; rw [if_neg h1, quo_pos (by omega) ha' (by omega)])⟩

theorem tmod_mod {a b : Int} (hb : 0 < b) : a % b = if a.tmod b < 0 then a.tmod b + b else a.tmod b := by
  have h := Int.tmod_eq_emod (a := a) (b := b)
  have h1 := Int.emod_nonneg a (show b ≠ 0 by omega)
  have h2 := Int.emod_lt_of_pos a hb
  split at h
  · rw [h, if_neg (by omega)]; omega
  · rename_i hc
    have h3 : a % b ≠ 0 := fun e => hc (.inr (Int.dvd_of_emod_eq_zero e))
    rw [h, if_pos (by omega)]; omega
theorem refMod {a b : Int} (ha : -9223372036854775808 ≤ a) (ha' : a < 9223372036854775808) (hb' : b < 9223372036854775808) {s : List Ob} {Q : AV → List Ob → Prop} (h : ∀ v, v = modI a b → Q (.int .i64 v) s) : AC Try.prog 80 [.int .i64 a, .int .i64 b] s Q := by
  refine AC_pure rfl ?_
  refine AC_body tok 0 Try.func80 rfl (by kernel_rfl) ?_
  conv => whnf
  refine ifP (fun h1 => ?_) (fun h1 => ?_)
  · conv => whnf
    exact ⟨rfl, h _ (by unfold modI; rw [if_pos h1])⟩
  · conv => whnf
    refine andI (by simp; omega) ?_
    conv => whnf
    have e := tmod_mod (a := a) (b := b) (by omega)
    have h1' := Int.emod_nonneg a (show b ≠ 0 by omega)
    have h2' := Int.emod_lt_of_pos a (show 0 < b by omega)
    refine ifP (fun h2 => ?_) (fun h2 => ?_)
    · conv => whnf
      have h2 : a.tmod b < 0 := h2
      rw [if_pos h2] at e
      exact ⟨rfl, h _ (by unfold modI; rw [if_neg h1, e]; exact (show IntKind.i64.wrap (a.tmod b + b) = _ from Z.wrap_iid (by omega) (by omega)))⟩
    · conv => whnf
      have h2 : ¬ a.tmod b < 0 := h2
      rw [if_neg h2] at e
      exact ⟨rfl, h _ (by unfold modI; rw [if_neg h1, e])⟩

theorem and_m1 {b : Int} (hb : -9223372036854775808 ≤ b) (hb' : b < 9223372036854775808) : Z.and .i64 b (-1) = b := by
  unfold Z.and
  have h2 : (BitVec.ofInt IntKind.i64.bits b &&& BitVec.ofInt IntKind.i64.bits (-1)).toNat = (b % 18446744073709551616).toNat := by
    show (BitVec.ofInt 64 b &&& BitVec.ofInt 64 (-1)).toNat = _
    have h1 : BitVec.ofInt 64 (-1) = BitVec.allOnes 64 := by decide
    rw [h1, BitVec.and_allOnes, BitVec.toNat_ofInt]; rfl
  rw [h2, IntKind.wrap_i64]
  omega
theorem and_0 (b : Int) : Z.and .i64 b 0 = 0 := by
  unfold Z.and
  have h2 : (BitVec.ofInt IntKind.i64.bits b &&& BitVec.ofInt IntKind.i64.bits 0).toNat = 0 := by
    show (BitVec.ofInt 64 b &&& BitVec.ofInt 64 0).toNat = 0
    simp
  rw [h2]; rfl
theorem shr63 {r : Int} (h : -9223372036854775808 ≤ r) (h' : r < 9223372036854775808) : Z.shr .i64 r 63 = if r < 0 then -1 else 0 := by
  rw [Z.shr_eq 63 rfl, show (2 : Int) ^ 63 = 9223372036854775808 from rfl]
  split <;> omega

theorem numMod {a b : Int} (ha : -9223372036854775808 ≤ a) (ha' : a < 9223372036854775808) (hb' : b < 9223372036854775808) {s : List Ob} {Q : AV → List Ob → Prop} (h : ∀ v, v = modI a b → Q (.int .i64 v) s) : AC Try.prog 88 [.int .i64 a, .int .i64 b] s Q := by
  refine AC_pure rfl ?_
  refine AC_body tok 0 Try.func88 rfl (by kernel_rfl) ?_
  conv => whnf
  refine ifP (fun h1 => ?_) (fun h1 => ?_)
  · conv => whnf
    exact ⟨rfl, h _ (by unfold modI; rw [if_pos h1])⟩
  · conv => whnf
    refine andI (by simp; omega) ?_
    conv => whnf
    have e := tmod_mod (a := a) (b := b) (by omega)
    have h1' := Int.emod_nonneg a (show b ≠ 0 by omega)
    have h2' := Int.emod_lt_of_pos a (show 0 < b by omega)
    refine ⟨rfl, h _ ?_⟩
    show IntKind.i64.wrap (a.tmod b + Z.and .i64 b (Z.shr .i64 (a.tmod b) 63)) = _
    unfold modI
    rw [if_neg h1, e, shr63 (by split at e <;> omega) (by split at e <;> omega)]
    split
    · rw [and_m1 (by omega) (by omega)]; split at e <;> exact Z.wrap_iid (by omega) (by omega)
    · rw [and_0, Int.add_zero]; split at e <;> exact Z.wrap_iid (by omega) (by omega)
theorem refPlus {a b : Int} (ha : -9223372036854775808 ≤ a) (ha' : a < 9223372036854775808) (hb : -9223372036854775808 ≤ b) (hb' : b < 9223372036854775808) {s : List Ob} {Q : AV → List Ob → Prop} (h : ∀ v, v = plusI a b → Q (.int .i64 v) s) : AC Try.prog 70 [.int .i64 a, .int .i64 b] s Q := by
  refine AC_pure rfl ?_
  refine AC_body tok 0 Try.func70 rfl (by kernel_rfl) ?_
  conv => whnf
  by_cases h1 : a ≥ 0
  · have e1 : Z.sub .i64 9223372036854775807 a = 9223372036854775807 - a := Z.wrap_iid (by omega) (by omega)
    rw [decide_eq_true h1]
    conv => whnf
    refine ifP (fun h2 => ?_) (fun h2 => ?_)
    · have h2 : b > Z.sub .i64 9223372036854775807 a := h2
      conv => whnf
      refine ⟨rfl, h _ ?_⟩
      unfold plusI; rw [if_pos (by omega)]
    · have h2 : ¬ b > Z.sub .i64 9223372036854775807 a := h2
      conv => whnf
      rw [decide_eq_false (show ¬ a < 0 by omega)]
      conv => whnf
      refine ⟨rfl, h _ ?_⟩
      unfold plusI; rw [if_neg (by omega), if_neg (by omega)]
      exact Z.wrap_iid (by omega) (by omega)
  · rw [decide_eq_false h1]
    conv => whnf
    rw [decide_eq_true (show a < 0 by omega)]
    conv => whnf
    have e1 : Z.sub .i64 (-9223372036854775808) a = -9223372036854775808 - a := Z.wrap_iid (by omega) (by omega)
    refine ifP (fun h2 => ?_) (fun h2 => ?_)
    · have h2 : b < Z.sub .i64 (-9223372036854775808) a := h2
      conv => whnf
      refine ⟨rfl, h _ ?_⟩
      unfold plusI; rw [if_neg (by omega), if_pos (by omega)]
    · have h2 : ¬ b < Z.sub .i64 (-9223372036854775808) a := h2
      conv => whnf
      refine ⟨rfl, h _ ?_⟩
      unfold plusI; rw [if_neg (by omega), if_neg (by omega)]
      exact Z.wrap_iid (by omega) (by omega)

theorem sign_bits (x : BitVec 64) : (IntKind.i64.wrap (x.toNat : Int) < 0) ↔ x.msb = true := by
  rw [IntKind.wrap_i64, BitVec.msb_eq_decide]
  simp only [decide_eq_true_eq]
  have := x.isLt
  omega
theorem ofInt_msb {a : Int} (ha : -9223372036854775808 ≤ a) (ha' : a < 9223372036854775808) : (BitVec.ofInt 64 a).msb = decide (a < 0) := by
  rw [BitVec.msb_eq_decide, BitVec.toNat_ofInt]
  simp only [decide_eq_decide]
  omega
theorem and_neg {a b : Int} (ha : -9223372036854775808 ≤ a) (ha' : a < 9223372036854775808) (hb : -9223372036854775808 ≤ b) (hb' : b < 9223372036854775808) : Z.and .i64 a b < 0 ↔ a < 0 ∧ b < 0 := by
  have := sign_bits (BitVec.ofInt 64 a &&& BitVec.ofInt 64 b)
  rw [BitVec.msb_and, ofInt_msb ha ha', ofInt_msb hb hb'] at this
  exact this.trans (by simp)
theorem xor_neg {a b : Int} (ha : -9223372036854775808 ≤ a) (ha' : a < 9223372036854775808) (hb : -9223372036854775808 ≤ b) (hb' : b < 9223372036854775808) : Z.xor .i64 a b < 0 ↔ ¬ (a < 0 ↔ b < 0) := by
  have := sign_bits (BitVec.ofInt 64 a ^^^ BitVec.ofInt 64 b)
  rw [BitVec.msb_xor, ofInt_msb ha ha', ofInt_msb hb hb'] at this
  exact this.trans (by by_cases h1 : a < 0 <;> by_cases h2 : b < 0 <;> simp [h1, h2])

theorem i_lo (n : Int) : -9223372036854775808 ≤ IntKind.i64.wrap n := by rw [IntKind.wrap_i64]; omega
theorem i_hi (n : Int) : IntKind.i64.wrap n < 9223372036854775808 := by rw [IntKind.wrap_i64]; omega
theorem numPlus {a b : Int} (ha : -9223372036854775808 ≤ a) (ha' : a < 9223372036854775808) (hb : -9223372036854775808 ≤ b) (hb' : b < 9223372036854775808) {s : List Ob} {Q : AV → List Ob → Prop} (h : ∀ v, v = plusI a b → Q (.int .i64 v) s) : AC Try.prog 69 [.int .i64 a, .int .i64 b] s Q := by
  refine AC_pure rfl ?_
  refine AC_body tok 0 Try.func69 rfl (by kernel_rfl) ?_
  conv => whnf
  have hs : Z.add .i64 a b = (a + b + 9223372036854775808) % 18446744073709551616 - 9223372036854775808 := IntKind.wrap_i64 _
  have l : -9223372036854775808 ≤ Z.add .i64 a b := i_lo (a + b)
  have g : Z.add .i64 a b < 9223372036854775808 := i_hi (a + b)
  have key := and_neg (a := Z.xor .i64 a (Z.add .i64 a b)) (b := Z.xor .i64 b (Z.add .i64 a b)) (i_lo _) (i_hi _) (i_lo _) (i_hi _)
  rw [xor_neg ha ha' l g, xor_neg hb hb' l g] at key
  refine ifP (fun h1 => ?_) (fun h1 => ?_)
  · conv => whnf
    refine ⟨rfl, h _ ?_⟩
    have h1 : ¬ Z.and .i64 (Z.xor .i64 a (Z.add .i64 a b)) (Z.xor .i64 b (Z.add .i64 a b)) < 0 := by have : Z.and .i64 (Z.xor .i64 a (Z.add .i64 a b)) (Z.xor .i64 b (Z.add .i64 a b)) ≥ 0 := h1; omega
    rw [key] at h1
    unfold plusI
    show Z.add .i64 a b = _
    generalize Z.add .i64 a b = z at *
    split
    · omega
    · split <;> omega
  · conv => whnf
    have h1 : Z.and .i64 (Z.xor .i64 a (Z.add .i64 a b)) (Z.xor .i64 b (Z.add .i64 a b)) < 0 := by have : ¬ Z.and .i64 (Z.xor .i64 a (Z.add .i64 a b)) (Z.xor .i64 b (Z.add .i64 a b)) ≥ 0 := h1; omega
    rw [key] at h1
    refine ifP (fun h2 => ?_) (fun h2 => ?_)
    · conv => whnf
      refine ⟨rfl, h _ ?_⟩
      unfold plusI
      generalize Z.add .i64 a b = z at *
      split
      · omega
      · split <;> omega
    · conv => whnf
      refine ⟨rfl, h _ ?_⟩
      unfold plusI
      generalize Z.add .i64 a b = z at *
      split
      · omega
      · split <;> omega

theorem numSize {n : Int} (hn : -9223372036854775808 ≤ n) (hn' : n < 9223372036854775808) {s : List Ob} {Q : AV → List Ob → Prop} (h : ∀ v, v = sizeI n → Q (.int .u64 v) s) : AC Try.prog 98 [.int .i64 n] s Q := by
  refine AC_pure rfl ?_
  refine AC_body tok 0 Try.func98 rfl (by kernel_rfl) ?_
  conv => whnf
  refine ifP (fun h1 => ?_) (fun h1 => ?_)
  · conv => whnf
    refine ⟨rfl, h _ ?_⟩
    unfold sizeI; rw [if_pos h1]
    show IntKind.u64.wrap (0 - IntKind.u64.wrap n) = -n
    simp only [Z.wrap_u]; omega
  · conv => whnf
    refine ⟨rfl, h _ ?_⟩
    unfold sizeI; rw [if_neg h1]
    exact Z.wrap_uid (by omega) (by omega)
theorem refSize {n : Int} (hn : -9223372036854775808 ≤ n) (hn' : n < 9223372036854775808) {s : List Ob} {Q : AV → List Ob → Prop} (h : ∀ v, v = sizeI n → Q (.int .u64 v) s) : AC Try.prog 85 [.int .i64 n] s Q := by
  refine AC_pure rfl ?_
  refine AC_body tok 0 Try.func85 rfl (by kernel_rfl) ?_
  conv => whnf
  refine ifP (fun h1 => ?_) (fun h1 => ?_)
  · conv => whnf
    refine ⟨rfl, h _ ?_⟩
    unfold sizeI; rw [if_pos h1]
    show IntKind.u64.wrap (IntKind.u64.wrap (IntKind.i64.wrap (0 - IntKind.i64.wrap (n + 1))) + 1) = -n
    simp only [Z.wrap_u, IntKind.wrap_i64]; omega
  · conv => whnf
    refine ⟨rfl, h _ ?_⟩
    unfold sizeI; rw [if_neg h1]
    exact Z.wrap_uid (by omega) (by omega)

theorem mul64 {a b : Int} (ha : 0 ≤ a) (ha' : a < 18446744073709551616) (hb : 0 ≤ b) (hb' : b < 18446744073709551616) {s : List Ob} {Q : AV → List Ob → Prop}
    (h : ∀ v u, v = a * b / 18446744073709551616 → u = a * b % 18446744073709551616 → Q (.tup [.int .u64 v, .int .u64 u]) s) : AC Try.prog 94 [.int .u64 a, .int .u64 b] s Q := by
  refine AC_pure rfl ?_
  refine AC_body tok 0 Try.func94 rfl (by kernel_rfl) ?_
  conv => whnf
  refine ⟨rfl, Qeq ?_ (h _ _ rfl rfl)⟩
  rw [Z.mask_u (a := a) (m := 4294967295) 32 rfl (by omega) ha ha', Z.mask_u (a := b) (m := 4294967295) 32 rfl (by omega) hb hb', Z.shr_eq (a := a) (k := 32) 32 rfl, Z.shr_eq (a := b) (k := 32) 32 rfl]
  simp only [Z.add, Z.mul, Z.mask_w _ 4294967295 32 rfl (by omega), Z.shr_eq (k := 32) 32 (show min (Int.toNat 32) IntKind.u64.bits = 32 from rfl)]
  simp only [Z.wrap_u]
  obtain ⟨h1, h2⟩ := Z.hi_eq ha ha' hb hb'
  simp only [AV.tup.injEq, List.cons.injEq, AV.int.injEq, true_and, and_true]
  rw [h1]
  have p1 := Z.half_mul (a := a / 4294967296) (b := b / 4294967296) (by omega) (by omega) (by omega) (by omega)
  have p2 := Z.half_mul (a := a / 4294967296) (b := b % 4294967296) (by omega) (by omega) (by omega) (by omega)
  have p3 := Z.half_mul (a := a % 4294967296) (b := b / 4294967296) (by omega) (by omega) (by omega) (by omega)
  have p4 := Z.half_mul (a := a % 4294967296) (b := b % 4294967296) (by omega) (by omega) (by omega) (by omega)
  simp only [show (2 : Int) ^ 32 = 4294967296 from rfl]
  generalize (a / 4294967296) * (b / 4294967296) = s at *
  generalize (a / 4294967296) * (b % 4294967296) = q at *
  generalize (a % 4294967296) * (b / 4294967296) = r at *
  generalize (a % 4294967296) * (b % 4294967296) = p at *
  omega
theorem or_add {X Y n : Nat} (hY : Y < 2 ^ n) : (X * 2 ^ n ||| Y) = X * 2 ^ n + Y := by
  rw [Nat.mul_comm]; exact (Nat.two_pow_add_eq_or_of_lt hY X).symm
theorem mulR {a b : Int} (ha : 0 ≤ a) (ha' : a < 18446744073709551616) (hb : 0 ≤ b) (hb' : b < 18446744073709551616) {s : List Ob} {Q : AV → List Ob → Prop}
    (h : ∀ v u, v = a * b / 18446744073709551616 → u = a * b % 18446744073709551616 → Q (.tup [.int .u64 v, .int .u64 u]) s) : AC Try.prog 86 [.int .u64 a, .int .u64 b] s Q := by
  refine AC_pure rfl ?_
  refine AC_body tok 0 Try.func86 rfl (by kernel_rfl) ?_
  conv => whnf
  refine ⟨rfl, Qeq ?_ (h _ _ rfl rfl)⟩
  rw [Z.mask_u (a := a) (m := 4294967295) 32 rfl (by omega) ha ha', Z.mask_u (a := b) (m := 4294967295) 32 rfl (by omega) hb hb', Z.shr_eq (a := a) (k := 32) 32 rfl, Z.shr_eq (a := b) (k := 32) 32 rfl]
  simp only [Z.add, Z.mul, Z.mask_w _ 4294967295 32 rfl (by omega), Z.shr_eq (k := 32) 32 (show min (Int.toNat 32) IntKind.u64.bits = 32 from rfl)]
  obtain ⟨h1, h2⟩ := Z.hi_eq ha ha' hb hb'
  simp only [AV.tup.injEq, List.cons.injEq, AV.int.injEq, true_and, and_true]
  rw [h1]
  have p1 := Z.half_mul (a := a / 4294967296) (b := b / 4294967296) (by omega) (by omega) (by omega) (by omega)
  have p2 := Z.half_mul (a := a / 4294967296) (b := b % 4294967296) (by omega) (by omega) (by omega) (by omega)
  have p3 := Z.half_mul (a := a % 4294967296) (b := b / 4294967296) (by omega) (by omega) (by omega) (by omega)
  have p4 := Z.half_mul (a := a % 4294967296) (b := b % 4294967296) (by omega) (by omega) (by omega) (by omega)
  simp only [show (2 : Int) ^ 32 = 4294967296 from rfl]
  rw [h2]
  generalize (a / 4294967296) * (b / 4294967296) = s at *
  generalize (a / 4294967296) * (b % 4294967296) = q at *
  generalize (a % 4294967296) * (b / 4294967296) = r at *
  generalize (a % 4294967296) * (b % 4294967296) = p at *
  refine ⟨by simp only [Z.wrap_u]; omega, ?_⟩
  have e : ∀ X Y : Int, 0 ≤ Y → Y < 4294967296 → 0 ≤ X → Z.or .u64 (Z.shl .u64 X 32) Y = X * 4294967296 % 18446744073709551616 + Y := by
    intro X Y h1 h2 h3
    have h4 : Z.shl .u64 X 32 = X * 4294967296 % 18446744073709551616 := Z.wrap_u _
    rw [h4, Z.or_u (by omega) (by omega) (by omega) (by omega)]
    have h5 : (X * 4294967296 % 18446744073709551616).toNat = (X % 4294967296).toNat * 2 ^ 32 := by omega
    have h6 : Y.toNat < 2 ^ 32 := by omega
    rw [h5, or_add h6]
    omega
  rw [e]
  · simp only [Z.wrap_u]; omega
  · simp only [Z.wrap_u]; omega
  · simp only [Z.wrap_u]; omega
  · simp only [Z.wrap_u]; omega

theorem size_mul (a b : Int) : (¬ (a < 0 ↔ b < 0) → a * b = -(sizeI a * sizeI b)) ∧ ((a < 0 ↔ b < 0) → a * b = sizeI a * sizeI b) ∧ 0 ≤ sizeI a * sizeI b := by
  unfold sizeI
  refine ⟨fun h => ?_, fun h => ?_, Int.mul_nonneg (by split <;> omega) (by split <;> omega)⟩
  · by_cases h1 : a < 0
    · have h2 : ¬ b < 0 := by omega
      rw [if_pos h1, if_neg h2, Int.neg_mul, Int.neg_neg]
    · have h2 : b < 0 := by omega
      rw [if_neg h1, if_pos h2, Int.mul_neg, Int.neg_neg]
  · by_cases h1 : a < 0
    · have h2 : b < 0 := by omega
      rw [if_pos h1, if_pos h2, Int.neg_mul_neg]
    · have h2 : ¬ b < 0 := by omega
      rw [if_neg h1, if_neg h2]

theorem numTimes {a b : Int} (ha : -9223372036854775808 ≤ a) (ha' : a < 9223372036854775808) (hb : -9223372036854775808 ≤ b) (hb' : b < 9223372036854775808) {s : List Ob} {Q : AV → List Ob → Prop} (h : ∀ v, v = timesI a b → Q (.int .i64 v) s) : AC Try.prog 92 [.int .i64 a, .int .i64 b] s Q := by
  refine AC_pure rfl ?_
  refine AC_body tok 0 Try.func92 rfl (by kernel_rfl) ?_
  conv => whnf
  refine numSize ha ha' (fun x hx => ?_)
  conv => whnf
  refine numSize hb hb' (fun y hy => ?_)
  conv => whnf
  refine mul64 (by rw [hx]; unfold sizeI; split <;> omega) (by rw [hx]; unfold sizeI; split <;> omega) (by rw [hy]; unfold sizeI; split <;> omega) (by rw [hy]; unfold sizeI; split <;> omega) (fun hi lo hhi hlo => ?_)
  conv => whnf
  obtain ⟨m1, m2, m3⟩ := size_mul a b
  rw [← hx, ← hy] at m1 m2 m3
  have xn := xor_neg ha ha' hb hb'
  have p1 : x * y = hi * 18446744073709551616 + lo := by rw [hhi, hlo]; omega
  have p2 : 0 ≤ hi := by rw [hhi]; omega
  have p3 : 0 ≤ lo ∧ lo < 18446744073709551616 := by rw [hlo]; omega
  generalize hp : x * y = p at *
  by_cases h1 : hi = 0
  · rw [show (hi == 0) = true by simp [h1]]
    conv => whnf
    by_cases h2 : lo ≤ 9223372036854775807
    · rw [decide_eq_true h2]
      conv => whnf
      by_cases h3 : Z.xor .i64 a b < 0
      · rw [decide_eq_true h3]
        conv => whnf
        refine ⟨rfl, h _ ?_⟩
        rw [xn] at h3
        have := m1 h3
        unfold timesI
        rw [this, if_neg (by omega), if_neg (by omega)]
        show IntKind.i64.wrap (0 - IntKind.i64.wrap lo) = _
        simp only [IntKind.wrap_i64]; omega
      · rw [decide_eq_false h3]
        conv => whnf
        rw [show (hi == 0) = true by simp [h1]]
        conv => whnf
        rw [decide_eq_true h2]
        conv => whnf
        refine ⟨rfl, h _ ?_⟩
        rw [xn] at h3
        have := m2 (by omega)
        unfold timesI
        rw [this, if_neg (by omega), if_neg (by omega)]
        show IntKind.i64.wrap lo = _
        simp only [IntKind.wrap_i64]; omega
    · rw [decide_eq_false h2]
      conv => whnf
      rw [show (hi == 0) = true by simp [h1]]
      conv => whnf
      rw [decide_eq_false h2]
      conv => whnf
      by_cases h3 : Z.xor .i64 a b < 0
      · rw [decide_eq_true h3]
        conv => whnf
        refine ⟨rfl, h _ ?_⟩
        rw [xn] at h3
        have := m1 h3
        unfold timesI
        rw [this, if_neg (by omega)]
        split <;> omega
      · rw [decide_eq_false h3]
        conv => whnf
        refine ⟨rfl, h _ ?_⟩
        rw [xn] at h3
        have := m2 (by omega)
        unfold timesI
        rw [this, if_pos (by omega)]
  · rw [show (hi == 0) = false by simp [h1]]
    conv => whnf
    rw [show (hi == 0) = false by simp [h1]]
    conv => whnf
    by_cases h3 : Z.xor .i64 a b < 0
    · rw [decide_eq_true h3]
      conv => whnf
      refine ⟨rfl, h _ ?_⟩
      rw [xn] at h3
      have := m1 h3
      unfold timesI
      rw [this, if_neg (by omega)]
      split <;> omega
    · rw [decide_eq_false h3]
      conv => whnf
      refine ⟨rfl, h _ ?_⟩
      rw [xn] at h3
      have := m2 (by omega)
      unfold timesI
      rw [this, if_pos (by omega)]

theorem len64 {x : Int} (hx : 0 ≤ x) (hx' : x < 18446744073709551616) {s : List Ob} {Q : AV → List Ob → Prop} (h : ∀ n : Nat, x < 2 ^ n → (n = 0 ∨ 2 ^ (n - 1) ≤ x) → n ≤ 64 → Q (.int .i64 (n : Int)) s) : AC Try.prog 100 [.int .u64 x] s Q := by
  refine AC_pure rfl ?_
  refine AC_body tok 0 Try.func100 rfl (by kernel_rfl) ?_
  have q32 : ∀ a, Z.shr .u64 a 32 = a / 4294967296 := fun a => Z.shr_eq 32 rfl
  have q16 : ∀ a, Z.shr .u64 a 16 = a / 65536 := fun a => Z.shr_eq 16 rfl
  have q8 : ∀ a, Z.shr .u64 a 8 = a / 256 := fun a => Z.shr_eq 8 rfl
  conv => whnf
  refine ifP (fun h1 => ?_) (fun h1 => ?_) <;> conv => whnf
  all_goals refine ifP (fun h2 => ?_) (fun h2 => ?_) <;> conv => whnf
  all_goals refine ifP (fun h3 => ?_) (fun h3 => ?_) <;> conv => whnf
  all_goals
    generalize hTab : ByteArray.mk _ = tab
    obtain rfl : tab = lenTab := by rw [← hTab]; decide +kernel
    simp only [q32, q16, q8] at *
    refine andI (by simp only [PN.wrap_u8, PN.lenTab_size, Bool.and_eq_true, decide_eq_true_eq]; omega) ?_
    conv => whnf
    refine ⟨rfl, ?_⟩
    first
      | exact PN.len_fin (Q := fun v => Q v s) 56 (by omega) (by omega) (by omega) (by omega) (by omega) (by decide) (by omega) h
      | exact PN.len_fin (Q := fun v => Q v s) 48 (by omega) (by omega) (by omega) (by omega) (by omega) (by decide) (by omega) h
      | exact PN.len_fin (Q := fun v => Q v s) 40 (by omega) (by omega) (by omega) (by omega) (by omega) (by decide) (by omega) h
      | exact PN.len_fin (Q := fun v => Q v s) 32 (by omega) (by omega) (by omega) (by omega) (by omega) (by decide) (by omega) h
      | exact PN.len_fin (Q := fun v => Q v s) 24 (by omega) (by omega) (by omega) (by omega) (by omega) (by decide) (by omega) h
      | exact PN.len_fin (Q := fun v => Q v s) 16 (by omega) (by omega) (by omega) (by omega) (by omega) (by decide) (by omega) h
      | exact PN.len_fin (Q := fun v => Q v s) 8 (by omega) (by omega) (by omega) (by omega) (by omega) (by decide) (by omega) h
      | exact PN.len_fin (Q := fun v => Q v s) 0 (by omega) (by omega) (by omega) (by omega) (by omega) (by decide) (by omega) h
theorem div64 {hi lo y : Int} (h0 : 0 ≤ hi) (h1 : hi < y) (hy : y < 18446744073709551616) (l0 : 0 ≤ lo) (l1 : lo < 18446744073709551616) {s : List Ob} {Q : AV → List Ob → Prop}
    (h : ∀ q r, q = (hi * 18446744073709551616 + lo) / y → r = (hi * 18446744073709551616 + lo) % y → Q (.tup [.int .u64 q, .int .u64 r]) s) : AC Try.prog 97 [.int .u64 hi, .int .u64 lo, .int .u64 y] s Q := by
  refine AC_pure rfl ?_
  refine AC_body tok 0 Try.func97 rfl (by kernel_rfl) ?_
  conv => whnf
  refine ifF (by simp; omega) ?_
  conv => whnf
  refine ifF (by simp; omega) ?_
  conv => whnf
  by_cases h2 : hi = 0
  · refine ifT (by simp [h2]) ?_
    conv => whnf
    subst h2
    refine AW_draw tok hP ?_
    conv => whnf
    refine andI (by simp; omega) ?_
    conv => whnf
    refine andI (by simp; omega) ?_
    conv => whnf
    refine ⟨⟨by kernel_rfl⟩, ?_⟩
    conv => whnf
    have a0 : 0 ≤ lo / y := Int.ediv_nonneg l0 (by omega)
    have a1 : lo / y ≤ lo := Int.ediv_le_self _ l0
    refine ⟨rfl, Qeq ?_ (h _ _ rfl rfl)⟩
    simp only [Z.quo, Z.rem, Int.tdiv_eq_ediv_of_nonneg l0, Int.tmod_eq_emod_of_nonneg l0, Z.wrap_u, Int.zero_mul, Int.zero_add, AV.tup.injEq, List.cons.injEq, AV.int.injEq, true_and, and_true]
    omega
  · refine ifF (by simp [h2]) ?_
    conv => whnf
    refine AC_body tok 0 Try.func99 rfl (by kernel_rfl) ?_
    conv => whnf
    refine len64 (by omega) hy (fun n hn1 hn2 hn3 => ?_)
    conv => whnf
    generalize hs : IntKind.u64.wrap (Z.sub .i64 64 (n : Int)) = sh
    generalize hY : Z.shl .u64 y sh = Y
    generalize hL : Z.shl .u64 lo sh = L
    obtain ⟨p, hp, eY, Y0, Y1, eV, L0, L1, U0, U1, s0, s1, shp⟩ := PN.div_prep h0 h1 hy l0 l1 hn1 hn2 hn3 hs hY rfl hL
    refine andP s0 ?_
    conv => whnf
    refine andP s0 ?_
    conv => whnf
    refine andP s1 ?_
    conv => whnf
    refine andP s0 ?_
    conv => whnf
    generalize hU : Z.or .u64 (Z.shl .u64 hi sh) _ = U at eV U0 U1 ⊢
    rw [hL]
    generalize hy1 : Z.shr .u64 Y 32 = y1
    generalize hu1 : Z.shr .u64 L 32 = u1
    generalize hu0 : Z.and .u64 L 4294967295 = u0
    generalize hy0 : Z.and .u64 Y 4294967295 = y0
    rw [Z.shr_eq 32 rfl] at hy1 hu1
    rw [Z.mask_u (m := 4294967295) 32 rfl (by omega) L0 L1] at hu0
    rw [Z.mask_u (m := 4294967295) 32 rfl (by omega) (by omega) Y1] at hy0
    simp only [show (2 : Int) ^ 32 = 4294967296 from rfl] at hy1 hu1 hu0 hy0
    clear hY hL hU hs hn1 hn2 hn3
    have hYe : y1 * 4294967296 + y0 = Y := by omega
    have hD := PN.dig_two (u := U) (d1 := u1) (d0 := u0) (B := 4294967296) (show 0 < Y by omega) rfl rfl
    generalize hQ1 : (U * 4294967296 + u1) / Y = Q1 at hD
    have Q1l : Q1 < 4294967296 := by rw [← hQ1]; exact PN.dig_lt (by omega) (by omega) U1 (by omega)
    have Q10 : 0 ≤ Q1 := by rw [← hQ1]; exact Int.ediv_nonneg (by omega) (by omega)
    refine andI (by simp; omega) ?_
    conv => whnf
    have st1 := PN.dig_start (u := U) (d := u1) (y1 := y1) (y0 := y0) (B := 4294967296) (by omega) (by omega) (by omega) (by omega) U0 (by omega) (by omega)
    rw [hYe, hQ1] at st1
    have eq1 : Z.quo .u64 U y1 = U / y1 := by
      unfold Z.quo; rw [Int.tdiv_eq_ediv_of_nonneg U0]
      exact Z.wrap_uid (Int.ediv_nonneg U0 (by omega)) (by omega)
    rw [eq1]
    have er1 : Z.sub .u64 U (Z.mul .u64 (U / y1) y1) = U - U / y1 * y1 := by
      unfold Z.sub Z.mul; simp only [Z.wrap_u]
      generalize U / y1 * y1 = z at *; omega
    rw [er1]
    refine ALs.invX (ι := Int × Int) (κ := Int) tok 0 (keepN 17) (fun (q, r) => Q1 ≤ q ∧ q ≤ 4294967297 ∧ q * y1 + r = U ∧ 0 ≤ r ∧ r < 4294967296) (fun (q, _) => q.toNat)
      (fun (q, r) => [.int .u64 hi, .int .u64 lo, .int .u64 Y, .junk, .junk, .junk, .int .u64 0, .int .u64 0, .int .u64 sh, .int .u64 y1, .int .u64 y0, .int .u64 U, .int .u64 L, .int .u64 u1, .int .u64 u0, .int .u64 q, .int .u64 r] ++ junks 118) (fun _ => []) (fun _ => ()) (U / y1, U - U / y1 * y1) (fun _ => True) (keepN 17) (fun _ => 0) (fun r => [.int .u64 hi, .int .u64 lo, .int .u64 Y, .junk, .junk, .junk, .int .u64 0, .int .u64 0, .int .u64 sh, .int .u64 y1, .int .u64 y0, .int .u64 U, .int .u64 L, .int .u64 u1, .int .u64 u0, .int .u64 Q1, .int .u64 r] ++ junks 118) (fun _ => []) (fun _ => ())
      ⟨st1.1, st1.2.1, st1.2.2.1, st1.2.2.2.1, by show U - U / y1 * y1 < _; omega⟩ rfl ⟨[], rfl⟩ rfl (fun _ => Nat.le_refl _) (fun _ => rfl) ?_ ?_
    · rintro ⟨q, r⟩ ⟨i1, i2, i3, i4, i5⟩
      have m1 : 0 ≤ q * y0 := Int.mul_nonneg (by omega) (by omega)
      have m2 : q * y0 ≤ 4294967297 * 4294967295 := Int.mul_le_mul i2 (by omega) (by omega) (by omega)
      have em1 : Z.mul .u64 q y0 = q * y0 := Z.wrap_uid m1 (by omega)
      have em2 : Z.add .u64 (Z.mul .u64 4294967296 r) u1 = 4294967296 * r + u1 := by unfold Z.add Z.mul; simp only [Z.wrap_u]; omega
      have er2 : Z.add .u64 r y1 = r + y1 := Z.wrap_uid (by omega) (by omega)
      have dec : ∀ (hc : 4294967296 ≤ q ∨ 4294967296 * r + u1 < q * y0), Q1 ≤ q - 1 ∧ Z.sub .u64 q 1 = q - 1 ∧ (q - 1) * y1 + (r + y1) = U ∧ (4294967296 ≤ r + y1 → q - 1 = Q1) := by
        intro hc
        have a1 := PN.dig_dec (u := U) (d := u1) (q := q) (r := r) (y1 := y1) (y0 := y0) (B := 4294967296) (by omega) (by omega) (by omega) (by omega) i3 (by rw [hYe, hQ1]; exact i1) hc
        rw [hYe, hQ1] at a1
        have a2 : (q - 1) * y1 + (r + y1) = U := by rw [Int.sub_mul, Int.one_mul]; omega
        refine ⟨a1, Z.wrap_uid (by omega) (by omega), a2, fun hb => ?_⟩
        have a3 := PN.dig_end (u := U) (d := u1) (q := q - 1) (r := r + y1) (y1 := y1) (y0 := y0) (B := 4294967296) (by omega) a2 (by rw [hYe, hQ1]; exact a1) (by
          have : (q - 1) * y0 ≤ 4294967296 * 4294967295 := Int.mul_le_mul (by omega) (by omega) (by omega) (by omega)
          omega)
        rw [hYe, hQ1] at a3; exact a3
      conv => whnf
      by_cases c1 : q ≥ 4294967296
      · obtain ⟨d1, d2, d3, d4⟩ := dec (.inl c1)
        rw [decide_eq_true c1]
        conv => whnf
        refine ifP (fun c2 => ?_) (fun c2 => ?_)
        · rw [er2] at c2
          conv => whnf
          rw [d2, d4 c2]
          exact ⟨_, [], rfl, rfl, rfl, rfl, trivial⟩
        · conv => whnf
          rw [er2] at c2
          refine ⟨(Z.sub .u64 q 1, Z.add .u64 r y1), [], rfl, rfl, rfl, ?_, ?_⟩
          · show (Z.sub .u64 q 1).toNat < q.toNat; rw [d2]; omega
          · show Q1 ≤ Z.sub .u64 q 1 ∧ Z.sub .u64 q 1 ≤ 4294967297 ∧ Z.sub .u64 q 1 * y1 + Z.add .u64 r y1 = U ∧ 0 ≤ Z.add .u64 r y1 ∧ Z.add .u64 r y1 < 4294967296
            rw [d2, er2]; exact ⟨d1, by omega, d3, by omega, by omega⟩
      · rw [decide_eq_false c1]
        conv => whnf
        refine ifP (fun c2 => ?_) (fun c2 => ?_)
        · rw [em1, em2] at c2
          obtain ⟨d1, d2, d3, d4⟩ := dec (.inr c2)
          conv => whnf
          refine ifP (fun c3 => ?_) (fun c3 => ?_)
          · rw [er2] at c3
            conv => whnf
            rw [d2, d4 c3]
            exact ⟨_, [], rfl, rfl, rfl, rfl, trivial⟩
          · conv => whnf
            rw [er2] at c3
            refine ⟨(Z.sub .u64 q 1, Z.add .u64 r y1), [], rfl, rfl, rfl, ?_, ?_⟩
            · show (Z.sub .u64 q 1).toNat < q.toNat; rw [d2]; omega
            · show Q1 ≤ Z.sub .u64 q 1 ∧ Z.sub .u64 q 1 ≤ 4294967297 ∧ Z.sub .u64 q 1 * y1 + Z.add .u64 r y1 = U ∧ 0 ≤ Z.add .u64 r y1 ∧ Z.add .u64 r y1 < 4294967296
              rw [d2, er2]; exact ⟨d1, by omega, d3, by omega, by omega⟩
        · rw [em1, em2] at c2
          have a3 := PN.dig_end (u := U) (d := u1) (q := q) (r := r) (y1 := y1) (y0 := y0) (B := 4294967296) (by omega) i3 (by rw [hYe, hQ1]; exact i1) (by omega)
          rw [hYe, hQ1] at a3
          conv => whnf
          rw [a3]
          exact ⟨_, [], rfl, rfl, rfl, rfl, trivial⟩
    intro r t q _ ht
    conv => whnf
    refine AWs.rest tok 0 (keepN 17) q ht (Nat.le_refl _) rfl ?_
    conv => whnf
    refine andI (by simp; omega) ?_
    conv => whnf
    generalize hR1 : Z.sub .u64 (Z.add .u64 (Z.mul .u64 U 4294967296) u1) (Z.mul .u64 Q1 Y) = R1
    obtain ⟨eR, R0, Rl⟩ := PN.dig_rem (by omega) Y1 rfl hQ1.symm hR1
    rw [← eR] at hD
    generalize hQ0 : (R1 * 4294967296 + u0) / Y = Q0 at hD
    have Q0l : Q0 < 4294967296 := by rw [← hQ0]; exact PN.dig_lt (by omega) (by omega) Rl (by omega)
    have Q00 : 0 ≤ Q0 := by rw [← hQ0]; exact Int.ediv_nonneg (by omega) (by omega)
    have st0 := PN.dig_start (u := R1) (d := u0) (y1 := y1) (y0 := y0) (B := 4294967296) (by omega) (by omega) (by omega) (by omega) R0 (by omega) (by omega)
    rw [hYe, hQ0] at st0
    have eq0 : Z.quo .u64 R1 y1 = R1 / y1 := by
      unfold Z.quo; rw [Int.tdiv_eq_ediv_of_nonneg R0]
      exact Z.wrap_uid (Int.ediv_nonneg R0 (by omega)) (by omega)
    rw [eq0]
    have er0 : Z.sub .u64 R1 (Z.mul .u64 (R1 / y1) y1) = R1 - R1 / y1 * y1 := by
      unfold Z.sub Z.mul; simp only [Z.wrap_u]
      generalize R1 / y1 * y1 = z at *; omega
    rw [er0]
    refine ALs.invX (ι := Int × Int) (κ := Int) tok 0 (keepN 19) (fun (q, r) => Q0 ≤ q ∧ q ≤ 4294967297 ∧ q * y1 + r = R1 ∧ 0 ≤ r ∧ r < 4294967296) (fun (q, _) => q.toNat)
      (fun (q, r) => [.int .u64 hi, .int .u64 lo, .int .u64 Y, .junk, .junk, .junk, .int .u64 0, .int .u64 0, .int .u64 sh, .int .u64 y1, .int .u64 y0, .int .u64 U, .int .u64 L, .int .u64 u1, .int .u64 u0, .int .u64 Q1, .int .u64 r, .int .u64 R1, .int .u64 q] ++ junks 116) (fun _ => []) (fun _ => ()) (R1 / y1, R1 - R1 / y1 * y1) (fun _ => True) (keepN 19) (fun _ => 2) (fun r => [.int .u64 hi, .int .u64 lo, .int .u64 Y, .junk, .junk, .junk, .int .u64 0, .int .u64 0, .int .u64 sh, .int .u64 y1, .int .u64 y0, .int .u64 U, .int .u64 L, .int .u64 u1, .int .u64 u0, .int .u64 Q1, .int .u64 r, .int .u64 R1, .int .u64 Q0] ++ junks 116) (fun _ => []) (fun _ => ())
      ⟨st0.1, st0.2.1, st0.2.2.1, st0.2.2.2.1, by show R1 - R1 / y1 * y1 < _; omega⟩ rfl ⟨[], rfl⟩ rfl (fun _ => Nat.le_refl _) (fun _ => rfl) ?_ ?_
    · rintro ⟨q, r⟩ ⟨i1, i2, i3, i4, i5⟩
      have m1 : 0 ≤ q * y0 := Int.mul_nonneg (by omega) (by omega)
      have m2 : q * y0 ≤ 4294967297 * 4294967295 := Int.mul_le_mul i2 (by omega) (by omega) (by omega)
      have em1 : Z.mul .u64 q y0 = q * y0 := Z.wrap_uid m1 (by omega)
      have em2 : Z.add .u64 (Z.mul .u64 4294967296 r) u0 = 4294967296 * r + u0 := by unfold Z.add Z.mul; simp only [Z.wrap_u]; omega
      have er2 : Z.add .u64 r y1 = r + y1 := Z.wrap_uid (by omega) (by omega)
      have dec : ∀ (hc : 4294967296 ≤ q ∨ 4294967296 * r + u0 < q * y0), Q0 ≤ q - 1 ∧ Z.sub .u64 q 1 = q - 1 ∧ (q - 1) * y1 + (r + y1) = R1 ∧ (4294967296 ≤ r + y1 → q - 1 = Q0) := by
        intro hc
        have a1 := PN.dig_dec (u := R1) (d := u0) (q := q) (r := r) (y1 := y1) (y0 := y0) (B := 4294967296) (by omega) (by omega) (by omega) (by omega) i3 (by rw [hYe, hQ0]; exact i1) hc
        rw [hYe, hQ0] at a1
        have a2 : (q - 1) * y1 + (r + y1) = R1 := by rw [Int.sub_mul, Int.one_mul]; omega
        refine ⟨a1, Z.wrap_uid (by omega) (by omega), a2, fun hb => ?_⟩
        have a3 := PN.dig_end (u := R1) (d := u0) (q := q - 1) (r := r + y1) (y1 := y1) (y0 := y0) (B := 4294967296) (by omega) a2 (by rw [hYe, hQ0]; exact a1) (by
          have : (q - 1) * y0 ≤ 4294967296 * 4294967295 := Int.mul_le_mul (by omega) (by omega) (by omega) (by omega)
          omega)
        rw [hYe, hQ0] at a3; exact a3
      conv => whnf
      by_cases c1 : q ≥ 4294967296
      · obtain ⟨d1, d2, d3, d4⟩ := dec (.inl c1)
        rw [decide_eq_true c1]
        conv => whnf
        refine ifP (fun c2 => ?_) (fun c2 => ?_)
        · rw [er2] at c2
          conv => whnf
          rw [d2, d4 c2]
          exact ⟨_, [], rfl, rfl, rfl, rfl, trivial⟩
        · conv => whnf
          rw [er2] at c2
          refine ⟨(Z.sub .u64 q 1, Z.add .u64 r y1), [], rfl, rfl, rfl, ?_, ?_⟩
          · show (Z.sub .u64 q 1).toNat < q.toNat; rw [d2]; omega
          · show Q0 ≤ Z.sub .u64 q 1 ∧ Z.sub .u64 q 1 ≤ 4294967297 ∧ Z.sub .u64 q 1 * y1 + Z.add .u64 r y1 = R1 ∧ 0 ≤ Z.add .u64 r y1 ∧ Z.add .u64 r y1 < 4294967296
            rw [d2, er2]; exact ⟨d1, by omega, d3, by omega, by omega⟩
      · rw [decide_eq_false c1]
        conv => whnf
        refine ifP (fun c2 => ?_) (fun c2 => ?_)
        · rw [em1, em2] at c2
          obtain ⟨d1, d2, d3, d4⟩ := dec (.inr c2)
          conv => whnf
          refine ifP (fun c3 => ?_) (fun c3 => ?_)
          · rw [er2] at c3
            conv => whnf
            rw [d2, d4 c3]
            exact ⟨_, [], rfl, rfl, rfl, rfl, trivial⟩
          · conv => whnf
            rw [er2] at c3
            refine ⟨(Z.sub .u64 q 1, Z.add .u64 r y1), [], rfl, rfl, rfl, ?_, ?_⟩
            · show (Z.sub .u64 q 1).toNat < q.toNat; rw [d2]; omega
            · show Q0 ≤ Z.sub .u64 q 1 ∧ Z.sub .u64 q 1 ≤ 4294967297 ∧ Z.sub .u64 q 1 * y1 + Z.add .u64 r y1 = R1 ∧ 0 ≤ Z.add .u64 r y1 ∧ Z.add .u64 r y1 < 4294967296
              rw [d2, er2]; exact ⟨d1, by omega, d3, by omega, by omega⟩
        · rw [em1, em2] at c2
          have a3 := PN.dig_end (u := R1) (d := u0) (q := q) (r := r) (y1 := y1) (y0 := y0) (B := 4294967296) (by omega) i3 (by rw [hYe, hQ0]; exact i1) (by omega)
          rw [hYe, hQ0] at a3
          conv => whnf
          rw [a3]
          exact ⟨_, [], rfl, rfl, rfl, rfl, trivial⟩
    intro r t q _ ht
    conv => whnf
    refine AWs.rest tok 0 (keepN 19) q ht (Nat.le_refl _) rfl ?_
    conv => whnf
    refine andP s0 ?_
    conv => whnf
    generalize hR : Z.sub .u64 (Z.add .u64 (Z.mul .u64 R1 4294967296) u0) (Z.mul .u64 Q0 Y) = R
    obtain ⟨eR', R0', Rl'⟩ := PN.dig_rem (by omega) Y1 rfl hQ0.symm hR
    obtain ⟨f1, f2⟩ := PN.div_fin hp eY eV (by omega) hD.1 hD.2
    have f3 : hi * 18446744073709551616 + lo < 18446744073709551616 * y := by omega
    have f4 : (hi * 18446744073709551616 + lo) / y < 18446744073709551616 := Int.ediv_lt_of_lt_mul (by omega) f3
    refine ⟨rfl, Qeq ?_ (h _ _ rfl rfl)⟩
    rw [eR', f2, shp]
    simp only [Z.add, Z.mul, Z.wrap_u, AV.tup.injEq, List.cons.injEq, AV.int.injEq, true_and, and_true]
    rw [f1] at f4 ⊢
    omega
theorem refPart {a b c : Int} (ha : 0 ≤ a) (ha' : a < 18446744073709551616) (hb : 0 ≤ b) (hb' : b < 18446744073709551616) (hc : 0 ≤ c) (hc' : c < 18446744073709551616) {s : List Ob} {Q : AV → List Ob → Prop}
    (h : ∀ v ok, v = PN.partI a b c → ok = PN.partOk a b c → Q (.tup [.int .u64 v, .bool ok]) s) : AC Try.prog 87 [.int .u64 a, .int .u64 b, .int .u64 c] s Q := by
  refine AC_pure rfl ?_
  refine AC_body tok 0 Try.func87 rfl (by kernel_rfl) ?_
  conv => whnf
  refine mulR ha ha' hb hb' (fun hi lo hhi hlo => ?_)
  conv => whnf
  have p0 : 0 ≤ a * b := Int.mul_nonneg ha hb
  have ph := PN.part_hi (a := a) (b := b) (c := c)
  rw [← hhi] at ph
  refine ifP (fun h1 => ?_) (fun h1 => ?_)
  · conv => whnf
    have h2 := ph.1 h1
    exact ⟨rfl, h _ _ (by unfold PN.partI; rw [if_neg h2]) (by unfold PN.partOk; rw [decide_eq_false h2])⟩
  · conv => whnf
    have h1 : ¬ c ≤ hi := h1
    have h2 : a * b < c * 18446744073709551616 := by
      by_cases q : a * b < c * 18446744073709551616
      · exact q
      · exact absurd (ph.2 q) h1
    have e : hi * 18446744073709551616 + lo = a * b := by rw [hhi, hlo]; omega
    generalize hp : a * b = p at *
    refine ALs.inv (ι := Int × Int) tok 0 (keepN 12) (fun (i, q) => -1 ≤ i ∧ i ≤ 63 ∧ 0 ≤ q ∧ q + 2 ^ (i + 1).toNat ≤ 18446744073709551616 ∧ q * c ≤ p ∧ p < (q + 2 ^ (i + 1).toNat) * c) (fun (i, _) => (i + 1).toNat)
      (fun (i, q) => [.int .u64 a, .int .u64 b, .int .u64 c, .junk, .junk, .junk, .int .u64 0, .bool false, .int .u64 hi, .int .u64 lo, .int .u64 q, .int .i64 i] ++ junks 42) (fun _ => []) (fun _ => ()) (63, 0) ⟨by omega, by omega, by omega, by decide, by omega, by show p < (0 + 18446744073709551616) * c; omega⟩ rfl rfl rfl ?_
    rintro ⟨i, q⟩ ⟨i1, i2, i3, i4, i5, i6⟩
    conv => whnf
    refine ifP (fun d => ?_) (fun d => ?_)
    · have d : i ≥ 0 := d
      obtain ⟨n, rfl⟩ := Int.eq_ofNat_of_zero_le d
      rw [show ((n : Int) + 1).toNat = n + 1 by omega] at i4 i6
      have p0 := PN.pow_pos n
      rw [PN.pow_s] at i4 i6
      have hle : (2 : Int) ^ n ≤ 2 ^ 63 := PN.pow_le (by omega)
      have es : Z.shl .u64 1 (n : Int) = 2 ^ n := by
        rw [PN.shl_one (by omega) (by show Int.toNat (n : Int) ≤ 64; omega)]
        exact Z.wrap_uid (by simp; omega) (by simp; omega)
      have ea : Z.add .u64 q (2 ^ n) = q + 2 ^ n := Z.wrap_uid (by omega) (by omega)
      conv => whnf
      rw [es, ea]
      refine mulR (by omega) (by omega) hc hc' (fun x y hx hy => ?_)
      conv => whnf
      have m0 : 0 ≤ (q + 2 ^ n) * c := Int.mul_nonneg (by omega) hc
      generalize hm : (q + 2 ^ n) * c = m at *
      have stepY : m ≤ p → ∃ j : Int × Int, j = (Z.sub .i64 (n : Int) 1, q + 2 ^ n) ∧ (j.1 + 1).toNat < ((n : Int) + 1).toNat ∧ -1 ≤ j.1 ∧ j.1 ≤ 63 ∧ 0 ≤ j.2 ∧ j.2 + 2 ^ (j.1 + 1).toNat ≤ 18446744073709551616 ∧ j.2 * c ≤ p ∧ p < (j.2 + 2 ^ (j.1 + 1).toNat) * c := by
        intro hle
        refine ⟨_, rfl, ?_⟩
        rw [show Z.sub .i64 (n : Int) 1 = (n : Int) - 1 from Z.wrap_iid (by omega) (by omega)]
        refine ⟨by show ((n : Int) - 1 + 1).toNat < _; omega, by show -1 ≤ (n : Int) - 1; omega, by show (n : Int) - 1 ≤ 63; omega, by show 0 ≤ q + 2 ^ n; omega, ?_⟩
        show q + 2 ^ n + 2 ^ ((n : Int) - 1 + 1).toNat ≤ _ ∧ (q + 2 ^ n) * c ≤ p ∧ p < (q + 2 ^ n + 2 ^ ((n : Int) - 1 + 1).toNat) * c
        rw [show ((n : Int) - 1 + 1).toNat = n by omega, Int.add_assoc]
        exact ⟨by omega, by omega, i6⟩
      have stepN : ¬ m ≤ p → ∃ j : Int × Int, j = (Z.sub .i64 (n : Int) 1, q) ∧ (j.1 + 1).toNat < ((n : Int) + 1).toNat ∧ -1 ≤ j.1 ∧ j.1 ≤ 63 ∧ 0 ≤ j.2 ∧ j.2 + 2 ^ (j.1 + 1).toNat ≤ 18446744073709551616 ∧ j.2 * c ≤ p ∧ p < (j.2 + 2 ^ (j.1 + 1).toNat) * c := by
        intro hle
        refine ⟨_, rfl, ?_⟩
        rw [show Z.sub .i64 (n : Int) 1 = (n : Int) - 1 from Z.wrap_iid (by omega) (by omega)]
        refine ⟨by show ((n : Int) - 1 + 1).toNat < _; omega, by show -1 ≤ (n : Int) - 1; omega, by show (n : Int) - 1 ≤ 63; omega, by show 0 ≤ q; omega, ?_⟩
        show q + 2 ^ ((n : Int) - 1 + 1).toNat ≤ _ ∧ q * c ≤ p ∧ p < (q + 2 ^ ((n : Int) - 1 + 1).toNat) * c
        rw [show ((n : Int) - 1 + 1).toNat = n by omega]
        exact ⟨by omega, i5, by omega⟩
      have exy : m = x * 18446744073709551616 + y := by rw [hx, hy]; omega
      have y0 : 0 ≤ y ∧ y < 18446744073709551616 := by rw [hy]; omega
      have lo0 : 0 ≤ lo ∧ lo < 18446744073709551616 := by rw [hlo]; omega
      by_cases k1 : x < hi
      · rw [decide_eq_true k1]
        conv => whnf
        obtain ⟨j, rfl, j1, j2⟩ := stepY (by omega)
        rw [es, ea]
        exact ⟨_, rfl, rfl, rfl, j1, j2⟩
      · rw [decide_eq_false k1]
        conv => whnf
        by_cases k2 : x = hi
        · rw [show (x == hi) = true by simp [k2]]
          conv => whnf
          refine ifP (fun k3 => ?_) (fun k3 => ?_)
          · conv => whnf
            obtain ⟨j, rfl, j1, j2⟩ := stepY (by omega)
            rw [es, ea]
            exact ⟨_, rfl, rfl, rfl, j1, j2⟩
          · conv => whnf
            obtain ⟨j, rfl, j1, j2⟩ := stepN (by omega)
            exact ⟨_, rfl, rfl, rfl, j1, j2⟩
        · rw [show (x == hi) = false by simp [k2]]
          conv => whnf
          obtain ⟨j, rfl, j1, j2⟩ := stepN (by omega)
          exact ⟨_, rfl, rfl, rfl, j1, j2⟩
    · conv => whnf
      refine AWs.go tok 0 ?_
      conv => whnf
      have d : ¬ i ≥ 0 := d
      obtain rfl : i = -1 := by omega
      have i6 : p < (q + 1) * c := i6
      rw [← hp] at *
      refine ⟨rfl, h _ _ ?_ (by unfold PN.partOk; rw [decide_eq_true h2])⟩
      unfold PN.partI
      rw [if_pos h2]
      have c0 : 0 < c := by omega
      have a1 : q ≤ a * b / c := Int.le_ediv_of_mul_le c0 i5
      have a2 : a * b / c < q + 1 := Int.ediv_lt_of_lt_mul c0 i6
      omega
end Go.AW.A5
