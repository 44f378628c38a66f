/- Part of the proof of a law of the seat: its functions, walked. No condition. -/
import Derived.Test.YtgajnkfaelecaaaA9T
import Derived.Test.YtgajnkfaelecaaaPNum
import Derived.Test.YtgajnkfaelecaaaPList
import Derived.Test.YtgajnkfaelecaaaEngC
namespace Go.AW.A9
open Go Go.AW Go.Proofs
set_option maxRecDepth 100000
set_option linter.unusedVariables false
theorem hP : Try.prog.follows .mixedOrders = true := by kernel_rfl


theorem not_i {a : Int} (ha : -9223372036854775808 ≤ a) (ha' : a < 9223372036854775808) : Z.not .i64 a = -a - 1 := by
  have e : (BitVec.ofInt IntKind.i64.bits (if IntKind.i64.signed then -1 else IntKind.i64.max) ^^^ BitVec.ofInt IntKind.i64.bits a).toNat = 18446744073709551615 - (a % 18446744073709551616).toNat := by
    show (BitVec.ofInt 64 (-1) ^^^ BitVec.ofInt 64 a).toNat = _
    have h1 : BitVec.ofInt 64 (-1) = BitVec.allOnes 64 := by decide
    rw [h1, BitVec.allOnes_xor, BitVec.toNat_not, BitVec.toNat_ofInt]
    rfl
  unfold Z.not
  rw [e, IntKind.wrap_i64]
  omega
theorem quo_i {a b : Int} (ha : -9223372036854775808 ≤ a) (ha' : a < 9223372036854775808) (hb : 1 ≤ b) : Z.quo .i64 a b = a.tdiv b := IntWalk.i64_quo' a b ⟨ha, by omega, hb⟩
theorem quo_pos {a b : Int} (ha : 0 ≤ a) (ha' : a < 9223372036854775808) (hb : 1 ≤ b) : Z.quo .i64 a b = a / b := by rw [quo_i (by omega) ha' hb, Int.tdiv_eq_ediv_of_nonneg ha]

theorem numDiv {a b : Int} (ha : -9223372036854775808 ≤ a) (ha' : a < 9223372036854775808) {s : List Ob} {Q : AV → List Ob → Prop} (h : ∀ v, v = divI a b → Q (.int .i64 v) s) : AC Try.prog 35 [.int .i64 a, .int .i64 b] s Q := by
  refine AC_pure rfl ?_
  refine AC_body tok 0 Try.func35 rfl (by kernel_rfl) ?_
  conv => whnf
  refine ifP (fun h1 => ?_) (fun h1 => ?_)
  · conv => whnf
    exact ⟨rfl, h _ (by unfold divI; rw [if_pos h1])⟩
  · conv => whnf
    refine ifP (fun h2 => ?_) (fun h2 => ?_)
    · conv => whnf
      refine andI (by simp; omega) ?_
      conv => whnf
      exact ⟨rfl, h _ (by unfold divI; rw [if_neg h1, quo_pos h2 ha' (by omega)])⟩
    · conv => whnf
      refine andI (by simp; omega) ?_
      conv => whnf
      refine ⟨rfl, h _ ?_⟩
      have h3 : 0 ≤ (-a - 1) / b := Int.ediv_nonneg (by omega) (by omega)
      have h4 : (-a - 1) / b ≤ -a - 1 := Int.ediv_le_self _ (by omega)
      unfold divI
      rw [if_neg h1, not_i ha ha', quo_pos (by omega) (by omega) (by omega), not_i (by omega) (by omega)]
      have h5 := Int.emod_add_mul_ediv (-a - 1) b
      have h6 := Int.emod_nonneg (-a - 1) (show b ≠ 0 by omega)
      have h7 := Int.emod_lt_of_pos (-a - 1) (show 0 < b by omega)
      have e : b * (-((-a - 1) / b) - 1) = -(b * ((-a - 1) / b)) - b := by rw [Int.mul_sub, Int.mul_neg, Int.mul_one]
      exact ((Int.ediv_emod_unique (r := b - 1 - (-a - 1) % b) (show 0 < b by omega)).2 ⟨by rw [e]; omega, by omega, by omega⟩).1.symm
theorem tmod_mod {a b : Int} (hb : 0 < b) : a % b = if a.tmod b < 0 then a.tmod b + b else a.tmod b := by
  have h := Int.tmod_eq_emod (a := a) (b := b)
  have h1 := Int.emod_nonneg a (show b ≠ 0 by omega)
  have h2 := Int.emod_lt_of_pos a hb
  split at h
  · rw [h, if_neg (by omega)]; omega
  · rename_i hc
    have h3 : a % b ≠ 0 := fun e => hc (.inr (Int.dvd_of_emod_eq_zero e))
    rw [h, if_pos (by omega)]; omega
theorem and_m1 {b : Int} (hb : -9223372036854775808 ≤ b) (hb' : b < 9223372036854775808) : Z.and .i64 b (-1) = b := by
  unfold Z.and
  have h2 : (BitVec.ofInt IntKind.i64.bits b &&& BitVec.ofInt IntKind.i64.bits (-1)).toNat = (b % 18446744073709551616).toNat := by
    show (BitVec.ofInt 64 b &&& BitVec.ofInt 64 (-1)).toNat = _
    have h1 : BitVec.ofInt 64 (-1) = BitVec.allOnes 64 := by decide
    rw [h1, BitVec.and_allOnes, BitVec.toNat_ofInt]; rfl
  rw [h2, IntKind.wrap_i64]
  omega
theorem and_0 (b : Int) : Z.and .i64 b 0 = 0 := by
  unfold Z.and
  have h2 : (BitVec.ofInt IntKind.i64.bits b &&& BitVec.ofInt IntKind.i64.bits 0).toNat = 0 := by
    show (BitVec.ofInt 64 b &&& BitVec.ofInt 64 0).toNat = 0
    simp
  rw [h2]; rfl
theorem shr63 {r : Int} (h : -9223372036854775808 ≤ r) (h' : r < 9223372036854775808) : Z.shr .i64 r 63 = if r < 0 then -1 else 0 := by
  rw [Z.shr_eq 63 rfl, show (2 : Int) ^ 63 = 9223372036854775808 from rfl]
  split <;> omega

theorem numMod {a b : Int} (ha : -9223372036854775808 ≤ a) (ha' : a < 9223372036854775808) (hb' : b < 9223372036854775808) {s : List Ob} {Q : AV → List Ob → Prop} (h : ∀ v, v = modI a b → Q (.int .i64 v) s) : AC Try.prog 77 [.int .i64 a, .int .i64 b] s Q := by
  refine AC_pure rfl ?_
  refine AC_body tok 0 Try.func77 rfl (by kernel_rfl) ?_
  conv => whnf
  refine ifP (fun h1 => ?_) (fun h1 => ?_)
  · conv => whnf
    exact ⟨rfl, h _ (by unfold modI; rw [if_pos h1])⟩
  · conv => whnf
    refine andI (by simp; omega) ?_
    conv => whnf
    have e := tmod_mod (a := a) (b := b) (by omega)
    have h1' := Int.emod_nonneg a (show b ≠ 0 by omega)
    have h2' := Int.emod_lt_of_pos a (show 0 < b by omega)
    refine ⟨rfl, h _ ?_⟩
    show IntKind.i64.wrap (a.tmod b + Z.and .i64 b (Z.shr .i64 (a.tmod b) 63)) = _
    unfold modI
    rw [if_neg h1, e, shr63 (by split at e <;> omega) (by split at e <;> omega)]
    split
    · rw [and_m1 (by omega) (by omega)]; split at e <;> exact Z.wrap_iid (by omega) (by omega)
    · rw [and_0, Int.add_zero]; split at e <;> exact Z.wrap_iid (by omega) (by omega)
theorem numHold {n l g : Int} {s : List Ob} {Q : AV → List Ob → Prop} (h : ∀ v, v = holdI n l g → Q (.int .i64 v) s) : AC Try.prog 79 [.int .i64 n, .int .i64 l, .int .i64 g] s Q := by
  refine AC_pure rfl ?_
  refine AC_body tok 0 Try.func79 rfl (by kernel_rfl) ?_
  conv => whnf
  refine AC_body tok 0 Try.func83 rfl (by kernel_rfl) ?_
  conv => whnf
  refine ifP (fun h1 => ?_) (fun h1 => ?_)
  · conv => whnf
    exact ⟨rfl, h _ (by unfold holdI; rw [if_pos h1])⟩
  · conv => whnf
    refine ifP (fun h2 => ?_) (fun h2 => ?_)
    · conv => whnf
      exact ⟨rfl, h _ (by unfold holdI; rw [if_neg h1, if_pos h2])⟩
    · conv => whnf
      exact ⟨rfl, h _ (by unfold holdI; rw [if_neg h1, if_neg h2])⟩

theorem refPlus {a b : Int} (ha : -9223372036854775808 ≤ a) (ha' : a < 9223372036854775808) (hb : -9223372036854775808 ≤ b) (hb' : b < 9223372036854775808) {s : List Ob} {Q : AV → List Ob → Prop} (h : ∀ v, v = plusI a b → Q (.int .i64 v) s) : AC Try.prog 42 [.int .i64 a, .int .i64 b] s Q := by
  refine AC_pure rfl ?_
  refine AC_body tok 0 Try.func42 rfl (by kernel_rfl) ?_
  conv => whnf
  by_cases h1 : a ≥ 0
  · have e1 : Z.sub .i64 9223372036854775807 a = 9223372036854775807 - a := Z.wrap_iid (by omega) (by omega)
    rw [decide_eq_true h1]
    conv => whnf
    refine ifP (fun h2 => ?_) (fun h2 => ?_)
    · have h2 : b > Z.sub .i64 9223372036854775807 a := h2
      conv => whnf
      refine ⟨rfl, h _ ?_⟩
      unfold plusI; rw [if_pos (by omega)]
    · have h2 : ¬ b > Z.sub .i64 9223372036854775807 a := h2
      conv => whnf
      rw [decide_eq_false (show ¬ a < 0 by omega)]
      conv => whnf
      refine ⟨rfl, h _ ?_⟩
      unfold plusI; rw [if_neg (by omega), if_neg (by omega)]
      exact Z.wrap_iid (by omega) (by omega)
  · rw [decide_eq_false h1]
    conv => whnf
    rw [decide_eq_true (show a < 0 by omega)]
    conv => whnf
    have e1 : Z.sub .i64 (-9223372036854775808) a = -9223372036854775808 - a := Z.wrap_iid (by omega) (by omega)
    refine ifP (fun h2 => ?_) (fun h2 => ?_)
    · have h2 : b < Z.sub .i64 (-9223372036854775808) a := h2
      conv => whnf
      refine ⟨rfl, h _ ?_⟩
      unfold plusI; rw [if_neg (by omega), if_pos (by omega)]
    · have h2 : ¬ b < Z.sub .i64 (-9223372036854775808) a := h2
      conv => whnf
      refine ⟨rfl, h _ ?_⟩
      unfold plusI; rw [if_neg (by omega), if_neg (by omega)]
      exact Z.wrap_iid (by omega) (by omega)

theorem sign_bits (x : BitVec 64) : (IntKind.i64.wrap (x.toNat : Int) < 0) ↔ x.msb = true := by
  rw [IntKind.wrap_i64, BitVec.msb_eq_decide]
  simp only [decide_eq_true_eq]
  have := x.isLt
  omega
theorem ofInt_msb {a : Int} (ha : -9223372036854775808 ≤ a) (ha' : a < 9223372036854775808) : (BitVec.ofInt 64 a).msb = decide (a < 0) := by
  rw [BitVec.msb_eq_decide, BitVec.toNat_ofInt]
  simp only [decide_eq_decide]
  omega
theorem and_neg {a b : Int} (ha : -9223372036854775808 ≤ a) (ha' : a < 9223372036854775808) (hb : -9223372036854775808 ≤ b) (hb' : b < 9223372036854775808) : Z.and .i64 a b < 0 ↔ a < 0 ∧ b < 0 := by
  have := sign_bits (BitVec.ofInt 64 a &&& BitVec.ofInt 64 b)
  rw [BitVec.msb_and, ofInt_msb ha ha', ofInt_msb hb hb'] at this
  exact this.trans (by simp)
theorem xor_neg {a b : Int} (ha : -9223372036854775808 ≤ a) (ha' : a < 9223372036854775808) (hb : -9223372036854775808 ≤ b) (hb' : b < 9223372036854775808) : Z.xor .i64 a b < 0 ↔ ¬ (a < 0 ↔ b < 0) := by
  have := sign_bits (BitVec.ofInt 64 a ^^^ BitVec.ofInt 64 b)
  rw [BitVec.msb_xor, ofInt_msb ha ha', ofInt_msb hb hb'] at this
  exact this.trans (by by_cases h1 : a < 0 <;> by_cases h2 : b < 0 <;> simp [h1, h2])

theorem i_lo (n : Int) : -9223372036854775808 ≤ IntKind.i64.wrap n := by rw [IntKind.wrap_i64]; omega
theorem i_hi (n : Int) : IntKind.i64.wrap n < 9223372036854775808 := by rw [IntKind.wrap_i64]; omega
theorem numPlus {a b : Int} (ha : -9223372036854775808 ≤ a) (ha' : a < 9223372036854775808) (hb : -9223372036854775808 ≤ b) (hb' : b < 9223372036854775808) {s : List Ob} {Q : AV → List Ob → Prop} (h : ∀ v, v = plusI a b → Q (.int .i64 v) s) : AC Try.prog 73 [.int .i64 a, .int .i64 b] s Q := by
  refine AC_pure rfl ?_
  refine AC_body tok 0 Try.func73 rfl (by kernel_rfl) ?_
  conv => whnf
  have hs : Z.add .i64 a b = (a + b + 9223372036854775808) % 18446744073709551616 - 9223372036854775808 := IntKind.wrap_i64 _
  have l : -9223372036854775808 ≤ Z.add .i64 a b := i_lo (a + b)
  have g : Z.add .i64 a b < 9223372036854775808 := i_hi (a + b)
  have key := and_neg (a := Z.xor .i64 a (Z.add .i64 a b)) (b := Z.xor .i64 b (Z.add .i64 a b)) (i_lo _) (i_hi _) (i_lo _) (i_hi _)
  rw [xor_neg ha ha' l g, xor_neg hb hb' l g] at key
  refine ifP (fun h1 => ?_) (fun h1 => ?_)
  · conv => whnf
    refine ⟨rfl, h _ ?_⟩
    have h1 : ¬ Z.and .i64 (Z.xor .i64 a (Z.add .i64 a b)) (Z.xor .i64 b (Z.add .i64 a b)) < 0 := by have : Z.and .i64 (Z.xor .i64 a (Z.add .i64 a b)) (Z.xor .i64 b (Z.add .i64 a b)) ≥ 0 := h1; omega
    rw [key] at h1
    unfold plusI
    show Z.add .i64 a b = _
    generalize Z.add .i64 a b = z at *
    split
    · omega
    · split <;> omega
  · conv => whnf
    have h1 : Z.and .i64 (Z.xor .i64 a (Z.add .i64 a b)) (Z.xor .i64 b (Z.add .i64 a b)) < 0 := by have : ¬ Z.and .i64 (Z.xor .i64 a (Z.add .i64 a b)) (Z.xor .i64 b (Z.add .i64 a b)) ≥ 0 := h1; omega
    rw [key] at h1
    refine ifP (fun h2 => ?_) (fun h2 => ?_)
    · conv => whnf
      refine ⟨rfl, h _ ?_⟩
      unfold plusI
      generalize Z.add .i64 a b = z at *
      split
      · omega
      · split <;> omega
    · conv => whnf
      refine ⟨rfl, h _ ?_⟩
      unfold plusI
      generalize Z.add .i64 a b = z at *
      split
      · omega
      · split <;> omega

theorem numSize {n : Int} (hn : -9223372036854775808 ≤ n) (hn' : n < 9223372036854775808) {s : List Ob} {Q : AV → List Ob → Prop} (h : ∀ v, v = sizeI n → Q (.int .u64 v) s) : AC Try.prog 75 [.int .i64 n] s Q := by
  refine AC_pure rfl ?_
  refine AC_body tok 0 Try.func75 rfl (by kernel_rfl) ?_
  conv => whnf
  refine ifP (fun h1 => ?_) (fun h1 => ?_)
  · conv => whnf
    refine ⟨rfl, h _ ?_⟩
    unfold sizeI; rw [if_pos h1]
    show IntKind.u64.wrap (0 - IntKind.u64.wrap n) = -n
    simp only [Z.wrap_u]; omega
  · conv => whnf
    refine ⟨rfl, h _ ?_⟩
    unfold sizeI; rw [if_neg h1]
    exact Z.wrap_uid (by omega) (by omega)
theorem refSize {n : Int} (hn : -9223372036854775808 ≤ n) (hn' : n < 9223372036854775808) {s : List Ob} {Q : AV → List Ob → Prop} (h : ∀ v, v = sizeI n → Q (.int .u64 v) s) : AC Try.prog 66 [.int .i64 n] s Q := by
  refine AC_pure rfl ?_
  refine AC_body tok 0 Try.func66 rfl (by kernel_rfl) ?_
  conv => whnf
  refine ifP (fun h1 => ?_) (fun h1 => ?_)
  · conv => whnf
    refine ⟨rfl, h _ ?_⟩
    unfold sizeI; rw [if_pos h1]
    show IntKind.u64.wrap (IntKind.u64.wrap (IntKind.i64.wrap (0 - IntKind.i64.wrap (n + 1))) + 1) = -n
    simp only [Z.wrap_u, IntKind.wrap_i64]; omega
  · conv => whnf
    refine ⟨rfl, h _ ?_⟩
    unfold sizeI; rw [if_neg h1]
    exact Z.wrap_uid (by omega) (by omega)

theorem mul64 {a b : Int} (ha : 0 ≤ a) (ha' : a < 18446744073709551616) (hb : 0 ≤ b) (hb' : b < 18446744073709551616) {s : List Ob} {Q : AV → List Ob → Prop}
    (h : ∀ v u, v = a * b / 18446744073709551616 → u = a * b % 18446744073709551616 → Q (.tup [.int .u64 v, .int .u64 u]) s) : AC Try.prog 74 [.int .u64 a, .int .u64 b] s Q := by
  refine AC_pure rfl ?_
  refine AC_body tok 0 Try.func74 rfl (by kernel_rfl) ?_
  conv => whnf
  refine ⟨rfl, Qeq ?_ (h _ _ rfl rfl)⟩
  rw [Z.mask_u (a := a) (m := 4294967295) 32 rfl (by omega) ha ha', Z.mask_u (a := b) (m := 4294967295) 32 rfl (by omega) hb hb', Z.shr_eq (a := a) (k := 32) 32 rfl, Z.shr_eq (a := b) (k := 32) 32 rfl]
  simp only [Z.add, Z.mul, Z.mask_w _ 4294967295 32 rfl (by omega), Z.shr_eq (k := 32) 32 (show min (Int.toNat 32) IntKind.u64.bits = 32 from rfl)]
  simp only [Z.wrap_u]
  obtain ⟨h1, h2⟩ := Z.hi_eq ha ha' hb hb'
  simp only [AV.tup.injEq, List.cons.injEq, AV.int.injEq, true_and, and_true]
  rw [h1]
  have p1 := Z.half_mul (a := a / 4294967296) (b := b / 4294967296) (by omega) (by omega) (by omega) (by omega)
  have p2 := Z.half_mul (a := a / 4294967296) (b := b % 4294967296) (by omega) (by omega) (by omega) (by omega)
  have p3 := Z.half_mul (a := a % 4294967296) (b := b / 4294967296) (by omega) (by omega) (by omega) (by omega)
  have p4 := Z.half_mul (a := a % 4294967296) (b := b % 4294967296) (by omega) (by omega) (by omega) (by omega)
  simp only [show (2 : Int) ^ 32 = 4294967296 from rfl]
  generalize (a / 4294967296) * (b / 4294967296) = s at *
  generalize (a / 4294967296) * (b % 4294967296) = q at *
  generalize (a % 4294967296) * (b / 4294967296) = r at *
  generalize (a % 4294967296) * (b % 4294967296) = p at *
  omega
theorem or_add {X Y n : Nat} (hY : Y < 2 ^ n) : (X * 2 ^ n ||| Y) = X * 2 ^ n + Y := by
  rw [Nat.mul_comm]; exact (Nat.two_pow_add_eq_or_of_lt hY X).symm
theorem mulR {a b : Int} (ha : 0 ≤ a) (ha' : a < 18446744073709551616) (hb : 0 ≤ b) (hb' : b < 18446744073709551616) {s : List Ob} {Q : AV → List Ob → Prop}
    (h : ∀ v u, v = a * b / 18446744073709551616 → u = a * b % 18446744073709551616 → Q (.tup [.int .u64 v, .int .u64 u]) s) : AC Try.prog 65 [.int .u64 a, .int .u64 b] s Q := by
  refine AC_pure rfl ?_
  refine AC_body tok 0 Try.func65 rfl (by kernel_rfl) ?_
  conv => whnf
  refine ⟨rfl, Qeq ?_ (h _ _ rfl rfl)⟩
  rw [Z.mask_u (a := a) (m := 4294967295) 32 rfl (by omega) ha ha', Z.mask_u (a := b) (m := 4294967295) 32 rfl (by omega) hb hb', Z.shr_eq (a := a) (k := 32) 32 rfl, Z.shr_eq (a := b) (k := 32) 32 rfl]
  simp only [Z.add, Z.mul, Z.mask_w _ 4294967295 32 rfl (by omega), Z.shr_eq (k := 32) 32 (show min (Int.toNat 32) IntKind.u64.bits = 32 from rfl)]
  obtain ⟨h1, h2⟩ := Z.hi_eq ha ha' hb hb'
  simp only [AV.tup.injEq, List.cons.injEq, AV.int.injEq, true_and, and_true]
  rw [h1]
  have p1 := Z.half_mul (a := a / 4294967296) (b := b / 4294967296) (by omega) (by omega) (by omega) (by omega)
  have p2 := Z.half_mul (a := a / 4294967296) (b := b % 4294967296) (by omega) (by omega) (by omega) (by omega)
  have p3 := Z.half_mul (a := a % 4294967296) (b := b / 4294967296) (by omega) (by omega) (by omega) (by omega)
  have p4 := Z.half_mul (a := a % 4294967296) (b := b % 4294967296) (by omega) (by omega) (by omega) (by omega)
  simp only [show (2 : Int) ^ 32 = 4294967296 from rfl]
  rw [h2]
  generalize (a / 4294967296) * (b / 4294967296) = s at *
  generalize (a / 4294967296) * (b % 4294967296) = q at *
  generalize (a % 4294967296) * (b / 4294967296) = r at *
  generalize (a % 4294967296) * (b % 4294967296) = p at *
  refine ⟨by simp only [Z.wrap_u]; omega, ?_⟩
  have e : ∀ X Y : Int, 0 ≤ Y → Y < 4294967296 → 0 ≤ X → Z.or .u64 (Z.shl .u64 X 32) Y = X * 4294967296 % 18446744073709551616 + Y := by
    intro X Y h1 h2 h3
    have h4 : Z.shl .u64 X 32 = X * 4294967296 % 18446744073709551616 := Z.wrap_u _
    rw [h4, Z.or_u (by omega) (by omega) (by omega) (by omega)]
    have h5 : (X * 4294967296 % 18446744073709551616).toNat = (X % 4294967296).toNat * 2 ^ 32 := by omega
    have h6 : Y.toNat < 2 ^ 32 := by omega
    rw [h5, or_add h6]
    omega
  rw [e]
  · simp only [Z.wrap_u]; omega
  · simp only [Z.wrap_u]; omega
  · simp only [Z.wrap_u]; omega
  · simp only [Z.wrap_u]; omega

theorem size_mul (a b : Int) : (¬ (a < 0 ↔ b < 0) → a * b = -(sizeI a * sizeI b)) ∧ ((a < 0 ↔ b < 0) → a * b = sizeI a * sizeI b) ∧ 0 ≤ sizeI a * sizeI b := by
  unfold sizeI
  refine ⟨fun h => ?_, fun h => ?_, Int.mul_nonneg (by split <;> omega) (by split <;> omega)⟩
  · by_cases h1 : a < 0
    · have h2 : ¬ b < 0 := by omega
      rw [if_pos h1, if_neg h2, Int.neg_mul, Int.neg_neg]
    · have h2 : b < 0 := by omega
      rw [if_neg h1, if_pos h2, Int.mul_neg, Int.neg_neg]
  · by_cases h1 : a < 0
    · have h2 : b < 0 := by omega
      rw [if_pos h1, if_pos h2, Int.neg_mul_neg]
    · have h2 : ¬ b < 0 := by omega
      rw [if_neg h1, if_neg h2]

theorem numTimes {a b : Int} (ha : -9223372036854775808 ≤ a) (ha' : a < 9223372036854775808) (hb : -9223372036854775808 ≤ b) (hb' : b < 9223372036854775808) {s : List Ob} {Q : AV → List Ob → Prop} (h : ∀ v, v = timesI a b → Q (.int .i64 v) s) : AC Try.prog 59 [.int .i64 a, .int .i64 b] s Q := by
  refine AC_pure rfl ?_
  refine AC_body tok 0 Try.func59 rfl (by kernel_rfl) ?_
  conv => whnf
  refine numSize ha ha' (fun x hx => ?_)
  conv => whnf
  refine numSize hb hb' (fun y hy => ?_)
  conv => whnf
  refine mul64 (by rw [hx]; unfold sizeI; split <;> omega) (by rw [hx]; unfold sizeI; split <;> omega) (by rw [hy]; unfold sizeI; split <;> omega) (by rw [hy]; unfold sizeI; split <;> omega) (fun hi lo hhi hlo => ?_)
  conv => whnf
  obtain ⟨m1, m2, m3⟩ := size_mul a b
  rw [← hx, ← hy] at m1 m2 m3
  have xn := xor_neg ha ha' hb hb'
  have p1 : x * y = hi * 18446744073709551616 + lo := by rw [hhi, hlo]; omega
  have p2 : 0 ≤ hi := by rw [hhi]; omega
  have p3 : 0 ≤ lo ∧ lo < 18446744073709551616 := by rw [hlo]; omega
  generalize hp : x * y = p at *
  by_cases h1 : hi = 0
  · rw [show (hi == 0) = true by simp [h1]]
    conv => whnf
    by_cases h2 : lo ≤ 9223372036854775807
    · rw [decide_eq_true h2]
      conv => whnf
      by_cases h3 : Z.xor .i64 a b < 0
      · rw [decide_eq_true h3]
        conv => whnf
        refine ⟨rfl, h _ ?_⟩
        rw [xn] at h3
        have := m1 h3
        unfold timesI
        rw [this, if_neg (by omega), if_neg (by omega)]
        show IntKind.i64.wrap (0 - IntKind.i64.wrap lo) = _
        simp only [IntKind.wrap_i64]; omega
      · rw [decide_eq_false h3]
        conv => whnf
        rw [show (hi == 0) = true by simp [h1]]
        conv => whnf
        rw [decide_eq_true h2]
        conv => whnf
        refine ⟨rfl, h _ ?_⟩
        rw [xn] at h3
        have := m2 (by omega)
        unfold timesI
        rw [this, if_neg (by omega), if_neg (by omega)]
        show IntKind.i64.wrap lo = _
        simp only [IntKind.wrap_i64]; omega
    · rw [decide_eq_false h2]
      conv => whnf
      rw [show (hi == 0) = true by simp [h1]]
      conv => whnf
      rw [decide_eq_false h2]
      conv => whnf
      by_cases h3 : Z.xor .i64 a b < 0
      · rw [decide_eq_true h3]
        conv => whnf
        refine ⟨rfl, h _ ?_⟩
        rw [xn] at h3
        have := m1 h3
        unfold timesI
        rw [this, if_neg (by omega)]
        split <;> omega
      · rw [decide_eq_false h3]
        conv => whnf
        refine ⟨rfl, h _ ?_⟩
        rw [xn] at h3
        have := m2 (by omega)
        unfold timesI
        rw [this, if_pos (by omega)]
  · rw [show (hi == 0) = false by simp [h1]]
    conv => whnf
    rw [show (hi == 0) = false by simp [h1]]
    conv => whnf
    by_cases h3 : Z.xor .i64 a b < 0
    · rw [decide_eq_true h3]
      conv => whnf
      refine ⟨rfl, h _ ?_⟩
      rw [xn] at h3
      have := m1 h3
      unfold timesI
      rw [this, if_neg (by omega)]
      split <;> omega
    · rw [decide_eq_false h3]
      conv => whnf
      refine ⟨rfl, h _ ?_⟩
      rw [xn] at h3
      have := m2 (by omega)
      unfold timesI
      rw [this, if_pos (by omega)]

theorem refTimes {a b : Int} (ha : -9223372036854775808 ≤ a) (ha' : a < 9223372036854775808) (hb : -9223372036854775808 ≤ b) (hb' : b < 9223372036854775808) {s : List Ob} {Q : AV → List Ob → Prop} (h : ∀ v, v = timesI a b → Q (.int .i64 v) s) : AC Try.prog 38 [.int .i64 a, .int .i64 b] s Q := by
  refine AC_pure rfl ?_
  refine AC_body tok 0 Try.func38 rfl (by kernel_rfl) ?_
  conv => whnf
  refine refSize ha ha' (fun x hx => ?_)
  conv => whnf
  refine refSize hb hb' (fun y hy => ?_)
  conv => whnf
  refine mulR (by rw [hx]; unfold sizeI; split <;> omega) (by rw [hx]; unfold sizeI; split <;> omega) (by rw [hy]; unfold sizeI; split <;> omega) (by rw [hy]; unfold sizeI; split <;> omega) (fun hi lo hhi hlo => ?_)
  conv => whnf
  obtain ⟨m1, m2, m3⟩ := size_mul a b
  rw [← hx, ← hy] at m1 m2 m3
  have p1 : x * y = hi * 18446744073709551616 + lo := by rw [hhi, hlo]; omega
  have p2 : 0 ≤ hi := by rw [hhi]; omega
  have p3 : 0 ≤ lo ∧ lo < 18446744073709551616 := by rw [hlo]; omega
  generalize hp : x * y = p at *
  by_cases h3 : (a < 0 ↔ b < 0)
  · have := m2 h3
    rw [show (decide (a < 0) == decide (b < 0)) = true by simp [h3]]
    conv => whnf
    by_cases h1 : hi > 0
    · rw [decide_eq_true h1]
      conv => whnf
      refine ⟨rfl, h _ ?_⟩
      unfold timesI
      rw [this, if_pos (by omega)]
    · rw [decide_eq_false h1]
      conv => whnf
      refine ifP (fun h2 => ?_) (fun h2 => ?_)
      · conv => whnf
        refine ⟨rfl, h _ ?_⟩
        unfold timesI
        rw [this, if_pos (by omega)]
      · conv => whnf
        refine ⟨rfl, h _ ?_⟩
        unfold timesI
        rw [this, if_neg (by omega), if_neg (by omega)]
        show IntKind.i64.wrap lo = _
        simp only [IntKind.wrap_i64]; omega
  · have := m1 h3
    rw [show (decide (a < 0) == decide (b < 0)) = false by simp [h3]]
    conv => whnf
    by_cases h1 : hi > 0
    · rw [decide_eq_true h1]
      conv => whnf
      refine ⟨rfl, h _ ?_⟩
      unfold timesI
      rw [this, if_neg (by omega), if_pos (by omega)]
    · rw [decide_eq_false h1]
      conv => whnf
      refine ifP (fun h2 => ?_) (fun h2 => ?_)
      · conv => whnf
        refine ⟨rfl, h _ ?_⟩
        unfold timesI
        rw [this, if_neg (by omega)]
        split <;> omega
      · conv => whnf
        refine ⟨rfl, h _ ?_⟩
        unfold timesI
        rw [this, if_neg (by omega), if_neg (by omega)]
        show IntKind.i64.wrap (0 - IntKind.i64.wrap lo) = _
        simp only [IntKind.wrap_i64]; omega
theorem len64 {x : Int} (hx : 0 ≤ x) (hx' : x < 18446744073709551616) {s : List Ob} {Q : AV → List Ob → Prop} (h : ∀ n : Nat, x < 2 ^ n → (n = 0 ∨ 2 ^ (n - 1) ≤ x) → n ≤ 64 → Q (.int .i64 (n : Int)) s) : AC Try.prog 81 [.int .u64 x] s Q := by
  refine AC_pure rfl ?_
  refine AC_body tok 0 Try.func81 rfl (by kernel_rfl) ?_
  have q32 : ∀ a, Z.shr .u64 a 32 = a / 4294967296 := fun a => Z.shr_eq 32 rfl
  have q16 : ∀ a, Z.shr .u64 a 16 = a / 65536 := fun a => Z.shr_eq 16 rfl
  have q8 : ∀ a, Z.shr .u64 a 8 = a / 256 := fun a => Z.shr_eq 8 rfl
  conv => whnf
  refine ifP (fun h1 => ?_) (fun h1 => ?_) <;> conv => whnf
  all_goals refine ifP (fun h2 => ?_) (fun h2 => ?_) <;> conv => whnf
  all_goals refine ifP (fun h3 => ?_) (fun h3 => ?_) <;> conv => whnf
  all_goals
    generalize hTab : ByteArray.mk _ = tab
    obtain rfl : tab = lenTab := by rw [← hTab]; decide +kernel
    simp only [q32, q16, q8] at *
    refine andI (by simp only [PN.wrap_u8, PN.lenTab_size, Bool.and_eq_true, decide_eq_true_eq]; omega) ?_
    conv => whnf
    refine ⟨rfl, ?_⟩
    first
      | exact PN.len_fin (Q := fun v => Q v s) 56 (by omega) (by omega) (by omega) (by omega) (by omega) (by decide) (by omega) h
      | exact PN.len_fin (Q := fun v => Q v s) 48 (by omega) (by omega) (by omega) (by omega) (by omega) (by decide) (by omega) h
      | exact PN.len_fin (Q := fun v => Q v s) 40 (by omega) (by omega) (by omega) (by omega) (by omega) (by decide) (by omega) h
      | exact PN.len_fin (Q := fun v => Q v s) 32 (by omega) (by omega) (by omega) (by omega) (by omega) (by decide) (by omega) h
      | exact PN.len_fin (Q := fun v => Q v s) 24 (by omega) (by omega) (by omega) (by omega) (by omega) (by decide) (by omega) h
      | exact PN.len_fin (Q := fun v => Q v s) 16 (by omega) (by omega) (by omega) (by omega) (by omega) (by decide) (by omega) h
      | exact PN.len_fin (Q := fun v => Q v s) 8 (by omega) (by omega) (by omega) (by omega) (by omega) (by decide) (by omega) h
      | exact PN.len_fin (Q := fun v => Q v s) 0 (by omega) (by omega) (by omega) (by omega) (by omega) (by decide) (by omega) h
theorem numRoot {x : Int} (hx : 0 ≤ x) (hx' : x < 18446744073709551616) {s : List Ob} {Q : AV → List Ob → Prop} (h : ∀ v, v = rootI x → Q (.int .i64 v) s) : AC Try.prog 72 [.int .u64 x] s Q := by
  refine AC_pure rfl ?_
  refine AC_body tok 0 Try.func72 rfl (by kernel_rfl) ?_
  conv => whnf
  have R := PN.root_I hx hx'
  by_cases h0 : x = 0
  · refine ifT (by simp [h0]) ?_
    conv => whnf
    exact ⟨rfl, h _ (by subst h0; decide)⟩
  · refine ifF (by simp [h0]) ?_
    conv => whnf
    refine len64 hx hx' (fun n hn1 hn2 hn3 => ?_)
    conv => whnf
    have ek : Z.quo .i64 (Z.add .i64 (n : Int) 1) 2 = (((n + 1) / 2 : Nat) : Int) := by
      have e1 : Z.add .i64 (n : Int) 1 = (n : Int) + 1 := Z.wrap_iid (by omega) (by omega)
      rw [e1]
      unfold Z.quo
      rw [Int.tdiv_eq_ediv_of_nonneg (by omega)]
      exact (Z.wrap_iid (by omega) (by omega)).trans (by omega)
    generalize hk : (n + 1) / 2 = k at *
    refine andP (by rw [ek]; omega) ?_
    conv => whnf
    rw [ek]
    have er : Z.shl .u64 1 (k : Int) = 2 ^ k := by
      unfold Z.shl
      have hp : (2 : Int) ^ k ≤ 2 ^ 32 := PN.pow_le (by omega)
      have h0 : (0 : Int) < 2 ^ k := Int.pow_pos (by omega)
      rw [show min ((k : Int)).toNat IntKind.u64.bits = k by (show min (Int.toNat (k : Int)) 64 = k; omega), Int.one_mul]
      exact Z.wrap_uid (by omega) (by omega)
    rw [er]
    have hp : (2 : Int) ^ k ≤ 4294967296 := PN.pow_le (show k ≤ 32 by omega)
    have h1 : (0 : Int) < 2 ^ k := Int.pow_pos (by omega)
    have hs : rootI x ≤ 2 ^ k := by
      have h2 : x < 2 ^ k * 2 ^ k := by
        rw [← Int.pow_add]
        have : (2 : Int) ^ n ≤ 2 ^ (k + k) := PN.pow_le (by omega)
        omega
      have := R.hi _ (Int.le_of_lt h1) h2; omega
    have R1 := R.ge 1 (by omega)
    refine ALs.inv (ι := Int) tok 0 (keepN 4) (fun r => rootI x ≤ r ∧ r ≤ 4294967296) (fun r => r.toNat)
      (fun r => [.int .u64 x, .junk, .int .i64 0, .int .u64 r] ++ junks 20) (fun _ => []) (fun _ => ()) _ ⟨hs, hp⟩ rfl rfl rfl ?_
    rintro r ⟨i1, i2⟩
    conv => whnf
    refine andI (by simp; omega) ?_
    conv => whnf
    have a0 : 0 ≤ x / r := Int.ediv_nonneg hx (by omega)
    have a1 : x / r ≤ x := Int.ediv_le_self _ hx
    have a2 : x / r ≤ 4294967298 := by
      have a3 : x / r < rootI x + 3 := by
        refine Int.ediv_lt_of_lt_mul (by omega) (Int.lt_of_lt_of_le R.lt ?_)
        have a4 : (rootI x + 3) * rootI x ≤ (rootI x + 3) * r := Int.mul_le_mul_of_nonneg_left i1 (by omega)
        have a5 : (rootI x + 1) * (rootI x + 1) = rootI x * rootI x + 2 * rootI x + 1 := by rw [Int.add_mul, Int.mul_add]; omega
        have a6 : (rootI x + 3) * rootI x = rootI x * rootI x + 3 * rootI x := by rw [Int.add_mul]
        omega
      have := PN.root_hi hx hx'
      omega
    have e1 : Z.quo .u64 x r = x / r := by unfold Z.quo; rw [Int.tdiv_eq_ediv_of_nonneg hx]; exact Z.wrap_uid a0 (by omega)
    have e2 : Z.quo .u64 (Z.add .u64 r (x / r)) 2 = (r + x / r) / 2 := by
      have e3 : Z.add .u64 r (x / r) = r + x / r := Z.wrap_uid (by omega) (by omega)
      rw [e3]; unfold Z.quo; rw [Int.tdiv_eq_ediv_of_nonneg (by omega)]; exact Z.wrap_uid (by omega) (by omega)
    rw [e1, e2]
    obtain ⟨n1, n2⟩ := PN.newton R i1 (by omega)
    refine ifP (fun c => ?_) (fun c => ?_)
    · conv => whnf
      have c : (r + x / r) / 2 ≥ r := c
      refine ⟨rfl, h _ ?_⟩
      rw [show IntKind.i64.wrap r = r from Z.wrap_iid (by omega) (by omega)]
      exact n2 c
    · conv => whnf
      have c : ¬ (r + x / r) / 2 ≥ r := c
      exact ⟨(r + x / r) / 2, rfl, rfl, rfl, by omega, n1, by omega⟩
end Go.AW.A9
