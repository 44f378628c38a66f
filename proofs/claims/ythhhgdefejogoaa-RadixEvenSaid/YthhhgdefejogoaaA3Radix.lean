/- Part of the proof of a law of the seat: its functions, walked. No condition. -/
import Derived.Test.YthhhgdefejogoaaA3Num
import Derived.Test.YthhhgdefejogoaaPWide
import Derived.Test.YthhhgdefejogoaaPRadix
namespace Go.AW.A3
open Go Go.AW Go.Proofs
set_option maxRecDepth 100000
set_option linter.unusedVariables false
theorem rxPowers {b k : Int} (hb : I64 b) (hk : I64 k) {s : List Ob} {Q : AV → List Ob → Prop} (hq : ∀ v, v = powI b k → Q (.int .i64 v) s) : AC Try.prog 27 [.int .i64 b, .int .i64 k] s Q := by
  refine AC_pure rfl ?_
  refine AC_body tok 0 Try.func27 rfl (by kernel_rfl) ?_
  conv => whnf
  have no : (b < 2 ∨ b > 64 ∨ k < 0 ∨ k > 40) → Q (.int .i64 0) s := fun h => hq 0 (by unfold powI; rw [if_pos h])
  generalize hB : decide ((_ : Int) < 2) = bB
  replace hB : decide (b < 2) = bB := hB
  by_cases g1 : b < 2
  · rw [decide_eq_true g1] at hB; subst hB
    conv => whnf
    exact ⟨rfl, no (by omega)⟩
  rw [decide_eq_false g1] at hB; subst hB
  conv => whnf
  generalize hB : decide ((_ : Int) > 64) = bB
  replace hB : decide (b > 64) = bB := hB
  by_cases g2 : b > 64
  · rw [decide_eq_true g2] at hB; subst hB
    conv => whnf
    exact ⟨rfl, no (by omega)⟩
  rw [decide_eq_false g2] at hB; subst hB
  conv => whnf
  generalize hB : decide ((_ : Int) < 0) = bB
  replace hB : decide (k < 0) = bB := hB
  by_cases g3 : k < 0
  · rw [decide_eq_true g3] at hB; subst hB
    conv => whnf
    exact ⟨rfl, no (by omega)⟩
  rw [decide_eq_false g3] at hB; subst hB
  conv => whnf
  generalize hB : decide ((_ : Int) > 40) = bB
  replace hB : decide (k > 40) = bB := hB
  by_cases g4 : k > 40
  · rw [decide_eq_true g4] at hB; subst hB
    conv => whnf
    exact ⟨rfl, no (by omega)⟩
  rw [decide_eq_false g4] at hB; subst hB
  conv => whnf
  have big : b ^ k.toNat > 1099511627776 → Q (.int .i64 0) s := fun h => hq 0 (by unfold powI; rw [if_neg (by omega), if_pos h])
  have fin : b ^ k.toNat ≤ 1099511627776 → Q (.int .i64 (b ^ k.toNat)) s := fun h => hq _ (by unfold powI; rw [if_neg (by omega), if_neg (by omega)])
  clear no
  unfold I64 at *
  refine ALs.inv (ι := Int × Int) tok 0 [true, true, false, false, false, true, false, false, false, false, false, false, false, false, false, false, false, false, false, false, true, true] (fun (c, p) => 0 ≤ c ∧ c ≤ k ∧ p = b ^ c.toNat ∧ p ≤ 1099511627776) (fun (c, _) => (k - c).toNat)
    (fun (c, p) => [.int .i64 b, .int .i64 k, .junk, .junk, .junk, .int .i64 p, .junk, .junk, .junk, .junk, .junk, .junk, .junk, .junk, .junk, .junk, .junk, .junk, .junk, .junk, .int .i64 k, .int .i64 c] ++ junks 8) (fun _ => []) (fun _ => ()) (0, 1) ⟨by omega, by omega, (Int.pow_zero b).symm, by omega⟩ rfl rfl rfl ?_
  rintro ⟨c, p⟩ ⟨c0, c1, c3, c2⟩
  replace c3 : p = b ^ c.toNat := c3
  replace c2 : p ≤ 1099511627776 := c2
  subst c3
  conv => whnf
  have pp := PR.pow_pos (b := b) (by omega) c.toNat
  have ps := PR.pow_succ b c.toNat
  by_cases g : c < k
  · rw [decide_eq_true g]
    conv => whnf
    have pm : b ^ c.toNat * b ≤ b ^ c.toNat * 64 := Int.mul_le_mul_of_nonneg_left (by omega) (by omega)
    have pl : 0 ≤ b ^ c.toNat * b := Int.mul_nonneg (by omega) (by omega)
    try (refine AW_draw tok hP ?_; conv => whnf)
    first | refine AQ_int (fun sK QK hK => numTimes (by omega) (by omega) hb.1 hb.2 hK) (fun q h1 => ?_) | refine numTimes (by omega) (by omega) hb.1 hb.2 (fun q h1 => ?_)
    conv => whnf
    try (refine And.intro (OkD.mk (by kernel_rfl)) ?_; conv => whnf)
    unfold timesI at h1
    rw [if_neg (by omega), if_neg (by omega), ← ps] at h1
    have ec : Z.add .i64 c 1 = c + 1 := Z.wrap_iid (by omega) (by omega)
    have et : (c + 1).toNat = c.toNat + 1 := by omega
    by_cases g5 : q > 1099511627776
    · rw [decide_eq_true g5]
      conv => whnf
      have := PR.pow_mono (b := b) (by omega) (show c.toNat + 1 ≤ k.toNat by omega)
      exact ⟨rfl, big (by omega)⟩
    · rw [decide_eq_false g5]
      conv => whnf
      exact ⟨(Z.add .i64 c 1, q), rfl, rfl, rfl, by show (k - Z.add .i64 c 1).toNat < (k - c).toNat; rw [ec]; omega, by show 0 ≤ Z.add .i64 c 1; rw [ec]; omega, by show Z.add .i64 c 1 ≤ k; rw [ec]; omega, by show q = b ^ (Z.add .i64 c 1).toNat; rw [ec, et]; exact h1, by show q ≤ _; omega⟩
  · rw [decide_eq_false g]
    conv => whnf
    refine AWs.go tok 0 ?_
    conv => whnf
    obtain rfl : c = k := by omega
    exact ⟨rfl, fin c2⟩
theorem rrPowers {b k : Int} (hb : I64 b) (hk : I64 k) {s : List Ob} {Q : AV → List Ob → Prop} (hq : ∀ v, v = powI b k → Q (.int .i64 v) s) : AC Try.prog 28 [.int .i64 b, .int .i64 k] s Q := by
  refine AC_pure rfl ?_
  refine AC_body tok 0 Try.func28 rfl (by kernel_rfl) ?_
  conv => whnf
  have no : (b < 2 ∨ b > 64 ∨ k < 0 ∨ k > 40) → Q (.int .i64 0) s := fun h => hq 0 (by unfold powI; rw [if_pos h])
  generalize hB : decide ((_ : Int) < 2) = bB
  replace hB : decide (b < 2) = bB := hB
  by_cases g1 : b < 2
  · rw [decide_eq_true g1] at hB; subst hB
    conv => whnf
    exact ⟨rfl, no (by omega)⟩
  rw [decide_eq_false g1] at hB; subst hB
  conv => whnf
  generalize hB : decide ((_ : Int) > 64) = bB
  replace hB : decide (b > 64) = bB := hB
  by_cases g2 : b > 64
  · rw [decide_eq_true g2] at hB; subst hB
    conv => whnf
    exact ⟨rfl, no (by omega)⟩
  rw [decide_eq_false g2] at hB; subst hB
  conv => whnf
  generalize hB : decide ((_ : Int) < 0) = bB
  replace hB : decide (k < 0) = bB := hB
  by_cases g3 : k < 0
  · rw [decide_eq_true g3] at hB; subst hB
    conv => whnf
    exact ⟨rfl, no (by omega)⟩
  rw [decide_eq_false g3] at hB; subst hB
  conv => whnf
  generalize hB : decide ((_ : Int) > 40) = bB
  replace hB : decide (k > 40) = bB := hB
  by_cases g4 : k > 40
  · rw [decide_eq_true g4] at hB; subst hB
    conv => whnf
    exact ⟨rfl, no (by omega)⟩
  rw [decide_eq_false g4] at hB; subst hB
  conv => whnf
  have big : b ^ k.toNat > 1099511627776 → Q (.int .i64 0) s := fun h => hq 0 (by unfold powI; rw [if_neg (by omega), if_pos h])
  have fin : b ^ k.toNat ≤ 1099511627776 → Q (.int .i64 (b ^ k.toNat)) s := fun h => hq _ (by unfold powI; rw [if_neg (by omega), if_neg (by omega)])
  clear no
  unfold I64 at *
  refine ALs.inv (ι := Int × Int) tok 0 [true, true, false, false, false, true, true] (fun (c, p) => 0 ≤ c ∧ c ≤ k ∧ p = b ^ c.toNat ∧ p ≤ 1099511627776) (fun (c, _) => (k - c).toNat)
    (fun (c, p) => [.int .i64 b, .int .i64 k, .junk, .junk, .junk, .int .i64 p, .int .i64 c] ++ junks 25) (fun _ => []) (fun _ => ()) (0, 1) ⟨by omega, by omega, (Int.pow_zero b).symm, by omega⟩ rfl rfl rfl ?_
  rintro ⟨c, p⟩ ⟨c0, c1, c3, c2⟩
  replace c3 : p = b ^ c.toNat := c3
  replace c2 : p ≤ 1099511627776 := c2
  subst c3
  conv => whnf
  have pp := PR.pow_pos (b := b) (by omega) c.toNat
  have ps := PR.pow_succ b c.toNat
  by_cases g : c < k
  · rw [decide_eq_true g]
    conv => whnf
    have pm : b ^ c.toNat * b ≤ b ^ c.toNat * 64 := Int.mul_le_mul_of_nonneg_left (by omega) (by omega)
    have pl : 0 ≤ b ^ c.toNat * b := Int.mul_nonneg (by omega) (by omega)
    have eq : Z.mul .i64 (b ^ c.toNat) b = b ^ c.toNat * b := Z.wrap_iid (by omega) (by omega)
    rw [eq]
    have ec : Z.add .i64 c 1 = c + 1 := Z.wrap_iid (by omega) (by omega)
    have et : (c + 1).toNat = c.toNat + 1 := by omega
    by_cases g5 : b ^ c.toNat * b > 1099511627776
    · rw [decide_eq_true g5]
      conv => whnf
      have := PR.pow_mono (b := b) (by omega) (show c.toNat + 1 ≤ k.toNat by omega)
      exact ⟨rfl, big (by omega)⟩
    · rw [decide_eq_false g5]
      conv => whnf
      exact ⟨(Z.add .i64 c 1, b ^ c.toNat * b), rfl, rfl, rfl, by show (k - Z.add .i64 c 1).toNat < (k - c).toNat; rw [ec]; omega, by show 0 ≤ Z.add .i64 c 1; rw [ec]; omega, by show Z.add .i64 c 1 ≤ k; rw [ec]; omega, by show b ^ c.toNat * b = b ^ (Z.add .i64 c 1).toNat; rw [ec, et, ps], by show b ^ c.toNat * b ≤ _; omega⟩
  · rw [decide_eq_false g]
    conv => whnf
    refine AWs.go tok 0 ?_
    conv => whnf
    obtain rfl : c = k := by omega
    exact ⟨rfl, fin c2⟩
theorem rxTurn {n b k : Int} (hn : I64 n) (hb : I64 b) (hk : I64 k) {s : List Ob} {Q : AV → List Ob → Prop} (hq : ∀ v, v = turnI n b k → Q (.int .i64 v) s) : AC Try.prog 29 [.int .i64 n, .int .i64 b, .int .i64 k] s Q := by
  refine AC_pure rfl ?_
  refine AC_body tok 0 Try.func29 rfl (by kernel_rfl) ?_
  conv => whnf
  generalize hB : decide ((_ : Int) < 0) = bB
  replace hB : decide (n < 0) = bB := hB
  by_cases g1 : n < 0
  · rw [decide_eq_true g1] at hB; subst hB
    conv => whnf
    exact ⟨rfl, hq _ (by unfold turnI; rw [if_pos (.inl g1)])⟩
  rw [decide_eq_false g1] at hB; subst hB
  conv => whnf
  try (refine AW_draw tok hP ?_; conv => whnf)
  first | refine AQ_int (fun sK QK hK => rxPowers hb hk hK) (fun p hp => ?_) | refine rxPowers hb hk (fun p hp => ?_)
  conv => whnf
  try (refine And.intro (OkD.mk (by kernel_rfl)) ?_; conv => whnf)
  generalize hB : ((_ : Int) == 0) = bB
  replace hB : (p == 0) = bB := hB
  by_cases g2 : p = 0
  · rw [beq_iff_eq.2 g2] at hB; subst hB
    conv => whnf
    exact ⟨rfl, hq _ (by unfold turnI; rw [if_pos (.inr (by rw [← hp]; exact g2))])⟩
  rw [beq_eq_false_iff_ne.2 g2] at hB; subst hB
  conv => whnf
  refine AC_body tok 0 Try.func56 rfl (by kernel_rfl) ?_
  conv => whnf
  refine AW_range tok [false, false, true, true, true] (f := 61) (a := []) (b := [.ptr 4 0 0, .ptr 2 0 0, .ptr 3 0 0]) ⟨_, Try.func61, by kernel_rfl, by kernel_rfl⟩ rfl rfl rfl rfl (Nat.le_refl 5) rfl (fun l O hY => ?_)
  refine ACo_body tok 0 Try.func61 rfl (by kernel_rfl) ?_
  conv => whnf
  obtain ⟨b1, b2, k1, k2, pl, pe⟩ := PR.powI_ok (b := b) (k := k) (by rw [← hp]; exact g2)
  unfold I64 at *
  have hT : turnI n b k = turnR b k.toNat n := by unfold turnI; rw [if_neg (by rw [← hp]; omega)]
  refine ALs.inv (ι := Int × Int × Int) tok 0 [true, true, true, true, false, true, true] (fun (c, m, o) => 0 ≤ c ∧ c ≤ k ∧ (0 ≤ m ∧ m < 9223372036854775808) ∧ (0 ≤ o ∧ o < b ^ c.toNat) ∧ PR.rev b (k - c).toNat m o = turnR b k.toNat n) (fun (c, _) => (k - c).toNat)
    (fun (c, _) => [.yld l, .ptr 4 0 0, .ptr 2 0 0, .ptr 3 0 0, .junk, .int .i64 k, .int .i64 c] ++ junks 11) (fun (_, m, _) => [.dead, .dead, .cells 0 [.int .i64 m], .cells 0 [.int .i64 b], .cells 0 [.int .i64 k]])
    (fun (_, _, o) => ([.cells 0 [.int .i64 b], .cells 0 [.int .i64 o], .dead, .dead, .dead], none)) (0, n, 0) ⟨by omega, by omega, by omega, ⟨by omega, by show 0 < b ^ 0; rw [Int.pow_zero]; omega⟩, by show PR.rev b (k - 0).toNat n 0 = _; rw [Int.sub_zero, PR.rev_turn, Int.zero_mul, Int.zero_add]⟩ rfl rfl rfl ?_
  rintro ⟨c, m, o⟩ ⟨c0, c1, m01, o01, hr⟩
  replace c0 : 0 ≤ c := c0
  replace c1 : c ≤ k := c1
  replace m01 : 0 ≤ m ∧ m < 9223372036854775808 := m01
  replace o01 : 0 ≤ o ∧ o < b ^ c.toNat := o01
  replace hr : PR.rev b (k - c).toNat m o = turnR b k.toNat n := hr
  conv => whnf
  by_cases g : c < k
  · rw [decide_eq_true g]
    conv => whnf
    refine nzI (by omega) ?_
    conv => whnf
    have er : Z.rem .i64 m b = m % b := Int.tmod_eq_emod_of_nonneg m01.1
    have d0 := Int.emod_nonneg m (show b ≠ 0 by omega)
    have d1 := Int.emod_lt_of_pos m (show 0 < b by omega)
    have eqq : Z.quo .i64 m b = m / b := quo_pos (by omega) (by omega) (by omega)
    have q0 : 0 ≤ m / b := Int.ediv_nonneg m01.1 (by omega)
    have q1 : m / b ≤ m := Int.ediv_le_self _ m01.1
    have ec : Z.add .i64 c 1 = c + 1 := Z.wrap_iid (by omega) (by omega)
    have et : (c + 1).toNat = c.toNat + 1 := by omega
    have pm := PR.pow_mono (b := b) b1 (show c.toNat + 1 ≤ k.toNat by omega)
    rw [PR.pow_succ] at pm
    have ob : (o + 1) * b ≤ b ^ c.toNat * b := Int.mul_le_mul_of_nonneg_right (by omega) (by omega)
    rw [Int.add_mul, Int.one_mul] at ob
    have o0 : 0 ≤ o * b := Int.mul_nonneg o01.1 (by omega)
    rw [er]
    obtain ⟨d, hd⟩ : ∃ d, m % b = d := ⟨_, rfl⟩
    rw [hd] at d0 d1 ⊢
    refine hY.yield 0 ?_ rfl
    conv => whnf
    refine nzI (by omega) ?_
    conv => whnf
    have e1 : Z.mul .i64 o b = o * b := Z.wrap_iid (by omega) (by omega)
    have e2 : Z.add .i64 (o * b) d = o * b + d := Z.wrap_iid (by omega) (by omega)
    have er2 : PR.rev b (k - (c + 1)).toNat (m / b) (o * b + d) = turnR b k.toNat n := by
      rw [← hr, ← hd, show (k - c).toNat = (k - (c + 1)).toNat + 1 by omega]; rfl
    refine ⟨(Z.add .i64 c 1, Z.quo .i64 m b, Z.add .i64 (Z.mul .i64 o b) d), rfl, rfl, rfl, ?_⟩
    show (k - Z.add .i64 c 1).toNat < (k - c).toNat ∧ 0 ≤ Z.add .i64 c 1 ∧ Z.add .i64 c 1 ≤ k ∧ (0 ≤ Z.quo .i64 m b ∧ Z.quo .i64 m b < 9223372036854775808) ∧ (0 ≤ Z.add .i64 (Z.mul .i64 o b) d ∧ Z.add .i64 (Z.mul .i64 o b) d < b ^ (Z.add .i64 c 1).toNat) ∧ PR.rev b (k - Z.add .i64 c 1).toNat (Z.quo .i64 m b) (Z.add .i64 (Z.mul .i64 o b) d) = turnR b k.toNat n
    rw [ec, eqq, e1, e2, et, PR.pow_succ]
    exact ⟨by omega, by omega, by omega, by omega, by omega, er2⟩
  · rw [decide_eq_false g]
    conv => whnf
    refine AWs.go tok 0 ?_
    conv => whnf
    obtain rfl : c = k := by omega
    rw [Int.sub_self] at hr
    exact ⟨rfl, hq _ (by rw [hT]; exact hr)⟩
theorem rrTurn (b : Int) (hb : I64 b) : ∀ (K : Nat) (k n : Int), K = k.toNat → I64 k → I64 n → ∀ {s : List Ob} {Q : AV → List Ob → Prop}, (∀ v, v = turnI n b k → Q (.int .i64 v) s) → AC Try.prog 30 [.int .i64 n, .int .i64 b, .int .i64 k] s Q := by
  intro K
  induction K with
  | zero =>
    intro k n hK hk hn s Q hq
    refine AC_pure rfl ?_
    refine AC_body tok 0 Try.func30 rfl (by kernel_rfl) ?_
    conv => whnf
    try (refine AW_draw tok hP ?_; conv => whnf)
    first | refine AQ_int (fun sK QK hK => rrPowers hb hk hK) (fun p hp => ?_) | refine rrPowers hb hk (fun p hp => ?_)
    conv => whnf
    try (refine And.intro (OkD.mk (by kernel_rfl)) ?_; conv => whnf)
    generalize hB : ((_ : Int) == 0) = bB
    replace hB : (p == 0) = bB := hB
    by_cases g1 : p = 0
    · rw [beq_iff_eq.2 g1] at hB; subst hB
      conv => whnf
      exact ⟨rfl, hq _ (by unfold turnI; rw [if_pos (.inr (by rw [← hp]; exact g1))])⟩
    rw [beq_eq_false_iff_ne.2 g1] at hB; subst hB
    conv => whnf
    obtain ⟨b1, b2, k1, k2, pl, pe⟩ := PR.powI_ok (b := b) (k := k) (by rw [← hp]; exact g1)
    generalize hB : decide ((_ : Int) < 0) = bB
    replace hB : decide (n < 0) = bB := hB
    by_cases g2 : n < 0
    · rw [decide_eq_true g2] at hB; subst hB
      conv => whnf
      exact ⟨rfl, hq _ (by unfold turnI; rw [if_pos (.inl g2)])⟩
    rw [decide_eq_false g2] at hB; subst hB
    conv => whnf
    have hT : turnI n b k = turnR b k.toNat n := by unfold turnI; rw [if_neg (by rw [← hp]; omega)]
    obtain rfl : k = 0 := by omega
    conv => whnf
    exact ⟨rfl, hq _ (by rw [hT]; rfl)⟩
  | succ K ih =>
    intro k n hK hk hn s Q hq
    refine AC_pure rfl ?_
    refine AC_body tok 0 Try.func30 rfl (by kernel_rfl) ?_
    conv => whnf
    try (refine AW_draw tok hP ?_; conv => whnf)
    first | refine AQ_int (fun sK QK hK => rrPowers hb hk hK) (fun p hp => ?_) | refine rrPowers hb hk (fun p hp => ?_)
    conv => whnf
    try (refine And.intro (OkD.mk (by kernel_rfl)) ?_; conv => whnf)
    generalize hB : ((_ : Int) == 0) = bB
    replace hB : (p == 0) = bB := hB
    by_cases g1 : p = 0
    · rw [beq_iff_eq.2 g1] at hB; subst hB
      conv => whnf
      exact ⟨rfl, hq _ (by unfold turnI; rw [if_pos (.inr (by rw [← hp]; exact g1))])⟩
    rw [beq_eq_false_iff_ne.2 g1] at hB; subst hB
    conv => whnf
    obtain ⟨b1, b2, k1, k2, pl, pe⟩ := PR.powI_ok (b := b) (k := k) (by rw [← hp]; exact g1)
    generalize hB : decide ((_ : Int) < 0) = bB
    replace hB : decide (n < 0) = bB := hB
    by_cases g2 : n < 0
    · rw [decide_eq_true g2] at hB; subst hB
      conv => whnf
      exact ⟨rfl, hq _ (by unfold turnI; rw [if_pos (.inl g2)])⟩
    rw [decide_eq_false g2] at hB; subst hB
    conv => whnf
    have hT : turnI n b k = turnR b k.toNat n := by unfold turnI; rw [if_neg (by rw [← hp]; omega)]
    rw [show (k == 0) = false by rw [beq_eq_false_iff_ne]; omega]
    conv => whnf
    obtain ⟨p1, p2, p3, p4, p5⟩ := PR.powI_pred (b := b) (k := k) (by rw [← hp]; exact g1) (by omega)
    unfold I64 at hb hk hn
    have pq : 0 ≤ b ^ (k - 1).toNat * b := Int.mul_nonneg (by omega) (by omega)
    have pr : b ^ (k - 1).toNat * 1 ≤ b ^ (k - 1).toNat * b := Int.mul_le_mul_of_nonneg_left (by omega) (by omega)
    rw [Int.mul_one] at pr
    have er : Z.rem .i64 n b = n % b := Int.tmod_eq_emod_of_nonneg (by omega)
    have d0 := Int.emod_nonneg n (show b ≠ 0 by omega)
    have d1 := Int.emod_lt_of_pos n (show 0 < b by omega)
    have e1 : Z.quo .i64 p b = b ^ (k - 1).toNat := by rw [quo_pos (by omega) (by omega) (by omega), hp, p3]; exact Int.mul_ediv_cancel _ (by omega)
    have e2 : Z.quo .i64 n b = n / b := quo_pos (by omega) (by omega) (by omega)
    have q0 : 0 ≤ n / b := Int.ediv_nonneg (by omega) (by omega)
    have q1 : n / b ≤ n := Int.ediv_le_self _ (by omega)
    have e3 : Z.sub .i64 k 1 = k - 1 := Z.wrap_iid (by omega) (by omega)
    have m0 := Int.mul_nonneg d0 (Int.le_of_lt p5)
    have m1 := Int.mul_le_mul_of_nonneg_right (show n % b ≤ b by omega) (Int.le_of_lt p5)
    rw [Int.mul_comm b] at m1
    have e4 : Z.mul .i64 (n % b) (b ^ (k - 1).toNat) = n % b * b ^ (k - 1).toNat := Z.wrap_iid (by omega) (by omega)
    have tb := PR.turn_b b1 (k - 1).toNat (n / b)
    try (refine AW_draw tok hP ?_; conv => whnf)
    refine nzI (by omega) ?_
    conv => whnf
    refine nzI (by omega) ?_
    conv => whnf
    refine nzI (by omega) ?_
    conv => whnf
    rw [e2, e3]
    try (refine AW_draw tok hP ?_; conv => whnf)
    first | refine AQ_int (fun sK QK hK => ih (k - 1) (n / b) (by omega) (by unfold I64; omega) (by unfold I64; omega) hK) (fun v hv => ?_) | refine ih (k - 1) (n / b) (by omega) (by unfold I64; omega) (by unfold I64; omega) (fun v hv => ?_)
    conv => whnf
    try (refine And.intro (OkD.mk (by kernel_rfl)) ?_; conv => whnf)
    unfold turnI at hv
    rw [if_neg (by omega)] at hv
    rw [er, e1, e4, show Z.add .i64 (n % b * b ^ (k - 1).toNat) v = n % b * b ^ (k - 1).toNat + v from Z.wrap_iid (by rw [hv]; omega) (by rw [hv]; omega)]
    refine ⟨rfl, hq _ ?_⟩
    rw [hT, hv, show k.toNat = (k - 1).toNat + 1 by omega]; rfl
