/- Part of the proof of a law of the seat: its functions, walked. No condition. -/
import Derived.Test.YtoeafkgnhebbjaaA4Num
namespace Go.AW.A4
open Go Go.AW Go.Proofs
set_option maxRecDepth 100000
set_option linter.unusedVariables false
theorem awake01 {s : List Ob} {Q : AV → List Ob → Prop} (h : Q (.bool true) s) : AC Try.prog 11 [] s Q := by
  refine AC_pure rfl ?_
  refine AC_body tok 0 Try.func11 rfl (by kernel_rfl) ?_
  conv => whnf
  refine numPart (by omega) (by omega) (by omega) (by omega) (by omega) (by omega) (fun v ok hv hok => ?_)
  obtain rfl : v = 20 := hv.trans (by decide +kernel)
  obtain rfl : ok = true := hok.trans (by decide +kernel)
  conv => whnf
  refine numDiv (by omega) (by omega) (fun v hv => ?_)
  obtain rfl : v = -4 := hv.trans (by decide +kernel)
  conv => whnf
  refine numMod (by omega) (by omega) (by omega) (fun v hv => ?_)
  obtain rfl : v = 1 := hv.trans (by decide +kernel)
  conv => whnf
  refine numRoot (by omega) (by omega) (fun v hv => ?_)
  obtain rfl : v = 4 := hv.trans (by decide +kernel)
  conv => whnf
  refine numHold (fun v hv => ?_)
  obtain rfl : v = 3 := hv.trans (by decide +kernel)
  conv => whnf
  exact ⟨rfl, h⟩
theorem lawNumTells {a b c x y z : Int} (ha : -9223372036854775808 ≤ a) (ha' : a < 9223372036854775808) (hb : -9223372036854775808 ≤ b) (hb' : b < 9223372036854775808) (x0 : 0 ≤ x) (x1 : x < 18446744073709551616) (y0 : 0 ≤ y) (y1 : y < 18446744073709551616) (z0 : 0 ≤ z) (z1 : z < 18446744073709551616) :
    AC Try.prog 4 [.int .i64 a, .int .i64 b, .int .i64 c, .int .u64 x, .int .u64 y, .int .u64 z] [] fun r _ => r = .bool true := by
  refine AC_body tok 0 Try.func4 rfl (by kernel_rfl) ?_
  conv => whnf
  refine numPart x0 x1 y0 y1 z0 z1 (fun p sp hp hs => ?_)
  conv => whnf
  refine refPart x0 x1 y0 y1 z0 z1 (fun q sq hq ht => ?_)
  obtain rfl : q = p := hq.trans hp.symm
  obtain rfl : sq = sp := ht.trans hs.symm
  conv => whnf
  refine numDiv ha ha' (fun v hv => ?_)
  conv => whnf
  refine refDiv ha ha' (fun w hw => ?_)
  obtain rfl : w = v := hw.trans hv.symm
  conv => whnf
  rw [beq_self_eq_true]
  conv => whnf
  refine numMod ha ha' hb' (fun v hv => ?_)
  conv => whnf
  refine refMod ha ha' hb' (fun w hw => ?_)
  obtain rfl : w = v := hw.trans hv.symm
  conv => whnf
  rw [beq_self_eq_true]
  conv => whnf
  refine numHold (fun v hv => ?_)
  conv => whnf
  refine refHold (fun w hw => ?_)
  obtain rfl : w = v := hw.trans hv.symm
  conv => whnf
  rw [beq_self_eq_true]
  conv => whnf
  refine numPlus ha ha' hb hb' (fun v hv => ?_)
  conv => whnf
  refine refPlus ha ha' hb hb' (fun w hw => ?_)
  obtain rfl : w = v := hw.trans hv.symm
  conv => whnf
  rw [beq_self_eq_true]
  conv => whnf
  refine numTimes ha ha' hb hb' (fun v hv => ?_)
  conv => whnf
  refine refTimes ha ha' hb hb' (fun w hw => ?_)
  obtain rfl : w = v := hw.trans hv.symm
  conv => whnf
  rw [beq_self_eq_true]
  conv => whnf
  refine numRoot x0 x1 (fun v hv => ?_)
  conv => whnf
  refine refRoot x0 x1 (fun w hw => ?_)
  obtain rfl : w = v := hw.trans hv.symm
  conv => whnf
  rw [beq_self_eq_true]
  conv => whnf
  rw [beq_self_eq_true]
  conv => whnf
  rw [beq_self_eq_true sq]
  conv => whnf
  exact awake01 rfl
theorem lawNumRoot {n a b c : Int} (n0 : 0 ≤ n) (n1 : n < 18446744073709551616) (a0 : 0 ≤ a) (a1 : a < 4294967296) (b0 : 0 ≤ b) (b1 : b < 4294967296) (c0 : 0 ≤ c) (c1 : c < 4294967296) :
    AC Try.prog 3 [.int .u64 n, .int .u32 a, .int .u32 b, .int .u32 c] [] fun r _ => r = .bool true := by
  refine AC_body tok 0 Try.func3 rfl (by kernel_rfl) ?_
  conv => whnf
  refine numRoot n0 n1 (fun v hv => ?_)
  conv => whnf
  have R := PN.root_I n0 n1
  have v0 := R.pos
  have v1 := R.hi 4294967296 (by omega) (by omega)
  rw [← hv] at R v0 v1
  have m0 : 0 ≤ v * v := Int.mul_nonneg v0 v0
  have m1 := R.le
  have m2 := R.lt
  rw [decide_eq_false (show ¬ v < 0 by omega)]
  conv => whnf
  rw [decide_eq_false (show ¬ v > 4294967295 by omega)]
  conv => whnf
  have e1 : IntKind.u64.wrap v = v := Z.wrap_uid v0 (by omega)
  have e2 : Z.mul .u64 v v = v * v := Z.wrap_uid m0 (by omega)
  rw [e1, e2, decide_eq_false (show ¬ v * v > n by omega)]
  conv => whnf
  by_cases k : v < 4294967295
  case' pos =>
    rw [decide_eq_true k]
    conv => whnf
    have e3 : Z.mul .u64 (Z.add .u64 v 1) (Z.add .u64 v 1) = (v + 1) * (v + 1) := by
      have a1 : Z.add .u64 v 1 = v + 1 := Z.wrap_uid (by omega) (by omega)
      rw [a1]
      have a2 : (v + 1) * (v + 1) ≤ 4294967295 * 4294967295 := Int.mul_le_mul (by omega) (by omega) (by omega) (by omega)
      exact Z.wrap_uid (Int.mul_nonneg (by omega) (by omega)) (by omega)
    rw [e3, decide_eq_false (show ¬ (v + 1) * (v + 1) ≤ n by omega)]
    conv => whnf
  case' neg =>
    rw [decide_eq_false k]
    conv => whnf
  all_goals
    rw [show IntKind.u64.wrap a = a from Z.wrap_uid a0 (by omega), show IntKind.u64.wrap b = b from Z.wrap_uid b0 (by omega), show IntKind.u64.wrap c = c from Z.wrap_uid c0 (by omega)]
    generalize hd : mmI true 1 c = d
    have d1 : 1 ≤ d ∧ d < 4294967296 := by have := mx_spec 1 c; omega
    have p0 : 0 ≤ a * b := Int.mul_nonneg a0 b0
    have p1 : a * b ≤ 4294967295 * 4294967295 := Int.mul_le_mul (by omega) (by omega) (by omega) (by omega)
    refine numPart a0 (by omega) b0 (by omega) (by omega) (by omega) (fun q ok hq hok => ?_)
    have hlt : a * b < d * 18446744073709551616 := by omega
    obtain rfl : ok = true := hok.trans (decide_eq_true hlt)
    obtain rfl : q = a * b / d := hq.trans (if_pos hlt)
    have em : Z.mul .u64 (IntKind.u64.wrap a) (IntKind.u64.wrap b) = a * b := by rw [show IntKind.u64.wrap a = a from Z.wrap_uid a0 (by omega), show IntKind.u64.wrap b = b from Z.wrap_uid b0 (by omega)]; exact Z.wrap_uid p0 (by omega)
    have q0 := Int.emod_add_mul_ediv (a * b) d
    have q1 := Int.emod_nonneg (a * b) (show d ≠ 0 by omega)
    have q2 := Int.emod_lt_of_pos (a * b) (show 0 < d by omega)
    have q3 : 0 ≤ a * b / d := Int.ediv_nonneg p0 (by omega)
    have q4 : a * b / d ≤ a * b := Int.ediv_le_self _ p0
    have q5 : a * b / d * d ≤ a * b := Int.ediv_mul_le _ (by omega)
    have q6 : 0 ≤ a * b / d * d := Int.mul_nonneg q3 (by omega)
    rw [Int.mul_comm d] at q0
    conv => whnf
    rw [em]
    refine andI (by simp; omega) ?_
    conv => whnf
    have eq : Z.quo .u64 (a * b) d = a * b / d := by unfold Z.quo; rw [Int.tdiv_eq_ediv_of_nonneg p0]; exact Z.wrap_uid q3 (by omega)
    rw [eq, decide_eq_true (Int.le_refl _)]
    conv => whnf
    have e4 : Z.sub .u64 (a * b) (Z.mul .u64 (a * b / d) d) = a * b - a * b / d * d := by
      have a1 : Z.mul .u64 (a * b / d) d = a * b / d * d := Z.wrap_uid q6 (by omega)
      rw [a1]; exact Z.wrap_uid (by omega) (by omega)
    rw [e4, decide_eq_true (show a * b - a * b / d * d < d by omega)]
    conv => whnf
    exact awake01 rfl
theorem lawNumBack {a b c : Int} (ha : -9223372036854775808 ≤ a) (ha' : a < 9223372036854775808) (hb : -9223372036854775808 ≤ b) (hb' : b < 9223372036854775808) (hc : -9223372036854775808 ≤ c) (hc' : c < 9223372036854775808) :
    AC Try.prog 5 [.int .i64 a, .int .i64 b, .int .i64 c] [] fun r _ => r = .bool true := by
  refine AC_body tok 0 Try.func5 rfl (by kernel_rfl) ?_
  conv => whnf
  refine numPlus ha ha' hb hb' (fun v hv => ?_)
  conv => whnf
  refine numPlus hb hb' ha ha' (fun w hw => ?_)
  obtain rfl : w = v := by rw [hw, hv]; unfold plusI; rw [Int.add_comm]
  conv => whnf
  rw [bne_s]
  conv => whnf
  refine numTimes ha ha' hb hb' (fun t1 ht1 => ?_)
  conv => whnf
  refine numTimes hb hb' ha ha' (fun t2 ht2 => ?_)
  obtain rfl : t2 = t1 := by rw [ht2, ht1]; unfold timesI; rw [Int.mul_comm]
  conv => whnf
  rw [bne_s]
  conv => whnf
  by_cases k : b ≤ c
  case' pos =>
    rw [decide_eq_true k]
    conv => whnf
    refine numPlus ha ha' hb hb' (fun p1 hp1 => ?_)
    conv => whnf
    refine numPlus ha ha' hc hc' (fun p2 hp2 => ?_)
    conv => whnf
    rw [decide_eq_false (show ¬ p1 > p2 by rw [hp1, hp2]; unfold plusI; split <;> split <;> (try split) <;> (try split) <;> omega)]
    conv => whnf
  case' neg =>
    rw [decide_eq_false k]
    conv => whnf
  all_goals
    refine ifP (fun b1 => ?_) (fun b1 => ?_)
    · conv => whnf
      refine numDiv ha ha' (fun q hq => ?_)
      obtain rfl : q = 0 := by rw [hq]; unfold divI; rw [if_pos b1]
      conv => whnf
      refine numMod ha ha' hb' (fun r hr => ?_)
      obtain rfl : r = 0 := by rw [hr]; unfold modI; rw [if_pos b1]
      conv => whnf
      exact awake01 rfl
    · have b1 : ¬ b < 1 := b1
      conv => whnf
      refine numDiv ha ha' (fun q hq => ?_)
      obtain rfl : q = a / b := by rw [hq]; unfold divI; rw [if_neg b1]
      conv => whnf
      refine numMod ha ha' hb' (fun r hr => ?_)
      obtain rfl : r = a % b := by rw [hr]; unfold modI; rw [if_neg b1]
      have r0 := Int.emod_nonneg a (show b ≠ 0 by omega)
      have r1 := Int.emod_lt_of_pos a (show 0 < b by omega)
      have r2 := Int.emod_add_mul_ediv a b
      rw [Int.mul_comm b] at r2
      conv => whnf
      rw [decide_eq_true (show a % b ≥ 0 from r0)]
      conv => whnf
      rw [decide_eq_true r1]
      conv => whnf
      have e : Z.add .i64 (Z.mul .i64 (a / b) b) (a % b) = a := by
        unfold Z.add Z.mul
        simp only [IntKind.wrap_i64]; omega
      rw [e, beq_self_eq_true a]
      conv => whnf
      have e2 : decide (a / b < 0) = decide (a < 0) := by
        rw [decide_eq_decide]
        constructor
        · intro h
          have := Int.mul_le_mul_of_nonneg_right (show a / b ≤ -1 by omega) (show 0 ≤ b by omega)
          omega
        · intro h; exact Int.ediv_neg_of_neg_of_pos h (by omega)
      rw [e2, beq_self_eq_true (decide (a < 0))]
      conv => whnf
      exact awake01 rfl
end Go.AW.A4
