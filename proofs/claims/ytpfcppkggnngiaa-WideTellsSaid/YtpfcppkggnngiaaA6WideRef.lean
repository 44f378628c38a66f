/- Part of the proof of a law of the seat: its functions, walked. No condition. -/
import Derived.Test.YtpfcppkggnngiaaA6Wide
namespace Go.AW.A6
open Go Go.AW Go.Proofs
set_option maxRecDepth 100000
set_option linter.unusedVariables false
theorem rwOf {n : Int} (hn : I64 n) {s : List Ob} {Q : AV → List Ob → Prop} (h : Q (WA n) s) : AC Try.prog 20 [.int .i64 n] s Q := by
  refine AC_pure rfl ?_
  refine AC_body tok 3 Try.func20 rfl (by kernel_rfl) ?_
  conv => whnf
  unfold I64 at hn
  refine ifP (fun g => ?_) (fun g => ?_)
  · conv => whnf
    refine ⟨rfl, Qeq ?_ h⟩
    unfold WA
    rw [Z.wrap_u, show whi n = -1 by unfold whi; omega]; rfl
  · conv => whnf
    refine ⟨rfl, Qeq ?_ h⟩
    unfold WA
    rw [Z.wrap_u, show whi n = 0 by unfold whi; omega]; rfl
theorem rwDigits {x : Int} (hx : I128 x) {s : List Ob} {Q : AV → List Ob → Prop} (hq : Q (.agg [.int .i64 (PW.dg x 1), .int .i64 (PW.dg x 65536), .int .i64 (PW.dg x 4294967296), .int .i64 (PW.dg x 281474976710656), .int .i64 (PW.dg x 18446744073709551616), .int .i64 (PW.dg x 1208925819614629174706176), .int .i64 (PW.dg x 79228162514264337593543950336), .int .i64 (PW.dg x 5192296858534827628530496329220096)]) s) : AC Try.prog 54 [WA x] s Q := by
  refine AC_pure rfl ?_
  refine AC_body tok 9 Try.func54 rfl (by kernel_rfl) ?_
  conv => whnf
  repeat' first
    | (refine AW_draw tok hP ?_; conv => whnf)
    | (refine And.intro (OkD.mk (by kernel_rfl)) ?_; conv => whnf)
    | fail
  have q : ∀ a, U64 a → Z.quo .u64 a 65536 = a / 65536 ∧ U64 (a / 65536) := by
    intro a ha
    unfold U64 at *
    refine ⟨?_, by omega⟩
    unfold Z.quo
    rw [Int.tdiv_eq_ediv_of_nonneg (by omega)]
    exact Z.wrap_uid (by omega) (by omega)
  have r : ∀ a, U64 a → IntKind.i64.wrap (Z.rem .u64 a 65536) = a % 65536 := by
    intro a ha
    unfold U64 at *
    unfold Z.rem
    rw [Int.tmod_eq_emod_of_nonneg (by omega)]
    exact Z.wrap_iid (by omega) (by omega)
  have two : ∀ a, U64 a → Z.quo .u64 (Z.quo .u64 a 65536) 65536 = a / 65536 / 65536 := fun a ha => by rw [(q a ha).1, (q _ (q a ha).2).1]
  have hl := PW.lo_u x
  have hh := PW.hi_i hx
  generalize el : wlo x = l at *
  generalize eh : whi x = h at *
  have hw : U64 (IntKind.u64.wrap h) := ⟨Z.wrap_u_lo h, Z.wrap_u_hi h⟩
  have a1 := q l hl; have a2 := q _ a1.2; have a3 := q _ a2.2
  have b1 := q _ hw; have b2 := q _ b1.2; have b3 := q _ b2.2
  rw [a1.1, a2.1, a3.1, b1.1, b2.1, b3.1, r l hl, r _ a1.2, r _ a2.2, r _ a3.2, r _ hw, r _ b1.2, r _ b2.2, r _ b3.2]
  refine ⟨rfl, Qeq ?_ hq⟩
  rw [Z.wrap_u]
  unfold PW.dg
  subst el eh
  unfold whi wlo
  unfold I128 at hx
  simp only [AV.agg.injEq, List.cons.injEq, AV.int.injEq, true_and, and_true]
  refine ⟨?_, ?_, ?_, ?_, ?_, ?_, ?_, ?_⟩ <;> omega
theorem rwNumber {d0 d1 d2 d3 d4 d5 d6 d7 : Int} (h0 : 0 ≤ d0 ∧ d0 < 1125899906842624) (h1 : 0 ≤ d1 ∧ d1 < 1125899906842624) (h2 : 0 ≤ d2 ∧ d2 < 1125899906842624) (h3 : 0 ≤ d3 ∧ d3 < 1125899906842624) (h4 : 0 ≤ d4 ∧ d4 < 1125899906842624) (h5 : 0 ≤ d5 ∧ d5 < 1125899906842624) (h6 : 0 ≤ d6 ∧ d6 < 1125899906842624) (h7 : 0 ≤ d7 ∧ d7 < 1125899906842624) {s : List Ob} {Q : AV → List Ob → Prop} (hq : Q (WA (w128 (PW.dig d0 d1 d2 d3 d4 d5 d6 d7))) s) : AC Try.prog 55 [.agg [.int .i64 d0, .int .i64 d1, .int .i64 d2, .int .i64 d3, .int .i64 d4, .int .i64 d5, .int .i64 d6, .int .i64 d7]] s Q := by
  refine AC_pure rfl ?_
  refine AC_body tok 9 Try.func55 rfl (by kernel_rfl) ?_
  conv => whnf
  repeat' first
    | (refine AW_draw tok hP ?_; conv => whnf)
    | (refine And.intro (OkD.mk (by kernel_rfl)) ?_; conv => whnf)
    | fail
  have qr : ∀ n : Int, 0 ≤ n ∧ n < 2251799813685248 → ∃ c r, Z.quo .i64 n 65536 = c ∧ IntKind.u64.wrap (Z.rem .i64 n 65536) = r ∧ n = 65536 * c + r ∧ (0 ≤ r ∧ r < 65536) ∧ (0 ≤ c ∧ c < 34359738368) := by
    intro n hn
    refine ⟨n / 65536, n % 65536, quo_pos (by omega) (by omega) (by omega), ?_, by omega, by omega, by omega⟩
    unfold Z.rem
    rw [Int.tmod_eq_emod_of_nonneg (by omega)]
    exact Z.wrap_uid (by omega) (by omega)
  have ad : ∀ a b : Int, 0 ≤ a ∧ a < 1125899906842624 → 0 ≤ b ∧ b < 34359738368 → Z.add .i64 a b = a + b ∧ 0 ≤ a + b ∧ a + b < 2251799813685248 := fun a b ha hb => ⟨Z.wrap_iid (by omega) (by omega), by omega, by omega⟩
  have t0 := ad d0 0 h0 (by omega)
  rw [t0.1]
  obtain ⟨c0, r0, ec0, er0, en0, rb0, cb0⟩ := qr _ t0.2
  rw [ec0, er0]
  have t1 := ad d1 c0 h1 cb0
  rw [t1.1]
  obtain ⟨c1, r1, ec1, er1, en1, rb1, cb1⟩ := qr _ t1.2
  rw [ec1, er1]
  have t2 := ad d2 c1 h2 cb1
  rw [t2.1]
  obtain ⟨c2, r2, ec2, er2, en2, rb2, cb2⟩ := qr _ t2.2
  rw [ec2, er2]
  have t3 := ad d3 c2 h3 cb2
  rw [t3.1]
  obtain ⟨c3, r3, ec3, er3, en3, rb3, cb3⟩ := qr _ t3.2
  rw [ec3, er3]
  have t4 := ad d4 c3 h4 cb3
  rw [t4.1]
  obtain ⟨c4, r4, ec4, er4, en4, rb4, cb4⟩ := qr _ t4.2
  rw [ec4, er4]
  have t5 := ad d5 c4 h5 cb4
  rw [t5.1]
  obtain ⟨c5, r5, ec5, er5, en5, rb5, cb5⟩ := qr _ t5.2
  rw [ec5, er5]
  have t6 := ad d6 c5 h6 cb5
  rw [t6.1]
  obtain ⟨c6, r6, ec6, er6, en6, rb6, cb6⟩ := qr _ t6.2
  rw [ec6, er6]
  have t7 := ad d7 c6 h7 cb6
  rw [t7.1]
  obtain ⟨c7, r7, ec7, er7, en7, rb7, cb7⟩ := qr _ t7.2
  rw [er7]
  refine ⟨rfl, Qeq ?_ hq⟩
  have s0 : ∀ r, Z.shl .u64 r 0 = r % 18446744073709551616 := fun r => by unfold Z.shl; rw [Z.wrap_u, show min (0 : Int).toNat IntKind.u64.bits = 0 from rfl, Int.pow_zero, Int.mul_one]
  have s1 : ∀ r, Z.shl .u64 r 16 = (r * 65536) % 18446744073709551616 := fun r => by unfold Z.shl; rw [Z.wrap_u, show min (16 : Int).toNat IntKind.u64.bits = 16 from rfl]; rfl
  have s2 : ∀ r, Z.shl .u64 r 32 = (r * 4294967296) % 18446744073709551616 := fun r => by unfold Z.shl; rw [Z.wrap_u, show min (32 : Int).toNat IntKind.u64.bits = 32 from rfl]; rfl
  have s3 : ∀ r, Z.shl .u64 r 48 = (r * 281474976710656) % 18446744073709551616 := fun r => by unfold Z.shl; rw [Z.wrap_u, show min (48 : Int).toNat IntKind.u64.bits = 48 from rfl]; rfl
  show AV.agg [.int .i64 (IntKind.i64.wrap (Z.add .u64 (Z.add .u64 (Z.add .u64 (Z.add .u64 0 (Z.shl .u64 r4 0)) (Z.shl .u64 r5 16)) (Z.shl .u64 r6 32)) (Z.shl .u64 r7 48))), .int .u64 (Z.add .u64 (Z.add .u64 (Z.add .u64 (Z.add .u64 0 (Z.shl .u64 r0 0)) (Z.shl .u64 r1 16)) (Z.shl .u64 r2 32)) (Z.shl .u64 r3 48))] = WA (w128 (PW.dig d0 d1 d2 d3 d4 d5 d6 d7))
  rw [s0, s1, s2, s3, s0, s1, s2, s3]
  unfold WA
  have f1 : ∀ a b c d : Int, (0 ≤ a ∧ a < 65536) → (0 ≤ b ∧ b < 65536) → (0 ≤ c ∧ c < 65536) → (0 ≤ d ∧ d < 65536) → Z.add .u64 (Z.add .u64 (Z.add .u64 (Z.add .u64 0 (a % 18446744073709551616)) (b * 65536 % 18446744073709551616)) (c * 4294967296 % 18446744073709551616)) (d * 281474976710656 % 18446744073709551616) = a + b * 65536 + c * 4294967296 + d * 281474976710656 := by
    intro a b c d ha hb hc hd
    simp only [Z.add, Z.wrap_u]
    omega
  rw [f1 r4 r5 r6 r7 rb4 rb5 rb6 rb7, f1 r0 r1 r2 r3 rb0 rb1 rb2 rb3]
  have ed : PW.dig d0 d1 d2 d3 d4 d5 d6 d7 = (r0 + r1 * 65536 + r2 * 4294967296 + r3 * 281474976710656) + 18446744073709551616 * (r4 + r5 * 65536 + r6 * 4294967296 + r7 * 281474976710656) + 340282366920938463463374607431768211456 * c7 := by
    unfold PW.dig; omega
  rw [ed, IntKind.wrap_i64]
  congr 2
  · unfold whi w128; congr 1; omega
  · congr 2; unfold wlo w128; omega
theorem rwAdd {x y : Int} (hx : I128 x) (hy : I128 y) {s : List Ob} {Q : AV → List Ob → Prop} (hq : Q (WA (w128 (x + y))) s) : AC Try.prog 23 [WA x, WA y] s Q := by
  refine AC_pure rfl ?_
  refine AC_body tok 9 Try.func23 rfl (by kernel_rfl) ?_
  conv => whnf
  try (refine AW_draw tok hP ?_; conv => whnf)
  first | refine AQ_pure (fun sK QK hK => rwDigits hx hK) ?_ | refine rwDigits hx ?_
  conv => whnf
  try (refine And.intro (OkD.mk (by kernel_rfl)) ?_; conv => whnf)
  try (refine AW_draw tok hP ?_; conv => whnf)
  first | refine AQ_pure (fun sK QK hK => rwDigits hy hK) ?_ | refine rwDigits hy ?_
  conv => whnf
  try (refine And.intro (OkD.mk (by kernel_rfl)) ?_; conv => whnf)
  repeat' first
    | (refine AW_draw tok hP ?_; conv => whnf)
    | (refine And.intro (OkD.mk (by kernel_rfl)) ?_; conv => whnf)
    | fail
  have bA : ∀ K, 0 ≤ PW.dg x K + PW.dg y K ∧ PW.dg x K + PW.dg y K < 1125899906842624 := fun K => by have := PW.dg_b x K; have := PW.dg_b y K; omega
  rw [PW.dg_add x y 1, PW.dg_add x y 65536, PW.dg_add x y 4294967296, PW.dg_add x y 281474976710656, PW.dg_add x y 18446744073709551616, PW.dg_add x y 1208925819614629174706176, PW.dg_add x y 79228162514264337593543950336, PW.dg_add x y 5192296858534827628530496329220096]
  try (refine AW_draw tok hP ?_; conv => whnf)
  first | refine AQ_pure (fun sK QK hK => rwNumber (bA 1) (bA 65536) (bA 4294967296) (bA 281474976710656) (bA 18446744073709551616) (bA 1208925819614629174706176) (bA 79228162514264337593543950336) (bA 5192296858534827628530496329220096) hK) ?_ | refine rwNumber (bA 1) (bA 65536) (bA 4294967296) (bA 281474976710656) (bA 18446744073709551616) (bA 1208925819614629174706176) (bA 79228162514264337593543950336) (bA 5192296858534827628530496329220096) ?_
  conv => whnf
  try (refine And.intro (OkD.mk (by kernel_rfl)) ?_; conv => whnf)
  refine ⟨rfl, Qeq ?_ hq⟩
  rw [PW.dig_add, PW.dg_sum, PW.dg_sum, PW.w128_modl, Int.add_comm, PW.w128_modl, Int.add_comm]
theorem rwSub {x y : Int} (hx : I128 x) (hy : I128 y) {s : List Ob} {Q : AV → List Ob → Prop} (hq : Q (WA (w128 (x - y))) s) : AC Try.prog 24 [WA x, WA y] s Q := by
  refine AC_pure rfl ?_
  refine AC_body tok 9 Try.func24 rfl (by kernel_rfl) ?_
  conv => whnf
  try (refine AW_draw tok hP ?_; conv => whnf)
  first | refine AQ_pure (fun sK QK hK => rwDigits hx hK) ?_ | refine rwDigits hx ?_
  conv => whnf
  try (refine And.intro (OkD.mk (by kernel_rfl)) ?_; conv => whnf)
  try (refine AW_draw tok hP ?_; conv => whnf)
  first | refine AQ_pure (fun sK QK hK => rwDigits hy hK) ?_ | refine rwDigits hy ?_
  conv => whnf
  try (refine And.intro (OkD.mk (by kernel_rfl)) ?_; conv => whnf)
  repeat' first
    | (refine AW_draw tok hP ?_; conv => whnf)
    | (refine And.intro (OkD.mk (by kernel_rfl)) ?_; conv => whnf)
    | fail
  have bA : ∀ K, 0 ≤ PW.dg x K + 65535 - PW.dg y K ∧ PW.dg x K + 65535 - PW.dg y K < 1125899906842624 := fun K => by have := PW.dg_b x K; have := PW.dg_b y K; omega
  rw [PW.dg_sub x y 1, PW.dg_sub x y 65536, PW.dg_sub x y 4294967296, PW.dg_sub x y 281474976710656, PW.dg_sub x y 18446744073709551616, PW.dg_sub x y 1208925819614629174706176, PW.dg_sub x y 79228162514264337593543950336, PW.dg_sub x y 5192296858534827628530496329220096, show Z.add .i64 (PW.dg x 1 + 65535 - PW.dg y 1) 1 = PW.dg x 1 + 65535 - PW.dg y 1 + 1 from Z.wrap_iid (by have := PW.dg_b x 1; have := PW.dg_b y 1; omega) (by have := PW.dg_b x 1; have := PW.dg_b y 1; omega)]
  try (refine AW_draw tok hP ?_; conv => whnf)
  first | refine AQ_pure (fun sK QK hK => rwNumber (by have := PW.dg_b x 1; have := PW.dg_b y 1; omega) (bA 65536) (bA 4294967296) (bA 281474976710656) (bA 18446744073709551616) (bA 1208925819614629174706176) (bA 79228162514264337593543950336) (bA 5192296858534827628530496329220096) hK) ?_ | refine rwNumber (by have := PW.dg_b x 1; have := PW.dg_b y 1; omega) (bA 65536) (bA 4294967296) (bA 281474976710656) (bA 18446744073709551616) (bA 1208925819614629174706176) (bA 79228162514264337593543950336) (bA 5192296858534827628530496329220096) ?_
  conv => whnf
  try (refine And.intro (OkD.mk (by kernel_rfl)) ?_; conv => whnf)
  refine ⟨rfl, Qeq ?_ hq⟩
  have e1 := PW.dg_sum x
  have e2 := PW.dg_sum y
  have e3 : PW.dig (PW.dg x 1 + 65535 - PW.dg y 1 + 1) (PW.dg x 65536 + 65535 - PW.dg y 65536) (PW.dg x 4294967296 + 65535 - PW.dg y 4294967296) (PW.dg x 281474976710656 + 65535 - PW.dg y 281474976710656) (PW.dg x 18446744073709551616 + 65535 - PW.dg y 18446744073709551616) (PW.dg x 1208925819614629174706176 + 65535 - PW.dg y 1208925819614629174706176) (PW.dg x 79228162514264337593543950336 + 65535 - PW.dg y 79228162514264337593543950336) (PW.dg x 5192296858534827628530496329220096 + 65535 - PW.dg y 5192296858534827628530496329220096) = x % 340282366920938463463374607431768211456 - y % 340282366920938463463374607431768211456 + 340282366920938463463374607431768211455 + 1 := by
    rw [← e1, ← e2]; unfold PW.dig; omega
  rw [e3, show w128 (x % 340282366920938463463374607431768211456 - y % 340282366920938463463374607431768211456 + 340282366920938463463374607431768211455 + 1) = w128 (x - y) from by unfold w128; omega]
theorem rwRow0 {x y : Int} {s : List Ob} {Q : AV → List Ob → Prop} (hq : Q (WA (w128 (1 * (PW.dg x 1 * y)))) s) : AC Try.prog 55 [.agg [.int .i64 (Z.mul .i64 (PW.dg x 1) (PW.dg y 1)), .int .i64 (Z.mul .i64 (PW.dg x 1) (PW.dg y 65536)), .int .i64 (Z.mul .i64 (PW.dg x 1) (PW.dg y 4294967296)), .int .i64 (Z.mul .i64 (PW.dg x 1) (PW.dg y 281474976710656)), .int .i64 (Z.mul .i64 (PW.dg x 1) (PW.dg y 18446744073709551616)), .int .i64 (Z.mul .i64 (PW.dg x 1) (PW.dg y 1208925819614629174706176)), .int .i64 (Z.mul .i64 (PW.dg x 1) (PW.dg y 79228162514264337593543950336)), .int .i64 (Z.mul .i64 (PW.dg x 1) (PW.dg y 5192296858534827628530496329220096))]] s Q := by
  obtain ⟨e0, b0⟩ := PW.dg_mul x y 1 1
  obtain ⟨e1, b1⟩ := PW.dg_mul x y 1 65536
  obtain ⟨e2, b2⟩ := PW.dg_mul x y 1 4294967296
  obtain ⟨e3, b3⟩ := PW.dg_mul x y 1 281474976710656
  obtain ⟨e4, b4⟩ := PW.dg_mul x y 1 18446744073709551616
  obtain ⟨e5, b5⟩ := PW.dg_mul x y 1 1208925819614629174706176
  obtain ⟨e6, b6⟩ := PW.dg_mul x y 1 79228162514264337593543950336
  obtain ⟨e7, b7⟩ := PW.dg_mul x y 1 5192296858534827628530496329220096
  rw [e0, e1, e2, e3, e4, e5, e6, e7]
  refine rwNumber (by omega) (by omega) (by omega) (by omega) (by omega) (by omega) (by omega) (by omega) (Qeq ?_ hq)
  congr 1
  have r0 := PW.row (PW.dg x 1) (PW.dg y 1) (PW.dg y 65536) (PW.dg y 4294967296) (PW.dg y 281474976710656) (PW.dg y 18446744073709551616) (PW.dg y 1208925819614629174706176) (PW.dg y 79228162514264337593543950336) (PW.dg y 5192296858534827628530496329220096)
  have r1 : PW.dg y 1 + 65536 * PW.dg y 65536 + 4294967296 * PW.dg y 4294967296 + 281474976710656 * PW.dg y 281474976710656 + 18446744073709551616 * PW.dg y 18446744073709551616 + 1208925819614629174706176 * PW.dg y 1208925819614629174706176 + 79228162514264337593543950336 * PW.dg y 79228162514264337593543950336 + 5192296858534827628530496329220096 * PW.dg y 5192296858534827628530496329220096 = y % 340282366920938463463374607431768211456 := PW.dg_sum y
  rw [r1] at r0
  have r2 : PW.dg x 1 * y = PW.dg x 1 * (y % 340282366920938463463374607431768211456) + 340282366920938463463374607431768211456 * (PW.dg x 1 * (y / 340282366920938463463374607431768211456)) := by
    rw [Int.mul_left_comm, ← Int.mul_add]; congr 1; omega
  rw [r2, r0]
  refine (PW.w128_mod (1 * (PW.dg x 1 * (y / 340282366920938463463374607431768211456))) ?_).symm
  unfold PW.dig
  generalize PW.dg x 1 * PW.dg y 1 = p0 at *
  generalize PW.dg x 1 * PW.dg y 65536 = p1 at *
  generalize PW.dg x 1 * PW.dg y 4294967296 = p2 at *
  generalize PW.dg x 1 * PW.dg y 281474976710656 = p3 at *
  generalize PW.dg x 1 * PW.dg y 18446744073709551616 = p4 at *
  generalize PW.dg x 1 * PW.dg y 1208925819614629174706176 = p5 at *
  generalize PW.dg x 1 * PW.dg y 79228162514264337593543950336 = p6 at *
  generalize PW.dg x 1 * PW.dg y 5192296858534827628530496329220096 = p7 at *
  generalize PW.dg x 1 * (y / 340282366920938463463374607431768211456) = p8 at *
  clear r0 r1 r2 b0 b1 b2 b3 b4 b5 b6 b7 e0 e1 e2 e3 e4 e5 e6 e7
  omega
theorem rwRow1 {x y : Int} {s : List Ob} {Q : AV → List Ob → Prop} (hq : Q (WA (w128 (65536 * (PW.dg x 65536 * y)))) s) : AC Try.prog 55 [.agg [.int .i64 0, .int .i64 (Z.mul .i64 (PW.dg x 65536) (PW.dg y 1)), .int .i64 (Z.mul .i64 (PW.dg x 65536) (PW.dg y 65536)), .int .i64 (Z.mul .i64 (PW.dg x 65536) (PW.dg y 4294967296)), .int .i64 (Z.mul .i64 (PW.dg x 65536) (PW.dg y 281474976710656)), .int .i64 (Z.mul .i64 (PW.dg x 65536) (PW.dg y 18446744073709551616)), .int .i64 (Z.mul .i64 (PW.dg x 65536) (PW.dg y 1208925819614629174706176)), .int .i64 (Z.mul .i64 (PW.dg x 65536) (PW.dg y 79228162514264337593543950336))]] s Q := by
  obtain ⟨e0, b0⟩ := PW.dg_mul x y 65536 1
  obtain ⟨e1, b1⟩ := PW.dg_mul x y 65536 65536
  obtain ⟨e2, b2⟩ := PW.dg_mul x y 65536 4294967296
  obtain ⟨e3, b3⟩ := PW.dg_mul x y 65536 281474976710656
  obtain ⟨e4, b4⟩ := PW.dg_mul x y 65536 18446744073709551616
  obtain ⟨e5, b5⟩ := PW.dg_mul x y 65536 1208925819614629174706176
  obtain ⟨e6, b6⟩ := PW.dg_mul x y 65536 79228162514264337593543950336
  obtain ⟨e7, b7⟩ := PW.dg_mul x y 65536 5192296858534827628530496329220096
  rw [e0, e1, e2, e3, e4, e5, e6]
  refine rwNumber (by omega) (by omega) (by omega) (by omega) (by omega) (by omega) (by omega) (by omega) (Qeq ?_ hq)
  congr 1
  have r0 := PW.row (PW.dg x 65536) (PW.dg y 1) (PW.dg y 65536) (PW.dg y 4294967296) (PW.dg y 281474976710656) (PW.dg y 18446744073709551616) (PW.dg y 1208925819614629174706176) (PW.dg y 79228162514264337593543950336) (PW.dg y 5192296858534827628530496329220096)
  have r1 : PW.dg y 1 + 65536 * PW.dg y 65536 + 4294967296 * PW.dg y 4294967296 + 281474976710656 * PW.dg y 281474976710656 + 18446744073709551616 * PW.dg y 18446744073709551616 + 1208925819614629174706176 * PW.dg y 1208925819614629174706176 + 79228162514264337593543950336 * PW.dg y 79228162514264337593543950336 + 5192296858534827628530496329220096 * PW.dg y 5192296858534827628530496329220096 = y % 340282366920938463463374607431768211456 := PW.dg_sum y
  rw [r1] at r0
  have r2 : PW.dg x 65536 * y = PW.dg x 65536 * (y % 340282366920938463463374607431768211456) + 340282366920938463463374607431768211456 * (PW.dg x 65536 * (y / 340282366920938463463374607431768211456)) := by
    rw [Int.mul_left_comm, ← Int.mul_add]; congr 1; omega
  rw [r2, r0]
  refine (PW.w128_mod (1 * (PW.dg x 65536 * PW.dg y 5192296858534827628530496329220096) + 65536 * (PW.dg x 65536 * (y / 340282366920938463463374607431768211456))) ?_).symm
  unfold PW.dig
  generalize PW.dg x 65536 * PW.dg y 1 = p0 at *
  generalize PW.dg x 65536 * PW.dg y 65536 = p1 at *
  generalize PW.dg x 65536 * PW.dg y 4294967296 = p2 at *
  generalize PW.dg x 65536 * PW.dg y 281474976710656 = p3 at *
  generalize PW.dg x 65536 * PW.dg y 18446744073709551616 = p4 at *
  generalize PW.dg x 65536 * PW.dg y 1208925819614629174706176 = p5 at *
  generalize PW.dg x 65536 * PW.dg y 79228162514264337593543950336 = p6 at *
  generalize PW.dg x 65536 * PW.dg y 5192296858534827628530496329220096 = p7 at *
  generalize PW.dg x 65536 * (y / 340282366920938463463374607431768211456) = p8 at *
  clear r0 r1 r2 b0 b1 b2 b3 b4 b5 b6 b7 e0 e1 e2 e3 e4 e5 e6 e7
  omega
theorem rwRow2 {x y : Int} {s : List Ob} {Q : AV → List Ob → Prop} (hq : Q (WA (w128 (4294967296 * (PW.dg x 4294967296 * y)))) s) : AC Try.prog 55 [.agg [.int .i64 0, .int .i64 0, .int .i64 (Z.mul .i64 (PW.dg x 4294967296) (PW.dg y 1)), .int .i64 (Z.mul .i64 (PW.dg x 4294967296) (PW.dg y 65536)), .int .i64 (Z.mul .i64 (PW.dg x 4294967296) (PW.dg y 4294967296)), .int .i64 (Z.mul .i64 (PW.dg x 4294967296) (PW.dg y 281474976710656)), .int .i64 (Z.mul .i64 (PW.dg x 4294967296) (PW.dg y 18446744073709551616)), .int .i64 (Z.mul .i64 (PW.dg x 4294967296) (PW.dg y 1208925819614629174706176))]] s Q := by
  obtain ⟨e0, b0⟩ := PW.dg_mul x y 4294967296 1
  obtain ⟨e1, b1⟩ := PW.dg_mul x y 4294967296 65536
  obtain ⟨e2, b2⟩ := PW.dg_mul x y 4294967296 4294967296
  obtain ⟨e3, b3⟩ := PW.dg_mul x y 4294967296 281474976710656
  obtain ⟨e4, b4⟩ := PW.dg_mul x y 4294967296 18446744073709551616
  obtain ⟨e5, b5⟩ := PW.dg_mul x y 4294967296 1208925819614629174706176
  obtain ⟨e6, b6⟩ := PW.dg_mul x y 4294967296 79228162514264337593543950336
  obtain ⟨e7, b7⟩ := PW.dg_mul x y 4294967296 5192296858534827628530496329220096
  rw [e0, e1, e2, e3, e4, e5]
  refine rwNumber (by omega) (by omega) (by omega) (by omega) (by omega) (by omega) (by omega) (by omega) (Qeq ?_ hq)
  congr 1
  have r0 := PW.row (PW.dg x 4294967296) (PW.dg y 1) (PW.dg y 65536) (PW.dg y 4294967296) (PW.dg y 281474976710656) (PW.dg y 18446744073709551616) (PW.dg y 1208925819614629174706176) (PW.dg y 79228162514264337593543950336) (PW.dg y 5192296858534827628530496329220096)
  have r1 : PW.dg y 1 + 65536 * PW.dg y 65536 + 4294967296 * PW.dg y 4294967296 + 281474976710656 * PW.dg y 281474976710656 + 18446744073709551616 * PW.dg y 18446744073709551616 + 1208925819614629174706176 * PW.dg y 1208925819614629174706176 + 79228162514264337593543950336 * PW.dg y 79228162514264337593543950336 + 5192296858534827628530496329220096 * PW.dg y 5192296858534827628530496329220096 = y % 340282366920938463463374607431768211456 := PW.dg_sum y
  rw [r1] at r0
  have r2 : PW.dg x 4294967296 * y = PW.dg x 4294967296 * (y % 340282366920938463463374607431768211456) + 340282366920938463463374607431768211456 * (PW.dg x 4294967296 * (y / 340282366920938463463374607431768211456)) := by
    rw [Int.mul_left_comm, ← Int.mul_add]; congr 1; omega
  rw [r2, r0]
  refine (PW.w128_mod (1 * (PW.dg x 4294967296 * PW.dg y 79228162514264337593543950336) + 65536 * (PW.dg x 4294967296 * PW.dg y 5192296858534827628530496329220096) + 4294967296 * (PW.dg x 4294967296 * (y / 340282366920938463463374607431768211456))) ?_).symm
  unfold PW.dig
  generalize PW.dg x 4294967296 * PW.dg y 1 = p0 at *
  generalize PW.dg x 4294967296 * PW.dg y 65536 = p1 at *
  generalize PW.dg x 4294967296 * PW.dg y 4294967296 = p2 at *
  generalize PW.dg x 4294967296 * PW.dg y 281474976710656 = p3 at *
  generalize PW.dg x 4294967296 * PW.dg y 18446744073709551616 = p4 at *
  generalize PW.dg x 4294967296 * PW.dg y 1208925819614629174706176 = p5 at *
  generalize PW.dg x 4294967296 * PW.dg y 79228162514264337593543950336 = p6 at *
  generalize PW.dg x 4294967296 * PW.dg y 5192296858534827628530496329220096 = p7 at *
  generalize PW.dg x 4294967296 * (y / 340282366920938463463374607431768211456) = p8 at *
  clear r0 r1 r2 b0 b1 b2 b3 b4 b5 b6 b7 e0 e1 e2 e3 e4 e5 e6 e7
  omega
theorem rwRow3 {x y : Int} {s : List Ob} {Q : AV → List Ob → Prop} (hq : Q (WA (w128 (281474976710656 * (PW.dg x 281474976710656 * y)))) s) : AC Try.prog 55 [.agg [.int .i64 0, .int .i64 0, .int .i64 0, .int .i64 (Z.mul .i64 (PW.dg x 281474976710656) (PW.dg y 1)), .int .i64 (Z.mul .i64 (PW.dg x 281474976710656) (PW.dg y 65536)), .int .i64 (Z.mul .i64 (PW.dg x 281474976710656) (PW.dg y 4294967296)), .int .i64 (Z.mul .i64 (PW.dg x 281474976710656) (PW.dg y 281474976710656)), .int .i64 (Z.mul .i64 (PW.dg x 281474976710656) (PW.dg y 18446744073709551616))]] s Q := by
  obtain ⟨e0, b0⟩ := PW.dg_mul x y 281474976710656 1
  obtain ⟨e1, b1⟩ := PW.dg_mul x y 281474976710656 65536
  obtain ⟨e2, b2⟩ := PW.dg_mul x y 281474976710656 4294967296
  obtain ⟨e3, b3⟩ := PW.dg_mul x y 281474976710656 281474976710656
  obtain ⟨e4, b4⟩ := PW.dg_mul x y 281474976710656 18446744073709551616
  obtain ⟨e5, b5⟩ := PW.dg_mul x y 281474976710656 1208925819614629174706176
  obtain ⟨e6, b6⟩ := PW.dg_mul x y 281474976710656 79228162514264337593543950336
  obtain ⟨e7, b7⟩ := PW.dg_mul x y 281474976710656 5192296858534827628530496329220096
  rw [e0, e1, e2, e3, e4]
  refine rwNumber (by omega) (by omega) (by omega) (by omega) (by omega) (by omega) (by omega) (by omega) (Qeq ?_ hq)
  congr 1
  have r0 := PW.row (PW.dg x 281474976710656) (PW.dg y 1) (PW.dg y 65536) (PW.dg y 4294967296) (PW.dg y 281474976710656) (PW.dg y 18446744073709551616) (PW.dg y 1208925819614629174706176) (PW.dg y 79228162514264337593543950336) (PW.dg y 5192296858534827628530496329220096)
  have r1 : PW.dg y 1 + 65536 * PW.dg y 65536 + 4294967296 * PW.dg y 4294967296 + 281474976710656 * PW.dg y 281474976710656 + 18446744073709551616 * PW.dg y 18446744073709551616 + 1208925819614629174706176 * PW.dg y 1208925819614629174706176 + 79228162514264337593543950336 * PW.dg y 79228162514264337593543950336 + 5192296858534827628530496329220096 * PW.dg y 5192296858534827628530496329220096 = y % 340282366920938463463374607431768211456 := PW.dg_sum y
  rw [r1] at r0
  have r2 : PW.dg x 281474976710656 * y = PW.dg x 281474976710656 * (y % 340282366920938463463374607431768211456) + 340282366920938463463374607431768211456 * (PW.dg x 281474976710656 * (y / 340282366920938463463374607431768211456)) := by
    rw [Int.mul_left_comm, ← Int.mul_add]; congr 1; omega
  rw [r2, r0]
  refine (PW.w128_mod (1 * (PW.dg x 281474976710656 * PW.dg y 1208925819614629174706176) + 65536 * (PW.dg x 281474976710656 * PW.dg y 79228162514264337593543950336) + 4294967296 * (PW.dg x 281474976710656 * PW.dg y 5192296858534827628530496329220096) + 281474976710656 * (PW.dg x 281474976710656 * (y / 340282366920938463463374607431768211456))) ?_).symm
  unfold PW.dig
  generalize PW.dg x 281474976710656 * PW.dg y 1 = p0 at *
  generalize PW.dg x 281474976710656 * PW.dg y 65536 = p1 at *
  generalize PW.dg x 281474976710656 * PW.dg y 4294967296 = p2 at *
  generalize PW.dg x 281474976710656 * PW.dg y 281474976710656 = p3 at *
  generalize PW.dg x 281474976710656 * PW.dg y 18446744073709551616 = p4 at *
  generalize PW.dg x 281474976710656 * PW.dg y 1208925819614629174706176 = p5 at *
  generalize PW.dg x 281474976710656 * PW.dg y 79228162514264337593543950336 = p6 at *
  generalize PW.dg x 281474976710656 * PW.dg y 5192296858534827628530496329220096 = p7 at *
  generalize PW.dg x 281474976710656 * (y / 340282366920938463463374607431768211456) = p8 at *
  clear r0 r1 r2 b0 b1 b2 b3 b4 b5 b6 b7 e0 e1 e2 e3 e4 e5 e6 e7
  omega
theorem rwRow4 {x y : Int} {s : List Ob} {Q : AV → List Ob → Prop} (hq : Q (WA (w128 (18446744073709551616 * (PW.dg x 18446744073709551616 * y)))) s) : AC Try.prog 55 [.agg [.int .i64 0, .int .i64 0, .int .i64 0, .int .i64 0, .int .i64 (Z.mul .i64 (PW.dg x 18446744073709551616) (PW.dg y 1)), .int .i64 (Z.mul .i64 (PW.dg x 18446744073709551616) (PW.dg y 65536)), .int .i64 (Z.mul .i64 (PW.dg x 18446744073709551616) (PW.dg y 4294967296)), .int .i64 (Z.mul .i64 (PW.dg x 18446744073709551616) (PW.dg y 281474976710656))]] s Q := by
  obtain ⟨e0, b0⟩ := PW.dg_mul x y 18446744073709551616 1
  obtain ⟨e1, b1⟩ := PW.dg_mul x y 18446744073709551616 65536
  obtain ⟨e2, b2⟩ := PW.dg_mul x y 18446744073709551616 4294967296
  obtain ⟨e3, b3⟩ := PW.dg_mul x y 18446744073709551616 281474976710656
  obtain ⟨e4, b4⟩ := PW.dg_mul x y 18446744073709551616 18446744073709551616
  obtain ⟨e5, b5⟩ := PW.dg_mul x y 18446744073709551616 1208925819614629174706176
  obtain ⟨e6, b6⟩ := PW.dg_mul x y 18446744073709551616 79228162514264337593543950336
  obtain ⟨e7, b7⟩ := PW.dg_mul x y 18446744073709551616 5192296858534827628530496329220096
  rw [e0, e1, e2, e3]
  refine rwNumber (by omega) (by omega) (by omega) (by omega) (by omega) (by omega) (by omega) (by omega) (Qeq ?_ hq)
  congr 1
  have r0 := PW.row (PW.dg x 18446744073709551616) (PW.dg y 1) (PW.dg y 65536) (PW.dg y 4294967296) (PW.dg y 281474976710656) (PW.dg y 18446744073709551616) (PW.dg y 1208925819614629174706176) (PW.dg y 79228162514264337593543950336) (PW.dg y 5192296858534827628530496329220096)
  have r1 : PW.dg y 1 + 65536 * PW.dg y 65536 + 4294967296 * PW.dg y 4294967296 + 281474976710656 * PW.dg y 281474976710656 + 18446744073709551616 * PW.dg y 18446744073709551616 + 1208925819614629174706176 * PW.dg y 1208925819614629174706176 + 79228162514264337593543950336 * PW.dg y 79228162514264337593543950336 + 5192296858534827628530496329220096 * PW.dg y 5192296858534827628530496329220096 = y % 340282366920938463463374607431768211456 := PW.dg_sum y
  rw [r1] at r0
  have r2 : PW.dg x 18446744073709551616 * y = PW.dg x 18446744073709551616 * (y % 340282366920938463463374607431768211456) + 340282366920938463463374607431768211456 * (PW.dg x 18446744073709551616 * (y / 340282366920938463463374607431768211456)) := by
    rw [Int.mul_left_comm, ← Int.mul_add]; congr 1; omega
  rw [r2, r0]
  refine (PW.w128_mod (1 * (PW.dg x 18446744073709551616 * PW.dg y 18446744073709551616) + 65536 * (PW.dg x 18446744073709551616 * PW.dg y 1208925819614629174706176) + 4294967296 * (PW.dg x 18446744073709551616 * PW.dg y 79228162514264337593543950336) + 281474976710656 * (PW.dg x 18446744073709551616 * PW.dg y 5192296858534827628530496329220096) + 18446744073709551616 * (PW.dg x 18446744073709551616 * (y / 340282366920938463463374607431768211456))) ?_).symm
  unfold PW.dig
  generalize PW.dg x 18446744073709551616 * PW.dg y 1 = p0 at *
  generalize PW.dg x 18446744073709551616 * PW.dg y 65536 = p1 at *
  generalize PW.dg x 18446744073709551616 * PW.dg y 4294967296 = p2 at *
  generalize PW.dg x 18446744073709551616 * PW.dg y 281474976710656 = p3 at *
  generalize PW.dg x 18446744073709551616 * PW.dg y 18446744073709551616 = p4 at *
  generalize PW.dg x 18446744073709551616 * PW.dg y 1208925819614629174706176 = p5 at *
  generalize PW.dg x 18446744073709551616 * PW.dg y 79228162514264337593543950336 = p6 at *
  generalize PW.dg x 18446744073709551616 * PW.dg y 5192296858534827628530496329220096 = p7 at *
  generalize PW.dg x 18446744073709551616 * (y / 340282366920938463463374607431768211456) = p8 at *
  clear r0 r1 r2 b0 b1 b2 b3 b4 b5 b6 b7 e0 e1 e2 e3 e4 e5 e6 e7
  omega
theorem rwRow5 {x y : Int} {s : List Ob} {Q : AV → List Ob → Prop} (hq : Q (WA (w128 (1208925819614629174706176 * (PW.dg x 1208925819614629174706176 * y)))) s) : AC Try.prog 55 [.agg [.int .i64 0, .int .i64 0, .int .i64 0, .int .i64 0, .int .i64 0, .int .i64 (Z.mul .i64 (PW.dg x 1208925819614629174706176) (PW.dg y 1)), .int .i64 (Z.mul .i64 (PW.dg x 1208925819614629174706176) (PW.dg y 65536)), .int .i64 (Z.mul .i64 (PW.dg x 1208925819614629174706176) (PW.dg y 4294967296))]] s Q := by
  obtain ⟨e0, b0⟩ := PW.dg_mul x y 1208925819614629174706176 1
  obtain ⟨e1, b1⟩ := PW.dg_mul x y 1208925819614629174706176 65536
  obtain ⟨e2, b2⟩ := PW.dg_mul x y 1208925819614629174706176 4294967296
  obtain ⟨e3, b3⟩ := PW.dg_mul x y 1208925819614629174706176 281474976710656
  obtain ⟨e4, b4⟩ := PW.dg_mul x y 1208925819614629174706176 18446744073709551616
  obtain ⟨e5, b5⟩ := PW.dg_mul x y 1208925819614629174706176 1208925819614629174706176
  obtain ⟨e6, b6⟩ := PW.dg_mul x y 1208925819614629174706176 79228162514264337593543950336
  obtain ⟨e7, b7⟩ := PW.dg_mul x y 1208925819614629174706176 5192296858534827628530496329220096
  rw [e0, e1, e2]
  refine rwNumber (by omega) (by omega) (by omega) (by omega) (by omega) (by omega) (by omega) (by omega) (Qeq ?_ hq)
  congr 1
  have r0 := PW.row (PW.dg x 1208925819614629174706176) (PW.dg y 1) (PW.dg y 65536) (PW.dg y 4294967296) (PW.dg y 281474976710656) (PW.dg y 18446744073709551616) (PW.dg y 1208925819614629174706176) (PW.dg y 79228162514264337593543950336) (PW.dg y 5192296858534827628530496329220096)
  have r1 : PW.dg y 1 + 65536 * PW.dg y 65536 + 4294967296 * PW.dg y 4294967296 + 281474976710656 * PW.dg y 281474976710656 + 18446744073709551616 * PW.dg y 18446744073709551616 + 1208925819614629174706176 * PW.dg y 1208925819614629174706176 + 79228162514264337593543950336 * PW.dg y 79228162514264337593543950336 + 5192296858534827628530496329220096 * PW.dg y 5192296858534827628530496329220096 = y % 340282366920938463463374607431768211456 := PW.dg_sum y
  rw [r1] at r0
  have r2 : PW.dg x 1208925819614629174706176 * y = PW.dg x 1208925819614629174706176 * (y % 340282366920938463463374607431768211456) + 340282366920938463463374607431768211456 * (PW.dg x 1208925819614629174706176 * (y / 340282366920938463463374607431768211456)) := by
    rw [Int.mul_left_comm, ← Int.mul_add]; congr 1; omega
  rw [r2, r0]
  refine (PW.w128_mod (1 * (PW.dg x 1208925819614629174706176 * PW.dg y 281474976710656) + 65536 * (PW.dg x 1208925819614629174706176 * PW.dg y 18446744073709551616) + 4294967296 * (PW.dg x 1208925819614629174706176 * PW.dg y 1208925819614629174706176) + 281474976710656 * (PW.dg x 1208925819614629174706176 * PW.dg y 79228162514264337593543950336) + 18446744073709551616 * (PW.dg x 1208925819614629174706176 * PW.dg y 5192296858534827628530496329220096) + 1208925819614629174706176 * (PW.dg x 1208925819614629174706176 * (y / 340282366920938463463374607431768211456))) ?_).symm
  unfold PW.dig
  generalize PW.dg x 1208925819614629174706176 * PW.dg y 1 = p0 at *
  generalize PW.dg x 1208925819614629174706176 * PW.dg y 65536 = p1 at *
  generalize PW.dg x 1208925819614629174706176 * PW.dg y 4294967296 = p2 at *
  generalize PW.dg x 1208925819614629174706176 * PW.dg y 281474976710656 = p3 at *
  generalize PW.dg x 1208925819614629174706176 * PW.dg y 18446744073709551616 = p4 at *
  generalize PW.dg x 1208925819614629174706176 * PW.dg y 1208925819614629174706176 = p5 at *
  generalize PW.dg x 1208925819614629174706176 * PW.dg y 79228162514264337593543950336 = p6 at *
  generalize PW.dg x 1208925819614629174706176 * PW.dg y 5192296858534827628530496329220096 = p7 at *
  generalize PW.dg x 1208925819614629174706176 * (y / 340282366920938463463374607431768211456) = p8 at *
  clear r0 r1 r2 b0 b1 b2 b3 b4 b5 b6 b7 e0 e1 e2 e3 e4 e5 e6 e7
  omega
theorem rwRow6 {x y : Int} {s : List Ob} {Q : AV → List Ob → Prop} (hq : Q (WA (w128 (79228162514264337593543950336 * (PW.dg x 79228162514264337593543950336 * y)))) s) : AC Try.prog 55 [.agg [.int .i64 0, .int .i64 0, .int .i64 0, .int .i64 0, .int .i64 0, .int .i64 0, .int .i64 (Z.mul .i64 (PW.dg x 79228162514264337593543950336) (PW.dg y 1)), .int .i64 (Z.mul .i64 (PW.dg x 79228162514264337593543950336) (PW.dg y 65536))]] s Q := by
  obtain ⟨e0, b0⟩ := PW.dg_mul x y 79228162514264337593543950336 1
  obtain ⟨e1, b1⟩ := PW.dg_mul x y 79228162514264337593543950336 65536
  obtain ⟨e2, b2⟩ := PW.dg_mul x y 79228162514264337593543950336 4294967296
  obtain ⟨e3, b3⟩ := PW.dg_mul x y 79228162514264337593543950336 281474976710656
  obtain ⟨e4, b4⟩ := PW.dg_mul x y 79228162514264337593543950336 18446744073709551616
  obtain ⟨e5, b5⟩ := PW.dg_mul x y 79228162514264337593543950336 1208925819614629174706176
  obtain ⟨e6, b6⟩ := PW.dg_mul x y 79228162514264337593543950336 79228162514264337593543950336
  obtain ⟨e7, b7⟩ := PW.dg_mul x y 79228162514264337593543950336 5192296858534827628530496329220096
  rw [e0, e1]
  refine rwNumber (by omega) (by omega) (by omega) (by omega) (by omega) (by omega) (by omega) (by omega) (Qeq ?_ hq)
  congr 1
  have r0 := PW.row (PW.dg x 79228162514264337593543950336) (PW.dg y 1) (PW.dg y 65536) (PW.dg y 4294967296) (PW.dg y 281474976710656) (PW.dg y 18446744073709551616) (PW.dg y 1208925819614629174706176) (PW.dg y 79228162514264337593543950336) (PW.dg y 5192296858534827628530496329220096)
  have r1 : PW.dg y 1 + 65536 * PW.dg y 65536 + 4294967296 * PW.dg y 4294967296 + 281474976710656 * PW.dg y 281474976710656 + 18446744073709551616 * PW.dg y 18446744073709551616 + 1208925819614629174706176 * PW.dg y 1208925819614629174706176 + 79228162514264337593543950336 * PW.dg y 79228162514264337593543950336 + 5192296858534827628530496329220096 * PW.dg y 5192296858534827628530496329220096 = y % 340282366920938463463374607431768211456 := PW.dg_sum y
  rw [r1] at r0
  have r2 : PW.dg x 79228162514264337593543950336 * y = PW.dg x 79228162514264337593543950336 * (y % 340282366920938463463374607431768211456) + 340282366920938463463374607431768211456 * (PW.dg x 79228162514264337593543950336 * (y / 340282366920938463463374607431768211456)) := by
    rw [Int.mul_left_comm, ← Int.mul_add]; congr 1; omega
  rw [r2, r0]
  refine (PW.w128_mod (1 * (PW.dg x 79228162514264337593543950336 * PW.dg y 4294967296) + 65536 * (PW.dg x 79228162514264337593543950336 * PW.dg y 281474976710656) + 4294967296 * (PW.dg x 79228162514264337593543950336 * PW.dg y 18446744073709551616) + 281474976710656 * (PW.dg x 79228162514264337593543950336 * PW.dg y 1208925819614629174706176) + 18446744073709551616 * (PW.dg x 79228162514264337593543950336 * PW.dg y 79228162514264337593543950336) + 1208925819614629174706176 * (PW.dg x 79228162514264337593543950336 * PW.dg y 5192296858534827628530496329220096) + 79228162514264337593543950336 * (PW.dg x 79228162514264337593543950336 * (y / 340282366920938463463374607431768211456))) ?_).symm
  unfold PW.dig
  generalize PW.dg x 79228162514264337593543950336 * PW.dg y 1 = p0 at *
  generalize PW.dg x 79228162514264337593543950336 * PW.dg y 65536 = p1 at *
  generalize PW.dg x 79228162514264337593543950336 * PW.dg y 4294967296 = p2 at *
  generalize PW.dg x 79228162514264337593543950336 * PW.dg y 281474976710656 = p3 at *
  generalize PW.dg x 79228162514264337593543950336 * PW.dg y 18446744073709551616 = p4 at *
  generalize PW.dg x 79228162514264337593543950336 * PW.dg y 1208925819614629174706176 = p5 at *
  generalize PW.dg x 79228162514264337593543950336 * PW.dg y 79228162514264337593543950336 = p6 at *
  generalize PW.dg x 79228162514264337593543950336 * PW.dg y 5192296858534827628530496329220096 = p7 at *
  generalize PW.dg x 79228162514264337593543950336 * (y / 340282366920938463463374607431768211456) = p8 at *
  clear r0 r1 r2 b0 b1 b2 b3 b4 b5 b6 b7 e0 e1 e2 e3 e4 e5 e6 e7
  omega
theorem rwRow7 {x y : Int} {s : List Ob} {Q : AV → List Ob → Prop} (hq : Q (WA (w128 (5192296858534827628530496329220096 * (PW.dg x 5192296858534827628530496329220096 * y)))) s) : AC Try.prog 55 [.agg [.int .i64 0, .int .i64 0, .int .i64 0, .int .i64 0, .int .i64 0, .int .i64 0, .int .i64 0, .int .i64 (Z.mul .i64 (PW.dg x 5192296858534827628530496329220096) (PW.dg y 1))]] s Q := by
  obtain ⟨e0, b0⟩ := PW.dg_mul x y 5192296858534827628530496329220096 1
  obtain ⟨e1, b1⟩ := PW.dg_mul x y 5192296858534827628530496329220096 65536
  obtain ⟨e2, b2⟩ := PW.dg_mul x y 5192296858534827628530496329220096 4294967296
  obtain ⟨e3, b3⟩ := PW.dg_mul x y 5192296858534827628530496329220096 281474976710656
  obtain ⟨e4, b4⟩ := PW.dg_mul x y 5192296858534827628530496329220096 18446744073709551616
  obtain ⟨e5, b5⟩ := PW.dg_mul x y 5192296858534827628530496329220096 1208925819614629174706176
  obtain ⟨e6, b6⟩ := PW.dg_mul x y 5192296858534827628530496329220096 79228162514264337593543950336
  obtain ⟨e7, b7⟩ := PW.dg_mul x y 5192296858534827628530496329220096 5192296858534827628530496329220096
  rw [e0]
  refine rwNumber (by omega) (by omega) (by omega) (by omega) (by omega) (by omega) (by omega) (by omega) (Qeq ?_ hq)
  congr 1
  have r0 := PW.row (PW.dg x 5192296858534827628530496329220096) (PW.dg y 1) (PW.dg y 65536) (PW.dg y 4294967296) (PW.dg y 281474976710656) (PW.dg y 18446744073709551616) (PW.dg y 1208925819614629174706176) (PW.dg y 79228162514264337593543950336) (PW.dg y 5192296858534827628530496329220096)
  have r1 : PW.dg y 1 + 65536 * PW.dg y 65536 + 4294967296 * PW.dg y 4294967296 + 281474976710656 * PW.dg y 281474976710656 + 18446744073709551616 * PW.dg y 18446744073709551616 + 1208925819614629174706176 * PW.dg y 1208925819614629174706176 + 79228162514264337593543950336 * PW.dg y 79228162514264337593543950336 + 5192296858534827628530496329220096 * PW.dg y 5192296858534827628530496329220096 = y % 340282366920938463463374607431768211456 := PW.dg_sum y
  rw [r1] at r0
  have r2 : PW.dg x 5192296858534827628530496329220096 * y = PW.dg x 5192296858534827628530496329220096 * (y % 340282366920938463463374607431768211456) + 340282366920938463463374607431768211456 * (PW.dg x 5192296858534827628530496329220096 * (y / 340282366920938463463374607431768211456)) := by
    rw [Int.mul_left_comm, ← Int.mul_add]; congr 1; omega
  rw [r2, r0]
  refine (PW.w128_mod (1 * (PW.dg x 5192296858534827628530496329220096 * PW.dg y 65536) + 65536 * (PW.dg x 5192296858534827628530496329220096 * PW.dg y 4294967296) + 4294967296 * (PW.dg x 5192296858534827628530496329220096 * PW.dg y 281474976710656) + 281474976710656 * (PW.dg x 5192296858534827628530496329220096 * PW.dg y 18446744073709551616) + 18446744073709551616 * (PW.dg x 5192296858534827628530496329220096 * PW.dg y 1208925819614629174706176) + 1208925819614629174706176 * (PW.dg x 5192296858534827628530496329220096 * PW.dg y 79228162514264337593543950336) + 79228162514264337593543950336 * (PW.dg x 5192296858534827628530496329220096 * PW.dg y 5192296858534827628530496329220096) + 5192296858534827628530496329220096 * (PW.dg x 5192296858534827628530496329220096 * (y / 340282366920938463463374607431768211456))) ?_).symm
  unfold PW.dig
  generalize PW.dg x 5192296858534827628530496329220096 * PW.dg y 1 = p0 at *
  generalize PW.dg x 5192296858534827628530496329220096 * PW.dg y 65536 = p1 at *
  generalize PW.dg x 5192296858534827628530496329220096 * PW.dg y 4294967296 = p2 at *
  generalize PW.dg x 5192296858534827628530496329220096 * PW.dg y 281474976710656 = p3 at *
  generalize PW.dg x 5192296858534827628530496329220096 * PW.dg y 18446744073709551616 = p4 at *
  generalize PW.dg x 5192296858534827628530496329220096 * PW.dg y 1208925819614629174706176 = p5 at *
  generalize PW.dg x 5192296858534827628530496329220096 * PW.dg y 79228162514264337593543950336 = p6 at *
  generalize PW.dg x 5192296858534827628530496329220096 * PW.dg y 5192296858534827628530496329220096 = p7 at *
  generalize PW.dg x 5192296858534827628530496329220096 * (y / 340282366920938463463374607431768211456) = p8 at *
  clear r0 r1 r2 b0 b1 b2 b3 b4 b5 b6 b7 e0 e1 e2 e3 e4 e5 e6 e7
  omega
theorem rwAdd0 {y : Int} (hy : I128 y) {s : List Ob} {Q : AV → List Ob → Prop} (hq : Q (WA (w128 y)) s) : AC Try.prog 23 [.agg [.int .i64 0, .int .u64 0], WA y] s Q := by
  have := rwAdd (x := 0) (y := y) (s := s) (Q := Q) (by decide) hy (by rw [Int.zero_add]; exact hq)
  exact this
set_option maxHeartbeats 4000000 in
theorem rwTimes {x y : Int} {s : List Ob} {Q : AV → List Ob → Prop} (hq : Q (WA (w128 (x * y))) s) : AC Try.prog 53 [.agg [.int .i64 (PW.dg x 1), .int .i64 (PW.dg x 65536), .int .i64 (PW.dg x 4294967296), .int .i64 (PW.dg x 281474976710656), .int .i64 (PW.dg x 18446744073709551616), .int .i64 (PW.dg x 1208925819614629174706176), .int .i64 (PW.dg x 79228162514264337593543950336), .int .i64 (PW.dg x 5192296858534827628530496329220096)], .agg [.int .i64 (PW.dg y 1), .int .i64 (PW.dg y 65536), .int .i64 (PW.dg y 4294967296), .int .i64 (PW.dg y 281474976710656), .int .i64 (PW.dg y 18446744073709551616), .int .i64 (PW.dg y 1208925819614629174706176), .int .i64 (PW.dg y 79228162514264337593543950336), .int .i64 (PW.dg y 5192296858534827628530496329220096)]] s Q := by
  refine AC_pure rfl ?_
  refine AC_body tok 9 Try.func53 rfl (by kernel_rfl) ?_
  conv => whnf
  repeat' first
    | (refine AW_draw tok hP ?_; conv => whnf)
    | (refine And.intro (OkD.mk (by kernel_rfl)) ?_; conv => whnf)
    | (refine AQ_pure (fun s Q h => rwRow0 h) ?_; conv => whnf)
    | (refine AQ_pure (fun s Q h => rwRow1 h) ?_; conv => whnf)
    | (refine AQ_pure (fun s Q h => rwRow2 h) ?_; conv => whnf)
    | (refine AQ_pure (fun s Q h => rwRow3 h) ?_; conv => whnf)
    | (refine AQ_pure (fun s Q h => rwRow4 h) ?_; conv => whnf)
    | (refine AQ_pure (fun s Q h => rwRow5 h) ?_; conv => whnf)
    | (refine AQ_pure (fun s Q h => rwRow6 h) ?_; conv => whnf)
    | (refine AQ_pure (fun s Q h => rwRow7 h) ?_; conv => whnf)
    | (refine AQ_pure (fun s Q h => rwAdd0 (PW.w128_i _) h) ?_; conv => whnf)
    | (refine AQ_pure (fun s Q h => rwAdd (PW.w128_i _) (PW.w128_i _) h) ?_; conv => whnf)
    | fail
  refine ⟨rfl, Qeq ?_ hq⟩
  simp only [PW.w128_w, PW.w128_add]
  have e : w128 (1 * (PW.dg x 1 * y) + 65536 * (PW.dg x 65536 * y) + 4294967296 * (PW.dg x 4294967296 * y) + 281474976710656 * (PW.dg x 281474976710656 * y) + 18446744073709551616 * (PW.dg x 18446744073709551616 * y) + 1208925819614629174706176 * (PW.dg x 1208925819614629174706176 * y) + 79228162514264337593543950336 * (PW.dg x 79228162514264337593543950336 * y) + 5192296858534827628530496329220096 * (PW.dg x 5192296858534827628530496329220096 * y)) = w128 (x * y) := by
    have c := PW.col y (PW.dg x 1) (PW.dg x 65536) (PW.dg x 4294967296) (PW.dg x 281474976710656) (PW.dg x 18446744073709551616) (PW.dg x 1208925819614629174706176) (PW.dg x 79228162514264337593543950336) (PW.dg x 5192296858534827628530496329220096)
    have r1 : PW.dg x 1 + 65536 * PW.dg x 65536 + 4294967296 * PW.dg x 4294967296 + 281474976710656 * PW.dg x 281474976710656 + 18446744073709551616 * PW.dg x 18446744073709551616 + 1208925819614629174706176 * PW.dg x 1208925819614629174706176 + 79228162514264337593543950336 * PW.dg x 79228162514264337593543950336 + 5192296858534827628530496329220096 * PW.dg x 5192296858534827628530496329220096 = x % 340282366920938463463374607431768211456 := PW.dg_sum x
    rw [r1] at c
    have r2 : x * y = (x % 340282366920938463463374607431768211456) * y + 340282366920938463463374607431768211456 * (x / 340282366920938463463374607431768211456 * y) := by
      rw [← Int.mul_assoc, ← Int.add_mul]; congr 1; omega
    rw [r2, c]
    refine (PW.w128_mod (x / 340282366920938463463374607431768211456 * y) ?_).symm
    omega
  rw [e]
theorem rwMul {a b : Int} (ha : I64 a) (hb : I64 b) {s : List Ob} {Q : AV → List Ob → Prop} (hq : Q (WA (a * b)) s) : AC Try.prog 21 [.int .i64 a, .int .i64 b] s Q := by
  refine AC_pure rfl ?_
  refine AC_body tok 9 Try.func21 rfl (by kernel_rfl) ?_
  conv => whnf
  try (refine AW_draw tok hP ?_; conv => whnf)
  first | refine AQ_pure (fun sK QK hK => rwOf ha hK) ?_ | refine rwOf ha ?_
  conv => whnf
  try (refine And.intro (OkD.mk (by kernel_rfl)) ?_; conv => whnf)
  try (refine AW_draw tok hP ?_; conv => whnf)
  first | refine AQ_pure (fun sK QK hK => rwDigits (by unfold I128; unfold I64 at ha; omega) hK) ?_ | refine rwDigits (by unfold I128; unfold I64 at ha; omega) ?_
  conv => whnf
  try (refine And.intro (OkD.mk (by kernel_rfl)) ?_; conv => whnf)
  try (refine AW_draw tok hP ?_; conv => whnf)
  first | refine AQ_pure (fun sK QK hK => rwOf hb hK) ?_ | refine rwOf hb ?_
  conv => whnf
  try (refine And.intro (OkD.mk (by kernel_rfl)) ?_; conv => whnf)
  try (refine AW_draw tok hP ?_; conv => whnf)
  first | refine AQ_pure (fun sK QK hK => rwDigits (by unfold I128; unfold I64 at hb; omega) hK) ?_ | refine rwDigits (by unfold I128; unfold I64 at hb; omega) ?_
  conv => whnf
  try (refine And.intro (OkD.mk (by kernel_rfl)) ?_; conv => whnf)
  try (refine AW_draw tok hP ?_; conv => whnf)
  first | refine AQ_pure (fun sK QK hK => rwTimes hK) ?_ | refine rwTimes ?_
  conv => whnf
  try (refine And.intro (OkD.mk (by kernel_rfl)) ?_; conv => whnf)
  have m := PW.mul_i ha hb
  rw [PW.w128_id (by unfold I128; omega)]
  exact ⟨rfl, hq⟩
theorem rwSquare {n : Int} (hn : U64 n) {s : List Ob} {Q : AV → List Ob → Prop} (hq : Q (WA (w128 (n * n))) s) : AC Try.prog 52 [.int .u64 n] s Q := by
  refine AC_pure rfl ?_
  refine AC_body tok 9 Try.func52 rfl (by kernel_rfl) ?_
  conv => whnf
  have e : (AV.agg [.int .i64 0, .int .u64 n]) = WA n := by
    unfold WA U64 at *
    rw [show whi n = 0 by unfold whi; omega, show wlo n = n by unfold wlo; omega]
  rw [e]
  try (refine AW_draw tok hP ?_; conv => whnf)
  first | refine AQ_pure (fun sK QK hK => rwDigits (by unfold I128; unfold U64 at hn; omega) hK) ?_ | refine rwDigits (by unfold I128; unfold U64 at hn; omega) ?_
  conv => whnf
  try (refine And.intro (OkD.mk (by kernel_rfl)) ?_; conv => whnf)
  try (refine AW_draw tok hP ?_; conv => whnf)
  first | refine AQ_pure (fun sK QK hK => rwTimes hK) ?_ | refine rwTimes ?_
  conv => whnf
  try (refine And.intro (OkD.mk (by kernel_rfl)) ?_; conv => whnf)
  exact ⟨rfl, hq⟩
theorem rwCmp {x y : Int} (hx : I128 x) (hy : I128 y) {s : List Ob} {Q : AV → List Ob → Prop} (hq : ∀ v, v = cmp3 x y → Q (.int .i64 v) s) : AC Try.prog 25 [WA x, WA y] s Q := by
  refine AC_pure rfl ?_
  refine AC_body tok 9 Try.func25 rfl (by kernel_rfl) ?_
  conv => whnf
  try (refine AW_draw tok hP ?_; conv => whnf)
  first | refine AQ_pure (fun sK QK hK => rwDigits hx hK) ?_ | refine rwDigits hx ?_
  conv => whnf
  try (refine And.intro (OkD.mk (by kernel_rfl)) ?_; conv => whnf)
  try (refine AW_draw tok hP ?_; conv => whnf)
  first | refine AQ_pure (fun sK QK hK => rwDigits hy hK) ?_ | refine rwDigits hy ?_
  conv => whnf
  try (refine And.intro (OkD.mk (by kernel_rfl)) ?_; conv => whnf)
  repeat' first
    | (refine AW_draw tok hP ?_; conv => whnf)
    | (refine And.intro (OkD.mk (by kernel_rfl)) ?_; conv => whnf)
    | fail
  have tx : Z.rem .i64 (Z.add .i64 (PW.dg x 5192296858534827628530496329220096) 32768) 65536 = (PW.dg x 5192296858534827628530496329220096 + 32768) % 65536 := by
    have := PW.dg_b x 5192296858534827628530496329220096
    rw [show Z.add .i64 (PW.dg x 5192296858534827628530496329220096) 32768 = PW.dg x 5192296858534827628530496329220096 + 32768 from Z.wrap_iid (by omega) (by omega)]
    exact Int.tmod_eq_emod_of_nonneg (by omega)
  have ty : Z.rem .i64 (Z.add .i64 (PW.dg y 5192296858534827628530496329220096) 32768) 65536 = (PW.dg y 5192296858534827628530496329220096 + 32768) % 65536 := by
    have := PW.dg_b y 5192296858534827628530496329220096
    rw [show Z.add .i64 (PW.dg y 5192296858534827628530496329220096) 32768 = PW.dg y 5192296858534827628530496329220096 + 32768 from Z.wrap_iid (by omega) (by omega)]
    exact Int.tmod_eq_emod_of_nonneg (by omega)
  rw [tx, ty]
  have sx := PW.dg_sum x
  have bx0 := PW.dg_b x 1
  have bx1 := PW.dg_b x 65536
  have bx2 := PW.dg_b x 4294967296
  have bx3 := PW.dg_b x 281474976710656
  have bx4 := PW.dg_b x 18446744073709551616
  have bx5 := PW.dg_b x 1208925819614629174706176
  have bx6 := PW.dg_b x 79228162514264337593543950336
  have bx7 := PW.dg_b x 5192296858534827628530496329220096
  generalize PW.dg x 1 = x0 at *
  generalize PW.dg x 65536 = x1 at *
  generalize PW.dg x 4294967296 = x2 at *
  generalize PW.dg x 281474976710656 = x3 at *
  generalize PW.dg x 18446744073709551616 = x4 at *
  generalize PW.dg x 1208925819614629174706176 = x5 at *
  generalize PW.dg x 79228162514264337593543950336 = x6 at *
  generalize PW.dg x 5192296858534827628530496329220096 = x7 at *
  have vx : x + 170141183460469231731687303715884105728 = x0 + 65536 * x1 + 4294967296 * x2 + 281474976710656 * x3 + 18446744073709551616 * x4 + 1208925819614629174706176 * x5 + 79228162514264337593543950336 * x6 + 5192296858534827628530496329220096 * ((x7 + 32768) % 65536) := by unfold PW.dig at sx; unfold I128 at hx; omega
  have cx : 0 ≤ (x7 + 32768) % 65536 ∧ (x7 + 32768) % 65536 < 65536 := by omega
  generalize (x7 + 32768) % 65536 = xT at *
  clear sx tx bx7
  have sy := PW.dg_sum y
  have by0 := PW.dg_b y 1
  have by1 := PW.dg_b y 65536
  have by2 := PW.dg_b y 4294967296
  have by3 := PW.dg_b y 281474976710656
  have by4 := PW.dg_b y 18446744073709551616
  have by5 := PW.dg_b y 1208925819614629174706176
  have by6 := PW.dg_b y 79228162514264337593543950336
  have by7 := PW.dg_b y 5192296858534827628530496329220096
  generalize PW.dg y 1 = y0 at *
  generalize PW.dg y 65536 = y1 at *
  generalize PW.dg y 4294967296 = y2 at *
  generalize PW.dg y 281474976710656 = y3 at *
  generalize PW.dg y 18446744073709551616 = y4 at *
  generalize PW.dg y 1208925819614629174706176 = y5 at *
  generalize PW.dg y 79228162514264337593543950336 = y6 at *
  generalize PW.dg y 5192296858534827628530496329220096 = y7 at *
  have vy : y + 170141183460469231731687303715884105728 = y0 + 65536 * y1 + 4294967296 * y2 + 281474976710656 * y3 + 18446744073709551616 * y4 + 1208925819614629174706176 * y5 + 79228162514264337593543950336 * y6 + 5192296858534827628530496329220096 * ((y7 + 32768) % 65536) := by unfold PW.dig at sy; unfold I128 at hy; omega
  have cy : 0 ≤ (y7 + 32768) % 65536 ∧ (y7 + 32768) % 65536 < 65536 := by omega
  generalize (y7 + 32768) % 65536 = yT at *
  clear sy ty by7
  refine ifP (fun (g7 : xT < yT) => ?_) (fun (g7 : ¬ xT < yT) => ?_)
  · conv => whnf
    exact ⟨rfl, hq _ (by unfold cmp3; rw [if_pos (by omega)])⟩
  repeat' first
    | (refine AW_draw tok hP ?_; conv => whnf)
    | (refine And.intro (OkD.mk (by kernel_rfl)) ?_; conv => whnf)
    | fail
  refine ifP (fun (k7 : xT > yT) => ?_) (fun (k7 : ¬ xT > yT) => ?_)
  · conv => whnf
    exact ⟨rfl, hq _ (by unfold cmp3; rw [if_neg (by omega), if_pos (by omega)])⟩
  repeat' first
    | (refine AW_draw tok hP ?_; conv => whnf)
    | (refine And.intro (OkD.mk (by kernel_rfl)) ?_; conv => whnf)
    | fail
  refine ifP (fun (g6 : x6 < y6) => ?_) (fun (g6 : ¬ x6 < y6) => ?_)
  · conv => whnf
    exact ⟨rfl, hq _ (by unfold cmp3; rw [if_pos (by omega)])⟩
  repeat' first
    | (refine AW_draw tok hP ?_; conv => whnf)
    | (refine And.intro (OkD.mk (by kernel_rfl)) ?_; conv => whnf)
    | fail
  refine ifP (fun (k6 : x6 > y6) => ?_) (fun (k6 : ¬ x6 > y6) => ?_)
  · conv => whnf
    exact ⟨rfl, hq _ (by unfold cmp3; rw [if_neg (by omega), if_pos (by omega)])⟩
  repeat' first
    | (refine AW_draw tok hP ?_; conv => whnf)
    | (refine And.intro (OkD.mk (by kernel_rfl)) ?_; conv => whnf)
    | fail
  refine ifP (fun (g5 : x5 < y5) => ?_) (fun (g5 : ¬ x5 < y5) => ?_)
  · conv => whnf
    exact ⟨rfl, hq _ (by unfold cmp3; rw [if_pos (by omega)])⟩
  repeat' first
    | (refine AW_draw tok hP ?_; conv => whnf)
    | (refine And.intro (OkD.mk (by kernel_rfl)) ?_; conv => whnf)
    | fail
  refine ifP (fun (k5 : x5 > y5) => ?_) (fun (k5 : ¬ x5 > y5) => ?_)
  · conv => whnf
    exact ⟨rfl, hq _ (by unfold cmp3; rw [if_neg (by omega), if_pos (by omega)])⟩
  repeat' first
    | (refine AW_draw tok hP ?_; conv => whnf)
    | (refine And.intro (OkD.mk (by kernel_rfl)) ?_; conv => whnf)
    | fail
  refine ifP (fun (g4 : x4 < y4) => ?_) (fun (g4 : ¬ x4 < y4) => ?_)
  · conv => whnf
    exact ⟨rfl, hq _ (by unfold cmp3; rw [if_pos (by omega)])⟩
  repeat' first
    | (refine AW_draw tok hP ?_; conv => whnf)
    | (refine And.intro (OkD.mk (by kernel_rfl)) ?_; conv => whnf)
    | fail
  refine ifP (fun (k4 : x4 > y4) => ?_) (fun (k4 : ¬ x4 > y4) => ?_)
  · conv => whnf
    exact ⟨rfl, hq _ (by unfold cmp3; rw [if_neg (by omega), if_pos (by omega)])⟩
  repeat' first
    | (refine AW_draw tok hP ?_; conv => whnf)
    | (refine And.intro (OkD.mk (by kernel_rfl)) ?_; conv => whnf)
    | fail
  refine ifP (fun (g3 : x3 < y3) => ?_) (fun (g3 : ¬ x3 < y3) => ?_)
  · conv => whnf
    exact ⟨rfl, hq _ (by unfold cmp3; rw [if_pos (by omega)])⟩
  repeat' first
    | (refine AW_draw tok hP ?_; conv => whnf)
    | (refine And.intro (OkD.mk (by kernel_rfl)) ?_; conv => whnf)
    | fail
  refine ifP (fun (k3 : x3 > y3) => ?_) (fun (k3 : ¬ x3 > y3) => ?_)
  · conv => whnf
    exact ⟨rfl, hq _ (by unfold cmp3; rw [if_neg (by omega), if_pos (by omega)])⟩
  repeat' first
    | (refine AW_draw tok hP ?_; conv => whnf)
    | (refine And.intro (OkD.mk (by kernel_rfl)) ?_; conv => whnf)
    | fail
  refine ifP (fun (g2 : x2 < y2) => ?_) (fun (g2 : ¬ x2 < y2) => ?_)
  · conv => whnf
    exact ⟨rfl, hq _ (by unfold cmp3; rw [if_pos (by omega)])⟩
  repeat' first
    | (refine AW_draw tok hP ?_; conv => whnf)
    | (refine And.intro (OkD.mk (by kernel_rfl)) ?_; conv => whnf)
    | fail
  refine ifP (fun (k2 : x2 > y2) => ?_) (fun (k2 : ¬ x2 > y2) => ?_)
  · conv => whnf
    exact ⟨rfl, hq _ (by unfold cmp3; rw [if_neg (by omega), if_pos (by omega)])⟩
  repeat' first
    | (refine AW_draw tok hP ?_; conv => whnf)
    | (refine And.intro (OkD.mk (by kernel_rfl)) ?_; conv => whnf)
    | fail
  refine ifP (fun (g1 : x1 < y1) => ?_) (fun (g1 : ¬ x1 < y1) => ?_)
  · conv => whnf
    exact ⟨rfl, hq _ (by unfold cmp3; rw [if_pos (by omega)])⟩
  repeat' first
    | (refine AW_draw tok hP ?_; conv => whnf)
    | (refine And.intro (OkD.mk (by kernel_rfl)) ?_; conv => whnf)
    | fail
  refine ifP (fun (k1 : x1 > y1) => ?_) (fun (k1 : ¬ x1 > y1) => ?_)
  · conv => whnf
    exact ⟨rfl, hq _ (by unfold cmp3; rw [if_neg (by omega), if_pos (by omega)])⟩
  repeat' first
    | (refine AW_draw tok hP ?_; conv => whnf)
    | (refine And.intro (OkD.mk (by kernel_rfl)) ?_; conv => whnf)
    | fail
  refine ifP (fun (g0 : x0 < y0) => ?_) (fun (g0 : ¬ x0 < y0) => ?_)
  · conv => whnf
    exact ⟨rfl, hq _ (by unfold cmp3; rw [if_pos (by omega)])⟩
  repeat' first
    | (refine AW_draw tok hP ?_; conv => whnf)
    | (refine And.intro (OkD.mk (by kernel_rfl)) ?_; conv => whnf)
    | fail
  refine ifP (fun (k0 : x0 > y0) => ?_) (fun (k0 : ¬ x0 > y0) => ?_)
  · conv => whnf
    exact ⟨rfl, hq _ (by unfold cmp3; rw [if_neg (by omega), if_pos (by omega)])⟩
  repeat' first
    | (refine AW_draw tok hP ?_; conv => whnf)
    | (refine And.intro (OkD.mk (by kernel_rfl)) ?_; conv => whnf)
    | fail
  exact ⟨rfl, hq _ (by unfold cmp3; rw [if_neg (by omega), if_neg (by omega)])⟩
theorem rwRoot {x : Int} (hx : I128 x) {s : List Ob} {Q : AV → List Ob → Prop} (hq : ∀ v ok, v = rootW x → ok = decide (0 ≤ x) → Q (.tup [.int .u64 v, .bool ok]) s) : AC Try.prog 17 [WA x] s Q := by
  refine AC_pure rfl ?_
  refine AC_body tok 0 Try.func17 rfl (by kernel_rfl) ?_
  conv => whnf
  refine ifP (fun g => ?_) (fun g => ?_)
  · conv => whnf
    exact ⟨rfl, hq _ _ (by unfold rootW; rw [if_pos (by unfold whi at g; omega)]) (by symm; rw [decide_eq_false_iff_not]; unfold whi at g; omega)⟩
  conv => whnf
  have x0 : 0 ≤ x := by unfold whi at g; omega
  refine ALs.invD (ι := Int × Int) tok 0 (keepN 6) (fun (i, r) => -1 ≤ i ∧ i ≤ 63 ∧ 0 ≤ r ∧ r + 2 ^ (i + 1).toNat ≤ 18446744073709551616 ∧ PN.rootBits (i + 1).toNat x r = rootW x) (fun (i, _) => (i + 1).toNat)
    (fun (i, r) => [WA x, .ptr 0 0 0, .int .u64 0, .bool false, .int .u64 r, .int .i64 i] ++ junks 27) (fun _ => [.cells 0 [.int .i64 (whi x), .int .u64 (wlo x)]]) (fun _ => ()) (63, 0) ⟨by omega, by omega, by omega, by decide, by unfold rootW; rw [if_neg (by omega)]; rfl⟩ rfl ⟨[], rfl⟩ rfl (fun _ => Nat.zero_le _) (fun _ => rfl) ?_
  rintro ⟨i, r⟩ ⟨i1, i2, i3, i4, i5⟩
  conv => whnf
  by_cases c : i ≥ 0
  · refine ifT (decide_eq_true c) ?_
    obtain ⟨n, rfl⟩ := Int.eq_ofNat_of_zero_le c
    conv => whnf
    rw [show ((n : Int) + 1).toNat = n + 1 by omega] at i4 i5
    have p0 := PN.pow_pos n
    rw [PN.pow_s] at i4
    have es : Z.shl .u64 1 (n : Int) = 2 ^ n := by
      rw [PN.shl_one (by omega) (by show Int.toNat (n : Int) ≤ 64; omega)]
      exact Z.wrap_uid (by simp; omega) (by simp; omega)
    have ea : Z.add .u64 r (2 ^ n) = r + 2 ^ n := Z.wrap_uid (by omega) (by omega)
    rw [es, ea]
    obtain ⟨m, em⟩ : ∃ m, r + 2 ^ n = m := ⟨_, rfl⟩
    rw [em]
    have m0 : 0 ≤ m * m := Int.mul_nonneg (by omega) (by omega)
    have m1 : m * m ≤ 18446744073709551615 * 18446744073709551615 := Int.mul_le_mul (by omega) (by omega) (by omega) (by omega)
    have rb : PN.rootBits n x (if m * m ≤ x then m else r) = rootW x := by rw [← i5, ← em]; rfl
    have ei : Z.sub .i64 (n : Int) 1 = (n : Int) - 1 := Z.wrap_iid (by omega) (by omega)
    have fin : ∀ r', (r' = if m * m ≤ x then m else r) → ((n : Int) - 1 + 1).toNat < ((n : Int) + 1).toNat ∧ -1 ≤ (n : Int) - 1 ∧ (n : Int) - 1 ≤ 63 ∧ 0 ≤ r' ∧ r' + 2 ^ ((n : Int) - 1 + 1).toNat ≤ 18446744073709551616 ∧ PN.rootBits ((n : Int) - 1 + 1).toNat x r' = rootW x := by
      intro r' e'
      rw [show ((n : Int) - 1 + 1).toNat = n by omega, e', rb]
      refine ⟨by omega, by omega, by omega, ?_, ?_, rfl⟩ <;> split <;> omega
    try (refine AW_draw tok hP ?_; conv => whnf)
    first | refine AQ_pure (fun sK QK hK => rwSquare (n := m) (by unfold U64; omega) hK) ?_ | refine rwSquare (n := m) (by unfold U64; omega) ?_
    conv => whnf
    try (refine And.intro (OkD.mk (by kernel_rfl)) ?_; conv => whnf)
    by_cases h1 : whi (w128 (m * m)) ≥ 0
    · rw [decide_eq_true h1]
      conv => whnf
      have h1' : w128 (m * m) = m * m := by unfold whi at h1; unfold w128 at *; omega
      try (refine AW_draw tok hP ?_; conv => whnf)
      first | refine AQ_int (fun sK QK hK => rwCmp (PW.w128_i _) hx hK) (fun c1 hc1 => ?_) | refine rwCmp (PW.w128_i _) hx (fun c1 hc1 => ?_)
      conv => whnf
      try (refine And.intro (OkD.mk (by kernel_rfl)) ?_; conv => whnf)
      rw [h1'] at hc1
      by_cases h2 : m * m ≤ x
      · refine ifT (decide_eq_true (show c1 ≤ 0 by rw [hc1]; unfold cmp3; split <;> (try split) <;> omega)) ?_
        conv => whnf
        have f := fin (Z.add .u64 r (Z.shl .u64 1 (n : Int))) (by rw [es, ea, em, if_pos h2])
        rw [← ei] at f
        exact ⟨(Z.sub .i64 (n : Int) 1, Z.add .u64 r (Z.shl .u64 1 (n : Int))), _, rfl, rfl, rfl, f⟩
      · refine ifF (decide_eq_false (show ¬ c1 ≤ 0 by rw [hc1]; unfold cmp3; split <;> (try split) <;> omega)) ?_
        conv => whnf
        have f := fin r (by rw [if_neg h2])
        rw [← ei] at f
        exact ⟨(Z.sub .i64 (n : Int) 1, r), _, rfl, rfl, rfl, f⟩
    · rw [decide_eq_false h1]
      conv => whnf
      have f := fin r (by rw [if_neg]; intro h2; unfold whi w128 at h1; unfold I128 at hx; omega)
      rw [← ei] at f
      exact ⟨(Z.sub .i64 (n : Int) 1, r), _, rfl, rfl, rfl, f⟩
  · refine ifF (decide_eq_false c) ?_
    conv => whnf
    refine AWs.go tok 0 ?_
    conv => whnf
    obtain rfl : i = -1 := by omega
    exact ⟨rfl, hq _ _ i5 (by symm; rw [decide_eq_true_iff]; exact x0)⟩
theorem rwOver {x d : Int} (hx : I128 x) (hd : I64 d) {s : List Ob} {Q : AV → List Ob → Prop} (hq : ∀ v ok, v = overI x d → ok = overB x d → Q (.tup [.int .i64 v, .bool ok]) s) : AC Try.prog 18 [WA x, .int .i64 d] s Q := by
  refine AC_pure rfl ?_
  refine AC_body tok 0 Try.func18 rfl (by kernel_rfl) ?_
  conv => whnf
  refine AW_draw tok hP ?_
  conv => whnf
  unfold I64 at hd
  by_cases g : d < 1
  · rw [decide_eq_true g]
    conv => whnf
    refine ⟨⟨by kernel_rfl⟩, ?_⟩
    conv => whnf
    exact ⟨rfl, hq _ _ (by unfold overI; rw [if_neg (by omega)]) (by unfold overB; symm; rw [decide_eq_false_iff_not]; omega)⟩
  rw [decide_eq_false g]
  conv => whnf
  have hx' := hx
  unfold I128 at hx'
  have dp : 0 < d := by omega
  have l1 := PW.div_ge (n := x) (k := -9223372036854775808) dp
  have l2 := PW.div_lt (n := x) (k := 9223372036854775808) dp
  try (refine AW_draw tok hP ?_; conv => whnf)
  first | refine AQ_pure (fun sK QK hK => rwMul (a := -9223372036854775808) (by decide) hd hK) ?_ | refine rwMul (a := -9223372036854775808) (by decide) hd ?_
  conv => whnf
  try (refine And.intro (OkD.mk (by kernel_rfl)) ?_; conv => whnf)
  try (refine AW_draw tok hP ?_; conv => whnf)
  first | refine AQ_int (fun sK QK hK => rwCmp hx (by unfold I128; omega) hK) (fun c1 hc1 => ?_) | refine rwCmp hx (by unfold I128; omega) (fun c1 hc1 => ?_)
  conv => whnf
  try (refine And.intro (OkD.mk (by kernel_rfl)) ?_; conv => whnf)
  by_cases g1 : -9223372036854775808 ≤ x / d
  case neg =>
    rw [decide_eq_true (show c1 < 0 by rw [hc1]; unfold cmp3; rw [if_pos (by omega)]; decide)]
    conv => whnf
    refine ⟨⟨by kernel_rfl⟩, ?_⟩
    conv => whnf
    exact ⟨rfl, hq _ _ (by unfold overI; rw [if_neg (by omega)]) (by unfold overB; symm; rw [decide_eq_false_iff_not]; omega)⟩
  rw [decide_eq_false (show ¬ c1 < 0 by rw [hc1]; unfold cmp3; rw [if_neg (by omega)]; split <;> decide)]
  conv => whnf
  try (refine AW_draw tok hP ?_; conv => whnf)
  first | refine AQ_pure (fun sK QK hK => rwMul (a := 9223372036854775807) (by decide) hd hK) ?_ | refine rwMul (a := 9223372036854775807) (by decide) hd ?_
  conv => whnf
  try (refine And.intro (OkD.mk (by kernel_rfl)) ?_; conv => whnf)
  try (refine AW_draw tok hP ?_; conv => whnf)
  first | refine AQ_pure (fun sK QK hK => rwSub hx (by unfold I128; omega) hK) ?_ | refine rwSub hx (by unfold I128; omega) ?_
  conv => whnf
  try (refine And.intro (OkD.mk (by kernel_rfl)) ?_; conv => whnf)
  try (refine AW_draw tok hP ?_; conv => whnf)
  first | refine AQ_pure (fun sK QK hK => rwOf hd hK) ?_ | refine rwOf hd ?_
  conv => whnf
  try (refine And.intro (OkD.mk (by kernel_rfl)) ?_; conv => whnf)
  try (refine AW_draw tok hP ?_; conv => whnf)
  first | refine AQ_int (fun sK QK hK => rwCmp (PW.w128_i _) (by unfold I128; omega) hK) (fun c2 hc2 => ?_) | refine rwCmp (PW.w128_i _) (by unfold I128; omega) (fun c2 hc2 => ?_)
  conv => whnf
  try (refine And.intro (OkD.mk (by kernel_rfl)) ?_; conv => whnf)
  rw [PW.w128_id (by unfold I128; omega)] at hc2
  by_cases g2 : x / d < 9223372036854775808
  case neg =>
    rw [decide_eq_true (show c2 ≥ 0 by rw [hc2]; unfold cmp3; rw [if_neg (by omega)]; split <;> decide)]
    conv => whnf
    exact ⟨rfl, hq _ _ (by unfold overI; rw [if_neg (by omega)]) (by unfold overB; symm; rw [decide_eq_false_iff_not]; omega)⟩
  rw [decide_eq_false (show ¬ c2 ≥ 0 by rw [hc2]; unfold cmp3; rw [if_pos (by omega)]; decide)]
  conv => whnf
  have ff : ∃ F, F = (if x / d < 0 then x / d else -1) := ⟨_, rfl⟩
  obtain ⟨F, hF⟩ := ff
  have F1 : -9223372036854775808 ≤ F ∧ F ≤ -1 ∧ F ≤ x / d ∧ (x / d < 0 → F = x / d) ∧ (∀ z, z ≤ -1 → z ≤ x / d → z ≤ F) := by rw [hF]; split <;> (refine ⟨by omega, by omega, by omega, by omega, fun z => by omega⟩)
  refine ALs.invD (ι := Int × Int) tok 0 (keepN 8) (fun (i, q) => -1 ≤ i ∧ i ≤ 62 ∧ -9223372036854775808 ≤ q ∧ q ≤ F ∧ F < q + 2 ^ (i + 1).toNat ∧ q + 2 ^ (i + 1).toNat ≤ 0) (fun (i, _) => (i + 1).toNat)
    (fun (i, q) => [WA x, .int .i64 d, .ptr 0 0 0, .junk, .int .i64 0, .bool false, .int .i64 q, .int .i64 i] ++ junks 64) (fun _ => [.cells 0 [.int .i64 (whi x), .int .u64 (wlo x)]]) (fun _ => ()) (62, -9223372036854775808) ⟨by omega, by omega, by omega, by omega, by show F < -9223372036854775808 + 9223372036854775808; omega, by show -9223372036854775808 + 9223372036854775808 ≤ 0; omega⟩ rfl ⟨_, rfl⟩ rfl (fun _ => Nat.zero_le _) (fun _ => rfl) ?_
  rintro ⟨i, q⟩ ⟨i1, i2, i3, i4, i5, i6⟩
  replace i1 : -1 ≤ i := i1
  replace i2 : i ≤ 62 := i2
  replace i3 : -9223372036854775808 ≤ q := i3
  replace i4 : q ≤ F := i4
  replace i5 : F < q + 2 ^ (i + 1).toNat := i5
  replace i6 : q + 2 ^ (i + 1).toNat ≤ 0 := i6
  conv => whnf
  by_cases c : i ≥ 0
  · refine ifT (decide_eq_true c) ?_
    obtain ⟨n, rfl⟩ := Int.eq_ofNat_of_zero_le c
    conv => whnf
    rw [show ((n : Int) + 1).toNat = n + 1 by omega] at i5 i6
    have p0 := PN.pow_pos n
    rw [PN.pow_s] at i5 i6
    have es : Z.shl .i64 1 (n : Int) = 2 ^ n := by
      rw [PN.shl_one (by omega) (by show Int.toNat (n : Int) ≤ 64; omega)]
      exact Z.wrap_iid (by simp; omega) (by simp; omega)
    have ea : Z.add .i64 q (2 ^ n) = q + 2 ^ n := Z.wrap_iid (by omega) (by omega)
    have ei : Z.sub .i64 (n : Int) 1 = (n : Int) - 1 := Z.wrap_iid (by omega) (by omega)
    refine AW_draw tok hP ?_
    conv => whnf
    rw [es, ea]
    have mi : I64 (q + 2 ^ n) := by unfold I64; omega
    have mm := PW.mul_i mi (show I64 d from hd)
    have dg := PW.div_ge (n := x) (k := q + 2 ^ n) dp
    have fin : ∀ q', (q' = if q + 2 ^ n ≤ x / d then q + 2 ^ n else q) → ((n : Int) - 1 + 1).toNat < ((n : Int) + 1).toNat ∧ -1 ≤ (n : Int) - 1 ∧ (n : Int) - 1 ≤ 62 ∧ -9223372036854775808 ≤ q' ∧ q' ≤ F ∧ F < q' + 2 ^ ((n : Int) - 1 + 1).toNat ∧ q' + 2 ^ ((n : Int) - 1 + 1).toNat ≤ 0 := by
      intro q' e'
      rw [show ((n : Int) - 1 + 1).toNat = n by omega, e']
      refine ⟨by omega, by omega, by omega, ?_, ?_, ?_, ?_⟩ <;> split <;> omega
    try (refine AW_draw tok hP ?_; conv => whnf)
    first | refine AQ_pure (fun sK QK hK => rwMul mi hd hK) ?_ | refine rwMul mi hd ?_
    conv => whnf
    try (refine And.intro (OkD.mk (by kernel_rfl)) ?_; conv => whnf)
    try (refine AW_draw tok hP ?_; conv => whnf)
    first | refine AQ_int (fun sK QK hK => rwCmp (by unfold I128; omega) hx hK) (fun c3 hc3 => ?_) | refine rwCmp (by unfold I128; omega) hx (fun c3 hc3 => ?_)
    conv => whnf
    try (refine And.intro (OkD.mk (by kernel_rfl)) ?_; conv => whnf)
    by_cases h2 : q + 2 ^ n ≤ x / d
    · refine ifT (decide_eq_true (show c3 ≤ 0 by rw [hc3]; unfold cmp3; split <;> (try split) <;> omega)) ?_
      conv => whnf
      have f := fin (Z.add .i64 q (Z.shl .i64 1 (n : Int))) (by rw [es, ea, if_pos h2])
      rw [← ei] at f
      exact ⟨(Z.sub .i64 (n : Int) 1, Z.add .i64 q (Z.shl .i64 1 (n : Int))), _, rfl, rfl, rfl, f⟩
    · refine ifF (decide_eq_false (show ¬ c3 ≤ 0 by rw [hc3]; unfold cmp3; split <;> (try split) <;> omega)) ?_
      conv => whnf
      have f := fin q (by rw [if_neg h2])
      rw [← ei] at f
      exact ⟨(Z.sub .i64 (n : Int) 1, q), _, rfl, rfl, rfl, f⟩
  refine ifF (decide_eq_false c) ?_
  conv => whnf
  refine AWs.go tok 0 ?_
  conv => whnf
  obtain rfl : i = -1 := by omega
  replace i5 : F < q + 1 := i5
  obtain rfl : q = F := by omega
  try (refine AW_draw tok hP ?_; conv => whnf)
  first | refine AQ_pure (fun sK QK hK => rwMul (a := 0) (by decide) hd hK) ?_ | refine rwMul (a := 0) (by decide) hd ?_
  conv => whnf
  try (refine And.intro (OkD.mk (by kernel_rfl)) ?_; conv => whnf)
  try (refine AW_draw tok hP ?_; conv => whnf)
  first | refine AQ_int (fun sK QK hK => rwCmp (by rw [Int.zero_mul]; decide) hx hK) (fun c4 hc4 => ?_) | refine rwCmp (by rw [Int.zero_mul]; decide) hx (fun c4 hc4 => ?_)
  conv => whnf
  try (refine And.intro (OkD.mk (by kernel_rfl)) ?_; conv => whnf)
  rw [Int.zero_mul] at hc4
  have dg0 := PW.div_ge (n := x) (k := 0) dp
  rw [Int.zero_mul] at dg0
  by_cases g4 : x / d < 0
  · rw [decide_eq_false (show ¬ c4 ≤ 0 by rw [hc4]; unfold cmp3; split <;> (try split) <;> omega)]
    conv => whnf
    refine ⟨⟨by kernel_rfl⟩, ?_⟩
    conv => whnf
    refine AWs.go tok 0 ?_
    conv => whnf
    exact ⟨rfl, hq _ _ (by unfold overI; rw [if_pos (by omega)]; omega) (by unfold overB; symm; rw [decide_eq_true_iff]; omega)⟩
  rw [decide_eq_true (show c4 ≤ 0 by rw [hc4]; unfold cmp3; split <;> (try split) <;> omega)]
  conv => whnf
  rw [decide_eq_true (show q < 0 by omega)]
  conv => whnf
  refine ⟨⟨by kernel_rfl⟩, ?_⟩
  conv => whnf
  obtain ⟨F', hF'⟩ : ∃ F', F' = x / d := ⟨_, rfl⟩
  refine ALs.invD (ι := Int × Int) tok 0 [true, true, true, true, true, true, true, false, true] (fun (i, q) => -1 ≤ i ∧ i ≤ 62 ∧ 0 ≤ q ∧ q ≤ F' ∧ F' < q + 2 ^ (i + 1).toNat ∧ q + 2 ^ (i + 1).toNat ≤ 9223372036854775808) (fun (i, _) => (i + 1).toNat)
    (fun (i, q) => [WA x, .int .i64 d, .ptr 0 0 0, .junk, .int .i64 0, .bool false, .int .i64 q, .junk, .int .i64 i] ++ junks 63) (fun _ => [.cells 0 [.int .i64 (whi x), .int .u64 (wlo x)]]) (fun _ => ()) (62, 0) ⟨by omega, by omega, by omega, by omega, by show F' < 0 + 9223372036854775808; omega, by show (0 : Int) + 9223372036854775808 ≤ 9223372036854775808; omega⟩ rfl ⟨_, rfl⟩ rfl (fun _ => Nat.zero_le _) (fun _ => rfl) ?_
  rintro ⟨i, q⟩ ⟨i1, i2, i3, i4, i5, i6⟩
  replace i1 : -1 ≤ i := i1
  replace i2 : i ≤ 62 := i2
  replace i3 : 0 ≤ q := i3
  replace i4 : q ≤ F' := i4
  replace i5 : F' < q + 2 ^ (i + 1).toNat := i5
  replace i6 : q + 2 ^ (i + 1).toNat ≤ 9223372036854775808 := i6
  conv => whnf
  by_cases c : i ≥ 0
  · refine ifT (decide_eq_true c) ?_
    obtain ⟨n, rfl⟩ := Int.eq_ofNat_of_zero_le c
    conv => whnf
    rw [show ((n : Int) + 1).toNat = n + 1 by omega] at i5 i6
    have p0 := PN.pow_pos n
    rw [PN.pow_s] at i5 i6
    have es : Z.shl .i64 1 (n : Int) = 2 ^ n := by
      rw [PN.shl_one (by omega) (by show Int.toNat (n : Int) ≤ 64; omega)]
      exact Z.wrap_iid (by simp; omega) (by simp; omega)
    have ea : Z.add .i64 q (2 ^ n) = q + 2 ^ n := Z.wrap_iid (by omega) (by omega)
    have ei : Z.sub .i64 (n : Int) 1 = (n : Int) - 1 := Z.wrap_iid (by omega) (by omega)
    refine AW_draw tok hP ?_
    conv => whnf
    rw [es, ea]
    have mi : I64 (q + 2 ^ n) := by unfold I64; omega
    have mm := PW.mul_i mi (show I64 d from hd)
    have dg := PW.div_ge (n := x) (k := q + 2 ^ n) dp
    have fin : ∀ q', (q' = if q + 2 ^ n ≤ x / d then q + 2 ^ n else q) → ((n : Int) - 1 + 1).toNat < ((n : Int) + 1).toNat ∧ -1 ≤ (n : Int) - 1 ∧ (n : Int) - 1 ≤ 62 ∧ 0 ≤ q' ∧ q' ≤ F' ∧ F' < q' + 2 ^ ((n : Int) - 1 + 1).toNat ∧ q' + 2 ^ ((n : Int) - 1 + 1).toNat ≤ 9223372036854775808 := by
      intro q' e'
      rw [show ((n : Int) - 1 + 1).toNat = n by omega, e']
      refine ⟨by omega, by omega, by omega, ?_, ?_, ?_, ?_⟩ <;> split <;> omega
    try (refine AW_draw tok hP ?_; conv => whnf)
    first | refine AQ_pure (fun sK QK hK => rwMul mi hd hK) ?_ | refine rwMul mi hd ?_
    conv => whnf
    try (refine And.intro (OkD.mk (by kernel_rfl)) ?_; conv => whnf)
    try (refine AW_draw tok hP ?_; conv => whnf)
    first | refine AQ_int (fun sK QK hK => rwCmp (by unfold I128; omega) hx hK) (fun c3 hc3 => ?_) | refine rwCmp (by unfold I128; omega) hx (fun c3 hc3 => ?_)
    conv => whnf
    try (refine And.intro (OkD.mk (by kernel_rfl)) ?_; conv => whnf)
    by_cases h2 : q + 2 ^ n ≤ x / d
    · refine ifT (decide_eq_true (show c3 ≤ 0 by rw [hc3]; unfold cmp3; split <;> (try split) <;> omega)) ?_
      conv => whnf
      have f := fin (Z.add .i64 q (Z.shl .i64 1 (n : Int))) (by rw [es, ea, if_pos h2])
      rw [← ei] at f
      exact ⟨(Z.sub .i64 (n : Int) 1, Z.add .i64 q (Z.shl .i64 1 (n : Int))), _, rfl, rfl, rfl, f⟩
    · refine ifF (decide_eq_false (show ¬ c3 ≤ 0 by rw [hc3]; unfold cmp3; split <;> (try split) <;> omega)) ?_
      conv => whnf
      have f := fin q (by rw [if_neg h2])
      rw [← ei] at f
      exact ⟨(Z.sub .i64 (n : Int) 1, q), _, rfl, rfl, rfl, f⟩
  refine ifF (decide_eq_false c) ?_
  conv => whnf
  refine AWs.go tok 0 ?_
  conv => whnf
  obtain rfl : i = -1 := by omega
  replace i5 : F' < q + 1 := i5
  obtain rfl : q = F' := by omega
  exact ⟨rfl, hq _ _ (by unfold overI; rw [if_pos (by omega)]; omega) (by unfold overB; symm; rw [decide_eq_true_iff]; omega)⟩
