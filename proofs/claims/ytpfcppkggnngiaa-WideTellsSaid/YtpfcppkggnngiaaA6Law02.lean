/- Part of the proof of a law of the seat: its functions, walked. No condition. -/
import Derived.Test.YtpfcppkggnngiaaA6Wide
namespace Go.AW.A6
open Go Go.AW Go.Proofs
set_option maxRecDepth 100000
set_option linter.unusedVariables false
theorem of02 {h l : Int} {s : List Ob} {Q : AV → List Ob → Prop} (hq : Q (.agg [.int .i64 h, .int .u64 l]) s) : AC Try.prog 9 [.agg [.int .i64 h, .int .u64 l]] s Q := by
  refine AC_pure rfl ?_
  refine AC_body tok 3 Try.func9 rfl (by kernel_rfl) ?_
  conv => whnf
  exact ⟨rfl, hq⟩
theorem awake02 {s : List Ob} {Q : AV → List Ob → Prop} (hq : Q (.bool true) s) : AC Try.prog 14 [] s Q := by
  refine AC_pure rfl ?_
  refine AC_body tok 3 Try.func14 rfl (by kernel_rfl) ?_
  conv => whnf
  refine wideMul (by decide) (by decide) ?_
  conv => whnf
  refine wideOverW (by decide) (by decide) (fun v ok h1 h2 => ?_)
  conv => whnf
  obtain rfl : v = 6148914691236517205 := by rw [h1]; decide +kernel
  obtain rfl : ok = true := by rw [h2]; decide +kernel
  refine wideOf (by decide) ?_
  conv => whnf
  refine wideRootW (by decide) (fun v1 ok1 h3 h4 => ?_)
  conv => whnf
  obtain rfl : v1 = 0 := by rw [h3]; decide +kernel
  obtain rfl : ok1 = false := by rw [h4]; decide +kernel
  conv => whnf
  refine wideRootW (by decide) (fun v2 ok2 h5 h6 => ?_)
  conv => whnf
  obtain rfl : v2 = 4294967296 := by rw [h5]; decide +kernel
  obtain rfl : ok2 = true := by rw [h6]; decide +kernel
  conv => whnf
  exact ⟨rfl, hq⟩
theorem lawWideRoot (avs : List AV) (obs : List Ob) (ha : ArgC 0 [.flat (.ik .i64), .flat (.ik .u64), .flat (.ik .i64)] avs obs) : AC Try.prog 3 (groupK [some 2, none] avs) obs fun r _ => r = .bool true := by
  cases ha with | int w1 ha => cases ha with | int w2 ha => cases ha with | int w3 ha =>
  cases ha
  rename_i h l d
  obtain ⟨x, hx, rfl, rfl⟩ := PW.ofWide (wf_i64 w1) (wf_u64 w2)
  replace hd : I64 d := wf_i64 w3
  refine AC_body tok 3 Try.func3 rfl (by kernel_rfl) ?_
  conv => whnf
  refine of02 ?_
  conv => whnf
  refine wideRootW hx (fun v ok h1 h2 => ?_)
  conv => whnf
  by_cases g : 0 ≤ x
  case' pos =>
    obtain rfl : ok = true := by rw [h2]; exact decide_eq_true g
    have g2 : whi x ≥ 0 := by unfold whi; omega
    have R := PW.root_W g hx
    have Rh := PW.root_W_hi g hx
    rw [← h1] at R Rh
    have v0 := R.ge 0 (by omega)
    rw [decide_eq_true g2]
    conv => whnf
    rcases Int.lt_or_le v 9223372036854775807 with c | c
    case' inl =>
      rw [decide_eq_true c]
      conv => whnf
      rw [show IntKind.i64.wrap v = v from Z.wrap_iid (by omega) (by omega)]
      have vi : I64 v := by unfold I64; omega
      have vi' : I64 (v + 1) := by unfold I64; omega
      have ev : Z.add .i64 v 1 = v + 1 := Z.wrap_iid (by omega) (by omega)
      refine AW_draw tok hP ?_
      conv => whnf
      refine AQ_pure (fun s Q h => wideMul vi vi h) ?_
      conv => whnf
      refine AQ_int (fun s Q h => wideCmpW h) (fun c1 hc1 => ?_)
      conv => whnf
      have := R.le
      rw [decide_eq_false (show ¬ c1 > 0 by rw [hc1]; unfold cmp3; split <;> (try split) <;> omega)]
      conv => whnf
      rw [ev]
      refine AQ_pure (fun s Q h => wideMul vi' vi' h) ?_
      conv => whnf
      refine AQ_int (fun s Q h => wideCmpW h) (fun c2 hc2 => ?_)
      conv => whnf
      refine ⟨⟨by kernel_rfl⟩, ?_⟩
      conv => whnf
      have := R.lt
      rw [decide_eq_false (show ¬ c2 ≤ 0 by rw [hc2]; unfold cmp3; split <;> (try split) <;> omega)]
      conv => whnf
    case' inr =>
      rw [decide_eq_false (Int.not_lt.2 c)]
      conv => whnf
  case' neg =>
    obtain rfl : ok = false := by rw [h2]; exact decide_eq_false g
    obtain rfl : v = 0 := by rw [h1]; unfold rootW; rw [if_pos (by omega)]
    have g2 : ¬ whi x ≥ 0 := by unfold whi; omega
    rw [decide_eq_false g2]
    conv => whnf
  all_goals
    refine wideOverW hx hd (fun q is h3 h4 => ?_)
    conv => whnf
    by_cases k : 1 ≤ d ∧ -9223372036854775808 ≤ x / d ∧ x / d < 9223372036854775808
    · obtain rfl : is = true := by rw [h4]; exact decide_eq_true k
      obtain rfl : q = x / d := by rw [h3]; unfold overI; rw [if_pos k]
      have m1 := Int.emod_nonneg x (show d ≠ 0 by omega)
      have m2 := Int.emod_lt_of_pos x (show 0 < d by omega)
      have m4 : x - x / d * d = x % d := by rw [Int.emod_def, Int.mul_comm]
      obtain ⟨z, hz⟩ : ∃ z, x % d = z := ⟨_, rfl⟩
      rw [hz] at m1 m2 m4
      have m5 : w128 (x - x / d * d) = z := by rw [m4]; exact PW.w128_id (by unfold I128; unfold I64 at hd; omega)
      have qi : I64 (x / d) := ⟨k.2.1, k.2.2⟩
      have pi : I128 (x / d * d) := by have := PW.mul_i qi hd; unfold I128; omega
      conv => whnf
      repeat' first
        | (refine AW_draw tok hP ?_; conv => whnf)
        | (refine ⟨⟨by kernel_rfl⟩, ?_⟩; conv => whnf)
        | (refine wideMul qi hd ?_; conv => whnf)
        | (refine AQ_pure (fun s Q h => wideMul qi hd h) ?_; conv => whnf)
        | (refine wideSubW hx pi ?_; conv => whnf)
        | (refine AQ_pure (fun s Q h => wideSubW hx pi h) ?_; conv => whnf)
      rw [decide_eq_true (show d ≥ 1 from k.1)]
      conv => whnf
      repeat' first
        | (refine AW_draw tok hP ?_; conv => whnf)
        | (refine ⟨⟨by kernel_rfl⟩, ?_⟩; conv => whnf)
        | (refine wideOf (by decide) ?_; conv => whnf)
        | (refine AQ_pure (fun s Q h => wideOf (by decide) h) ?_; conv => whnf)
        | (refine AQ_int (fun s Q h => wideCmpW h) (fun c3 hc3 => ?_); conv => whnf)
      rw [m5] at hc3
      rw [decide_eq_true (show c3 ≥ 0 by rw [hc3]; unfold cmp3; split <;> (try split) <;> omega)]
      conv => whnf
      repeat' first
        | (refine AW_draw tok hP ?_; conv => whnf)
        | (refine ⟨⟨by kernel_rfl⟩, ?_⟩; conv => whnf)
        | (refine wideOf hd ?_; conv => whnf)
        | (refine AQ_pure (fun s Q h => wideOf hd h) ?_; conv => whnf)
        | (refine AQ_int (fun s Q h => wideCmpW h) (fun c4 hc4 => ?_); conv => whnf)
      rw [m5] at hc4
      rw [decide_eq_true (show c4 < 0 by rw [hc4]; unfold cmp3; split <;> (try split) <;> omega)]
      conv => whnf
      repeat' first
        | (refine AW_draw tok hP ?_; conv => whnf)
        | (refine ⟨⟨by kernel_rfl⟩, ?_⟩; conv => whnf)
        | (refine awake02 ?_; conv => whnf)
        | (refine AQ_pure (fun s Q h => awake02 h) ?_; conv => whnf)
    · obtain rfl : is = false := by rw [h4]; exact decide_eq_false k
      obtain rfl : q = 0 := by rw [h3]; unfold overI; rw [if_neg k]
      conv => whnf
      repeat' first
        | (refine AW_draw tok hP ?_; conv => whnf)
        | (refine ⟨⟨by kernel_rfl⟩, ?_⟩; conv => whnf)
        | (refine awake02 ?_; conv => whnf)
        | (refine AQ_pure (fun s Q h => awake02 h) ?_; conv => whnf)
theorem lawWideRing (avs : List AV) (obs : List Ob) (ha : ArgC 0 [.flat (.ik .i64), .flat (.ik .u64), .flat (.ik .i64), .flat (.ik .u64), .flat (.ik .i64), .flat (.ik .i64), .flat (.ik .i64)] avs obs) : AC Try.prog 5 (groupK [some 2, some 2, none, none, none] avs) obs fun r _ => r = .bool true := by
  cases ha with | int w1 ha => cases ha with | int w2 ha => cases ha with | int w3 ha => cases ha with | int w4 ha => cases ha with | int w5 ha => cases ha with | int w6 ha => cases ha with | int w7 ha =>
  cases ha
  rename_i h l h' l' n m k
  obtain ⟨x, hx, rfl, rfl⟩ := PW.ofWide (wf_i64 w1) (wf_u64 w2)
  obtain ⟨y, hy, rfl, rfl⟩ := PW.ofWide (wf_i64 w3) (wf_u64 w4)
  replace w5 : I64 n := wf_i64 w5
  replace w6 : I64 m := wf_i64 w6
  replace w7 : I64 k := wf_i64 w7
  refine AC_body tok 3 Try.func5 rfl (by kernel_rfl) ?_
  conv => whnf
  repeat' first
    | (refine AW_draw tok hP ?_; conv => whnf)
    | (refine ⟨⟨by kernel_rfl⟩, ?_⟩; conv => whnf)
    | (refine of02 ?_; conv => whnf)
    | (refine AQ_pure (fun s Q h => of02 h) ?_; conv => whnf)
  have e1 : w128 (w128 (x + y) - y) = x := by unfold w128; unfold I128 at hx; omega
  have e2 : y + x = x + y := by omega
  have q2 : ∀ z, I64 z → ∃ z', Z.quo .i64 z 2 = z' ∧ -4611686018427387904 ≤ z' ∧ z' ≤ 4611686018427387903 := by
    intro z hz
    refine ⟨_, rfl, ?_⟩
    unfold I64 at hz
    rw [quo_i (by omega) (by omega) (by omega)]
    rcases Int.le_total 0 z with q | q
    · rw [Int.tdiv_eq_ediv_of_nonneg q]; omega
    · obtain ⟨u, rfl⟩ : ∃ u, z = -u := ⟨-z, by omega⟩
      rw [Int.neg_tdiv, Int.tdiv_eq_ediv_of_nonneg (by omega)]; omega
  obtain ⟨n', en, n1, n2⟩ := q2 n w5
  obtain ⟨m', em, m1, m2⟩ := q2 m w6
  obtain ⟨k', ek, k1, k2⟩ := q2 k w7
  rw [en, em, ek]
  refine AQ_pure (fun s Q h => wideAddW hx hy h) ?_
  conv => whnf
  refine AQ_pure (r := WA x) (fun s Q h => wideSubW (PW.w128_i _) hy (by rw [e1]; exact h)) ?_
  conv => whnf
  rw [beq_self_eq_true (whi x), beq_self_eq_true (wlo x)]
  conv => whnf
  refine AQ_pure (fun s Q h => wideAddW hx hy h) ?_
  conv => whnf
  refine AQ_pure (r := WA (w128 (x + y))) (fun s Q h => wideAddW hy hx (by rw [e2]; exact h)) ?_
  conv => whnf
  rw [beq_self_eq_true (whi (w128 (x + y))), beq_self_eq_true (wlo (w128 (x + y)))]
  conv => whnf
  refine AQ_int (fun s Q h => wideCmpW h) (fun c1 hc1 => ?_)
  conv => whnf
  refine AQ_int (fun s Q h => wideCmpW h) (fun c2 hc2 => ?_)
  conv => whnf
  rw [show (c1 != Z.neg .i64 c2) = false by rw [hc1, hc2]; unfold cmp3; split <;> (try split) <;> (try split) <;> (try split) <;> first | rfl | omega]
  conv => whnf
  refine AQ_int (fun s Q h => wideCmpW h) (fun c3 hc3 => ?_)
  conv => whnf
  refine ⟨⟨by kernel_rfl⟩, ?_⟩
  conv => whnf
  rw [show ((c3 == 0) == (whi x == whi y && (wlo x == wlo y && true))) = true by
    rw [hc3, Bool.and_true, beq_iff_eq, Bool.eq_iff_iff]
    simp only [beq_iff_eq, Bool.and_eq_true]
    have s1 : whi x * 18446744073709551616 + wlo x = x := PW.wv_split x
    have s2 : whi y * 18446744073709551616 + wlo y = y := PW.wv_split y
    unfold cmp3
    constructor
    · intro q
      obtain rfl : x = y := by split at q <;> (try split at q) <;> omega
      exact ⟨rfl, rfl⟩
    · rintro ⟨q1, q2⟩
      obtain rfl : x = y := by omega
      split <;> (try split) <;> omega]
  conv => whnf
  have ni : I64 n' := by unfold I64; omega
  have mi : I64 m' := by unfold I64; omega
  have ki : I64 k' := by unfold I64; omega
  have eadd : Z.add .i64 m' k' = m' + k' := Z.wrap_iid (by omega) (by omega)
  have mki : I64 (m' + k') := by unfold I64; omega
  have esub : Z.sub .i64 n' m' = n' - m' := Z.wrap_iid (by omega) (by omega)
  have nmi : I64 (n' - m') := by unfold I64; omega
  have p1 := PW.mul_i ni mi
  have p2 := PW.mul_i ni ki
  have p3 := PW.mul_i ni mki
  have ed : n' * m' + n' * k' = n' * (m' + k') := (Int.mul_add _ _ _).symm
  try (refine AW_draw tok hP ?_; conv => whnf)
  first | refine AQ_pure (fun sK QK hK => wideMul ni mi hK) ?_ | refine wideMul ni mi ?_
  conv => whnf
  try (refine And.intro (OkD.mk (by kernel_rfl)) ?_; conv => whnf)
  try (refine AW_draw tok hP ?_; conv => whnf)
  first | refine AQ_pure (r := WA (n' * m')) (fun sK QK hK => wideMul mi ni (by rw [Int.mul_comm m' n']; exact hK)) ?_ | refine AC_pureR (r := WA (n' * m')) (fun sK QK hK => wideMul mi ni (by rw [Int.mul_comm m' n']; exact hK)) ?_
  conv => whnf
  try (refine And.intro (OkD.mk (by kernel_rfl)) ?_; conv => whnf)
  rw [beq_self_eq_true (whi (n' * m')), beq_self_eq_true (wlo (n' * m'))]
  conv => whnf
  rw [eadd]
  try (refine AW_draw tok hP ?_; conv => whnf)
  first | refine AQ_pure (fun sK QK hK => wideMul ni mki hK) ?_ | refine wideMul ni mki ?_
  conv => whnf
  try (refine And.intro (OkD.mk (by kernel_rfl)) ?_; conv => whnf)
  try (refine AW_draw tok hP ?_; conv => whnf)
  first | refine AQ_pure (fun sK QK hK => wideMul ni mi hK) ?_ | refine wideMul ni mi ?_
  conv => whnf
  try (refine And.intro (OkD.mk (by kernel_rfl)) ?_; conv => whnf)
  try (refine AW_draw tok hP ?_; conv => whnf)
  first | refine AQ_pure (fun sK QK hK => wideMul ni ki hK) ?_ | refine wideMul ni ki ?_
  conv => whnf
  try (refine And.intro (OkD.mk (by kernel_rfl)) ?_; conv => whnf)
  try (refine AW_draw tok hP ?_; conv => whnf)
  first | refine AQ_pure (r := WA (n' * (m' + k'))) (fun sK QK hK => wideAddW (by unfold I128; omega) (by unfold I128; omega) (by rw [ed, PW.w128_id (n := n' * (m' + k')) (by unfold I128; omega)]; exact hK)) ?_ | refine AC_pureR (r := WA (n' * (m' + k'))) (fun sK QK hK => wideAddW (by unfold I128; omega) (by unfold I128; omega) (by rw [ed, PW.w128_id (n := n' * (m' + k')) (by unfold I128; omega)]; exact hK)) ?_
  conv => whnf
  try (refine And.intro (OkD.mk (by kernel_rfl)) ?_; conv => whnf)
  rw [beq_self_eq_true (whi (n' * (m' + k'))), beq_self_eq_true (wlo (n' * (m' + k')))]
  conv => whnf
  try (refine AW_draw tok hP ?_; conv => whnf)
  first | refine AQ_pure (fun sK QK hK => wideOf ni hK) ?_ | refine wideOf ni ?_
  conv => whnf
  try (refine And.intro (OkD.mk (by kernel_rfl)) ?_; conv => whnf)
  try (refine AW_draw tok hP ?_; conv => whnf)
  first | refine AQ_pure (fun sK QK hK => wideOf mi hK) ?_ | refine wideOf mi ?_
  conv => whnf
  try (refine And.intro (OkD.mk (by kernel_rfl)) ?_; conv => whnf)
  try (refine AW_draw tok hP ?_; conv => whnf)
  first | refine AQ_pure (r := WA (n' - m')) (fun sK QK hK => wideSubW (by unfold I128 I64 at *; omega) (by unfold I128 I64 at *; omega) (by rw [PW.w128_id (n := n' - m') (by unfold I128 I64 at *; omega)]; exact hK)) ?_ | refine AC_pureR (r := WA (n' - m')) (fun sK QK hK => wideSubW (by unfold I128 I64 at *; omega) (by unfold I128 I64 at *; omega) (by rw [PW.w128_id (n := n' - m') (by unfold I128 I64 at *; omega)]; exact hK)) ?_
  conv => whnf
  try (refine And.intro (OkD.mk (by kernel_rfl)) ?_; conv => whnf)
  rw [esub]
  try (refine AW_draw tok hP ?_; conv => whnf)
  first | refine AQ_pure (fun sK QK hK => wideOf nmi hK) ?_ | refine wideOf nmi ?_
  conv => whnf
  try (refine And.intro (OkD.mk (by kernel_rfl)) ?_; conv => whnf)
  rw [beq_self_eq_true (whi (n' - m')), beq_self_eq_true (wlo (n' - m'))]
  conv => whnf
  obtain ⟨n3, hn3⟩ : ∃ z, Z.shr .i64 n' 32 = z := ⟨_, rfl⟩
  obtain ⟨m3, hm3⟩ : ∃ z, Z.shr .i64 m' 32 = z := ⟨_, rfl⟩
  have a1 : -1073741824 ≤ n3 ∧ n3 ≤ 1073741824 := by rw [← hn3, Z.shr_eq 32 rfl]; omega
  have a2 : -1073741824 ≤ m3 ∧ m3 ≤ 1073741824 := by rw [← hm3, Z.shr_eq 32 rfl]; omega
  have n3i : I64 n3 := by unfold I64; omega
  have m3i : I64 m3 := by unfold I64; omega
  rw [hn3, hm3]
  try (refine AW_draw tok hP ?_; conv => whnf)
  first | refine AQ_pure (fun sK QK hK => wideMul n3i m3i hK) ?_ | refine wideMul n3i m3i ?_
  conv => whnf
  try (refine And.intro (OkD.mk (by kernel_rfl)) ?_; conv => whnf)
  refine AW_draw tok hP ?_
  conv => whnf
  have p4 : -1152921504606846976 ≤ n3 * m3 ∧ n3 * m3 ≤ 1152921504606846976 := by
    have b1 : 0 ≤ (n3 + 1073741824) * (m3 + 1073741824) := Int.mul_nonneg (by omega) (by omega)
    have b2 : 0 ≤ (1073741824 - n3) * (m3 + 1073741824) := Int.mul_nonneg (by omega) (by omega)
    have b3 : 0 ≤ (n3 + 1073741824) * (1073741824 - m3) := Int.mul_nonneg (by omega) (by omega)
    have b4 : 0 ≤ (1073741824 - n3) * (1073741824 - m3) := Int.mul_nonneg (by omega) (by omega)
    simp only [Int.add_mul, Int.mul_add, Int.sub_mul, Int.mul_sub] at b1 b2 b3 b4
    omega
  have e5 : Z.mul .i64 n3 m3 = n3 * m3 := Z.wrap_iid (by omega) (by omega)
  have pi4 : I64 (n3 * m3) := by unfold I64; omega
  rw [hn3, hm3, e5]
  try (refine AW_draw tok hP ?_; conv => whnf)
  first | refine AQ_pure (fun sK QK hK => wideOf pi4 hK) ?_ | refine wideOf pi4 ?_
  conv => whnf
  try (refine And.intro (OkD.mk (by kernel_rfl)) ?_; conv => whnf)
  rw [beq_self_eq_true (whi (n3 * m3)), beq_self_eq_true (wlo (n3 * m3))]
  conv => whnf
  try (refine AW_draw tok hP ?_; conv => whnf)
  first | refine AQ_pure (fun sK QK hK => wideOf ni hK) ?_ | refine wideOf ni ?_
  conv => whnf
  try (refine And.intro (OkD.mk (by kernel_rfl)) ?_; conv => whnf)
  try (refine AW_draw tok hP ?_; conv => whnf)
  first | refine AQ_pure (fun sK QK hK => wideOf mi hK) ?_ | refine wideOf mi ?_
  conv => whnf
  try (refine And.intro (OkD.mk (by kernel_rfl)) ?_; conv => whnf)
  try (refine AW_draw tok hP ?_; conv => whnf)
  first | refine AQ_int (fun sK QK hK => wideCmpW hK) (fun c4 hc4 => ?_) | refine wideCmpW (fun c4 hc4 => ?_)
  conv => whnf
  try (refine And.intro (OkD.mk (by kernel_rfl)) ?_; conv => whnf)
  rw [show (decide (c4 < 0) == decide (n' < m')) = true by rw [hc4, beq_iff_eq]; unfold cmp3; exact decide_eq_decide.2 (by split <;> (try split) <;> omega)]
  conv => whnf
  try (refine AW_draw tok hP ?_; conv => whnf)
  first | refine AQ_pure (fun sK QK hK => awake02 hK) ?_ | refine awake02 ?_
  conv => whnf
  try (refine And.intro (OkD.mk (by kernel_rfl)) ?_; conv => whnf)
