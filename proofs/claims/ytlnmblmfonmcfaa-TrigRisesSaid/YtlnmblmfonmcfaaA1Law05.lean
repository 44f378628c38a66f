/- Part of the proof of a law of the seat: its functions, walked. No condition. -/
import Derived.Test.YtlnmblmfonmcfaaA1TrigSteps
namespace Go.AW.A1
open Go Go.AW Go.Proofs
set_option maxRecDepth 100000
set_option linter.unusedVariables false
theorem trigSquare {h : Int} (h0 : I64 h) {s : List Ob} {Q : AV → List Ob → Prop} (hq : ∀ v, v = cosI h * cosI h + sinI h * sinI h → Q (.int .i64 v) s) : AC Try.prog 14 [.int .i64 h] s Q := by
  refine AC_pure rfl ?_
  refine AC_body tok 0 Try.func14 rfl (by kernel_rfl) ?_
  conv => whnf
  try (refine AW_draw tok hP ?_; conv => whnf)
  first | refine AQ_two (fun sK QK hK => trigBoth h0 hK) (fun c sn hc hs => ?_) | refine trigBoth h0 (fun c sn hc hs => ?_)
  conv => whnf
  try (refine And.intro (OkD.mk (by kernel_rfl)) ?_; conv => whnf)
  have b1 := PT.cos_le h
  have b2 := PT.sin_le h
  rw [← hc] at b1
  rw [← hs] at b2
  have m1 := PT.sq_b b1
  have m2 := PT.sq_b b2
  rw [show Z.mul .i64 c c = c * c from Z.wrap_iid (by omega) (by omega), show Z.mul .i64 sn sn = sn * sn from Z.wrap_iid (by omega) (by omega), show Z.add .i64 (c * c) (sn * sn) = c * c + sn * sn from Z.wrap_iid (by omega) (by omega)]
  exact ⟨rfl, hq _ (by rw [hc, hs])⟩
theorem awake05 {s : List Ob} {Q : AV → List Ob → Prop} (hq : Q (.bool true) s) : AC Try.prog 15 [] s Q := by
  refine AC_pure rfl ?_
  refine AC_body tok 0 Try.func15 rfl (by kernel_rfl) ?_
  conv => whnf
  try (refine AW_draw tok hP ?_; conv => whnf)
  first | refine AQ_two (fun sK QK hK => trigBoth (by decide) hK) (fun c sn hc hs => ?_) | refine trigBoth (by decide) (fun c sn hc hs => ?_)
  conv => whnf
  try (refine And.intro (OkD.mk (by kernel_rfl)) ?_; conv => whnf)
  obtain rfl : c = 0 := by rw [hc]; decide
  obtain rfl : sn = 16384 := by rw [hs]; decide
  conv => whnf
  try (refine AW_draw tok hP ?_; conv => whnf)
  first | refine AQ_int (fun sK QK hK => trigSin (by decide) hK) (fun a ha => ?_) | refine trigSin (by decide) (fun a ha => ?_)
  conv => whnf
  try (refine And.intro (OkD.mk (by kernel_rfl)) ?_; conv => whnf)
  obtain rfl : a = 16384 := by rw [ha]; decide
  conv => whnf
  try (refine AW_draw tok hP ?_; conv => whnf)
  first | refine AQ_int (fun sK QK hK => trigSin (by decide) hK) (fun b hb => ?_) | refine trigSin (by decide) (fun b hb => ?_)
  conv => whnf
  try (refine And.intro (OkD.mk (by kernel_rfl)) ?_; conv => whnf)
  obtain rfl : b = 0 := by rw [hb]; decide
  conv => whnf
  try (refine AW_draw tok hP ?_; conv => whnf)
  first | refine AQ_int (fun sK QK hK => trigCos (by decide) hK) (fun d hd => ?_) | refine trigCos (by decide) (fun d hd => ?_)
  conv => whnf
  try (refine And.intro (OkD.mk (by kernel_rfl)) ?_; conv => whnf)
  obtain rfl : d = -16384 := by rw [hd]; decide
  conv => whnf
  refine trigSteps (n := 3) (by decide) (by decide) ?_
  conv => whnf
  try (refine AW_draw tok hP ?_; conv => whnf)
  first | refine AQ_int (fun sK QK hK => trigSquare (by decide) hK) (fun q hq' => ?_) | refine trigSquare (by decide) (fun q hq' => ?_)
  conv => whnf
  try (refine And.intro (OkD.mk (by kernel_rfl)) ?_; conv => whnf)
  obtain rfl : q = 268435456 := by rw [hq']; decide
  conv => whnf
  exact ⟨rfl, hq⟩
theorem lawTrigTurns (avs : List AV) (obs : List Ob) (ha : ArgC 0 [.flat (.ik .i64)] avs obs) : AC Try.prog 4 (groupK [none] avs) obs fun r _ => r = .bool true := by
  cases ha with | int w1 ha =>
  cases ha
  rename_i h0
  replace w1 : I64 h0 := wf_i64 w1
  refine AC_body tok 3 Try.func4 rfl (by kernel_rfl) ?_
  conv => whnf
  obtain ⟨h, eh, h1, h2⟩ : ∃ h, Z.quo .i64 h0 2 = h ∧ -4611686018427387904 ≤ h ∧ h ≤ 4611686018427387903 := by
    refine ⟨_, rfl, ?_⟩
    unfold I64 at w1
    rw [quo_i (by omega) (by omega) (by omega)]
    rcases Int.le_total 0 h0 with q | q
    · rw [Int.tdiv_eq_ediv_of_nonneg q]; omega
    · obtain ⟨u, rfl⟩ : ∃ u, h0 = -u := ⟨-h0, by omega⟩
      rw [Int.neg_tdiv, Int.tdiv_eq_ediv_of_nonneg (by omega)]; omega
  rw [eh]
  have hi : I64 h := by unfold I64; omega
  have b1 := PT.sin_le h
  have b2 := PT.cos_le h
  try (refine AW_draw tok hP ?_; conv => whnf)
  first | refine AQ_int (fun sK QK hK => trigSin hi hK) (fun s0 hs => ?_) | refine trigSin hi (fun s0 hs => ?_)
  conv => whnf
  try (refine And.intro (OkD.mk (by kernel_rfl)) ?_; conv => whnf)
  try (refine AW_draw tok hP ?_; conv => whnf)
  first | refine AQ_int (fun sK QK hK => trigCos hi hK) (fun c0 hc => ?_) | refine trigCos hi (fun c0 hc => ?_)
  conv => whnf
  try (refine And.intro (OkD.mk (by kernel_rfl)) ?_; conv => whnf)
  rw [← hs] at b1
  rw [← hc] at b2
  have en : ∀ z, -16384 ≤ z ∧ z ≤ 16384 → Z.neg .i64 z = -z := fun z hz => by rw [show Z.neg .i64 z = 0 - z from Z.wrap_iid (by omega) (by omega)]; omega
  rw [show Z.add .i64 h 32768 = h + 32768 from Z.wrap_iid (by omega) (by omega)]
  try (refine AW_draw tok hP ?_; conv => whnf)
  first | refine AQ_int (fun sK QK hK => trigSin (by unfold I64; omega) hK) (fun a1 e1 => ?_) | refine trigSin (by unfold I64; omega) (fun a1 e1 => ?_)
  conv => whnf
  try (refine And.intro (OkD.mk (by kernel_rfl)) ?_; conv => whnf)
  rw [show (a1 == Z.neg .i64 s0) = true by rw [beq_iff_eq, e1, en s0 b1, hs]; exact PT.sin_half h]
  conv => whnf
  rw [show Z.add .i64 h 32768 = h + 32768 from Z.wrap_iid (by omega) (by omega)]
  try (refine AW_draw tok hP ?_; conv => whnf)
  first | refine AQ_int (fun sK QK hK => trigCos (by unfold I64; omega) hK) (fun a2 e2 => ?_) | refine trigCos (by unfold I64; omega) (fun a2 e2 => ?_)
  conv => whnf
  try (refine And.intro (OkD.mk (by kernel_rfl)) ?_; conv => whnf)
  rw [show (a2 == Z.neg .i64 c0) = true by rw [beq_iff_eq, e2, en c0 b2, hc]; exact PT.cos_half h]
  conv => whnf
  rw [show Z.sub .i64 32768 h = 32768 - h from Z.wrap_iid (by omega) (by omega)]
  try (refine AW_draw tok hP ?_; conv => whnf)
  first | refine AQ_int (fun sK QK hK => trigSin (by unfold I64; omega) hK) (fun a3 e3 => ?_) | refine trigSin (by unfold I64; omega) (fun a3 e3 => ?_)
  conv => whnf
  try (refine And.intro (OkD.mk (by kernel_rfl)) ?_; conv => whnf)
  rw [show (a3 == s0) = true by rw [beq_iff_eq, e3, hs]; exact PT.sin_back h]
  conv => whnf
  rw [show Z.neg .i64 h = -h by rw [show Z.neg .i64 h = 0 - h from Z.wrap_iid (by omega) (by omega)]; omega]
  try (refine AW_draw tok hP ?_; conv => whnf)
  first | refine AQ_int (fun sK QK hK => trigCos (by unfold I64; omega) hK) (fun a4 e4 => ?_) | refine trigCos (by unfold I64; omega) (fun a4 e4 => ?_)
  conv => whnf
  try (refine And.intro (OkD.mk (by kernel_rfl)) ?_; conv => whnf)
  rw [show (a4 == c0) = true by rw [beq_iff_eq, e4, hc]; exact PT.cos_neg h]
  conv => whnf
  rw [show Z.add .i64 h 65536 = h + 65536 from Z.wrap_iid (by omega) (by omega)]
  try (refine AW_draw tok hP ?_; conv => whnf)
  first | refine AQ_int (fun sK QK hK => trigSin (by unfold I64; omega) hK) (fun a5 e5 => ?_) | refine trigSin (by unfold I64; omega) (fun a5 e5 => ?_)
  conv => whnf
  try (refine And.intro (OkD.mk (by kernel_rfl)) ?_; conv => whnf)
  rw [show (a5 == s0) = true by rw [beq_iff_eq, e5, hs]; exact PT.sin_mod (by omega)]
  conv => whnf
  rw [show Z.add .i64 h 16384 = h + 16384 from Z.wrap_iid (by omega) (by omega)]
  try (refine AW_draw tok hP ?_; conv => whnf)
  first | refine AQ_int (fun sK QK hK => trigSin (by unfold I64; omega) hK) (fun a6 e6 => ?_) | refine trigSin (by unfold I64; omega) (fun a6 e6 => ?_)
  conv => whnf
  try (refine And.intro (OkD.mk (by kernel_rfl)) ?_; conv => whnf)
  rw [show (a6 == c0) = true by rw [beq_iff_eq, e6, hc]; exact (PT.cos_sin h).symm]
  conv => whnf
  rw [decide_eq_true (show s0 ≥ -16384 from b1.1)]
  conv => whnf
  rw [decide_eq_true (show s0 ≤ 16384 from b1.2)]
  conv => whnf
  try (refine AW_draw tok hP ?_; conv => whnf)
  first | refine AQ_pure (fun sK QK hK => awake05 hK) ?_ | refine awake05 ?_
  conv => whnf
  try (refine And.intro (OkD.mk (by kernel_rfl)) ?_; conv => whnf)
theorem lawTrigRises (avs : List AV) (obs : List Ob) (ha : ArgC 0 [.flat (.ik .u16), .flat (.ik .u16), .flat (.ik .u16)] avs obs) : AC Try.prog 5 (groupK [none, none, none] avs) obs fun r _ => r = .bool true := by
  cases ha with | int w1 ha => cases ha with | int w2 ha => cases ha with | int w3 ha =>
  cases ha
  rename_i a b h
  replace w1 := wf_u16 w1
  replace w2 := wf_u16 w2
  replace w3 := wf_u16 w3
  refine AC_body tok 3 Try.func5 rfl (by kernel_rfl) ?_
  conv => whnf
  have rm : ∀ z : Int, 0 ≤ z ∧ z < 65536 → ∃ w, Z.rem .i64 (IntKind.i64.wrap z) 16385 = w ∧ 0 ≤ w ∧ w ≤ 16384 := by
    intro z hz
    refine ⟨_, rfl, ?_⟩
    rw [show IntKind.i64.wrap z = z from Z.wrap_iid (by omega) (by omega)]
    unfold Z.rem
    rw [Int.tmod_eq_emod_of_nonneg hz.1]
    omega
  obtain ⟨x, ex, x0, x1⟩ := rm a w1
  obtain ⟨y, ey, y0, y1⟩ := rm b w2
  rw [ex, ey, show IntKind.i64.wrap h = h from Z.wrap_iid (by omega) (by omega)]
  try (refine AW_draw tok hP ?_; conv => whnf)
  first | refine AQ_int (fun sK QK hK => trigSquare (by unfold I64; omega) hK) (fun q hq => ?_) | refine trigSquare (by unfold I64; omega) (fun q hq => ?_)
  conv => whnf
  try (refine And.intro (OkD.mk (by kernel_rfl)) ?_; conv => whnf)
  have qb := PT.sq_any h
  rw [← hq] at qb
  have sb : ∀ z, 0 ≤ z → z ≤ 16384 → sinI z = bowI z := fun z h0 h1 => by unfold sinI; rw [show z % 65536 = z by omega, if_pos (by omega)]
  have e1 : Z.sub .i64 q 268435456 = q - 268435456 := Z.wrap_iid (by omega) (by omega)
  have e2 : Z.sub .i64 268435456 q = 268435456 - q := Z.wrap_iid (by omega) (by omega)
  by_cases g : x > y
  case' pos =>
    rw [decide_eq_true g]
    conv => whnf
  case' neg =>
    rw [decide_eq_false g]
    conv => whnf
    try (refine AW_draw tok hP ?_; conv => whnf)
    first | refine AQ_int (fun sK QK hK => trigSin (by unfold I64; omega) hK) (fun a1 h1 => ?_) | refine trigSin (by unfold I64; omega) (fun a1 h1 => ?_)
    conv => whnf
    try (refine And.intro (OkD.mk (by kernel_rfl)) ?_; conv => whnf)
    try (refine AW_draw tok hP ?_; conv => whnf)
    first | refine AQ_int (fun sK QK hK => trigSin (by unfold I64; omega) hK) (fun a2 h2 => ?_) | refine trigSin (by unfold I64; omega) (fun a2 h2 => ?_)
    conv => whnf
    try (refine And.intro (OkD.mk (by kernel_rfl)) ?_; conv => whnf)
    rw [decide_eq_true (show a1 ≤ a2 by rw [h1, h2, sb x x0 x1, sb y y0 y1]; exact PT.bow_mono x0 (by omega) y1)]
    conv => whnf
  all_goals
    rw [e1, decide_eq_true (show q - 268435456 ≤ 2684354 by omega)]
    conv => whnf
    rw [e2, decide_eq_true (show 268435456 - q ≤ 2684354 by omega)]
    conv => whnf
    try (refine AW_draw tok hP ?_; conv => whnf)
    first | refine AQ_pure (fun sK QK hK => awake05 hK) ?_ | refine awake05 ?_
    conv => whnf
    try (refine And.intro (OkD.mk (by kernel_rfl)) ?_; conv => whnf)
theorem lawTrigTells (avs : List AV) (obs : List Ob) (ha : ArgC 0 [.flat (.ik .i64), .flat (.ik .i64)] avs obs) : AC Try.prog 3 (groupK [none, none] avs) obs fun r _ => r = .bool true := by
  cases ha with | int w1 ha => cases ha with | int w2 ha =>
  cases ha
  rename_i h n
  replace w1 : I64 h := wf_i64 w1
  replace w2 : I64 n := wf_i64 w2
  refine AC_body tok 0 Try.func3 rfl (by kernel_rfl) ?_
  conv => whnf
  try (refine AW_draw tok hP ?_; conv => whnf)
  first | refine AQ_two (fun sK QK hK => trigBoth w1 hK) (fun c0 s0 hc hs => ?_) | refine trigBoth w1 (fun c0 s0 hc hs => ?_)
  conv => whnf
  try (refine And.intro (OkD.mk (by kernel_rfl)) ?_; conv => whnf)
  have b1 := PT.sin_le h
  have b2 := PT.cos_le h
  rw [← hs] at b1
  rw [← hc] at b2
  have m1 := PT.sq_b b1
  have m2 := PT.sq_b b2
  try (refine AW_draw tok hP ?_; conv => whnf)
  first | refine AQ_int (fun sK QK hK => trigSin w1 hK) (fun a1 h1 => ?_) | refine trigSin w1 (fun a1 h1 => ?_)
  conv => whnf
  try (refine And.intro (OkD.mk (by kernel_rfl)) ?_; conv => whnf)
  try (refine AW_draw tok hP ?_; conv => whnf)
  first | refine AQ_int (fun sK QK hK => refSin w1 hK) (fun a2 h2 => ?_) | refine refSin w1 (fun a2 h2 => ?_)
  conv => whnf
  try (refine And.intro (OkD.mk (by kernel_rfl)) ?_; conv => whnf)
  rw [show (a1 != a2) = false by rw [h1, h2]; simp]
  conv => whnf
  try (refine AW_draw tok hP ?_; conv => whnf)
  first | refine AQ_int (fun sK QK hK => trigCos w1 hK) (fun a3 h3 => ?_) | refine trigCos w1 (fun a3 h3 => ?_)
  conv => whnf
  try (refine And.intro (OkD.mk (by kernel_rfl)) ?_; conv => whnf)
  try (refine AW_draw tok hP ?_; conv => whnf)
  first | refine AQ_int (fun sK QK hK => refCos w1 hK) (fun a4 h4 => ?_) | refine refCos w1 (fun a4 h4 => ?_)
  conv => whnf
  try (refine And.intro (OkD.mk (by kernel_rfl)) ?_; conv => whnf)
  rw [show (a3 != a4) = false by rw [h3, h4]; simp]
  conv => whnf
  try (refine AW_draw tok hP ?_; conv => whnf)
  first | refine AQ_int (fun sK QK hK => refCos w1 hK) (fun a5 h5 => ?_) | refine refCos w1 (fun a5 h5 => ?_)
  conv => whnf
  try (refine And.intro (OkD.mk (by kernel_rfl)) ?_; conv => whnf)
  rw [show (c0 != a5) = false by rw [hc, h5]; simp]
  conv => whnf
  try (refine AW_draw tok hP ?_; conv => whnf)
  first | refine AQ_int (fun sK QK hK => refSin w1 hK) (fun a6 h6 => ?_) | refine refSin w1 (fun a6 h6 => ?_)
  conv => whnf
  try (refine And.intro (OkD.mk (by kernel_rfl)) ?_; conv => whnf)
  rw [show (s0 != a6) = false by rw [hs, h6]; simp]
  conv => whnf
  try (refine AW_draw tok hP ?_; conv => whnf)
  first | refine AQ_int (fun sK QK hK => trigSquare w1 hK) (fun a7 h7 => ?_) | refine trigSquare w1 (fun a7 h7 => ?_)
  conv => whnf
  try (refine And.intro (OkD.mk (by kernel_rfl)) ?_; conv => whnf)
  rw [show Z.mul .i64 c0 c0 = c0 * c0 from Z.wrap_iid (by omega) (by omega), show Z.mul .i64 s0 s0 = s0 * s0 from Z.wrap_iid (by omega) (by omega), show Z.add .i64 (c0 * c0) (s0 * s0) = c0 * c0 + s0 * s0 from Z.wrap_iid (by omega) (by omega)]
  rw [show (a7 != c0 * c0 + s0 * s0) = false by rw [h7, hc, hs]; simp]
  conv => whnf
  by_cases g : n > 40
  case' pos =>
    rw [decide_eq_true g]
    conv => whnf
    by_cases g2 : n ≤ 1024
    · rw [decide_eq_true g2]
      conv => whnf
      exact awake05 rfl
    rw [decide_eq_false g2]
    conv => whnf
    refine trigSteps0 (.inr (by omega)) ?_
    conv => whnf
    refine refSteps0 (.inr (by omega)) ?_
    conv => whnf
    refine ALs.round tok 0 ?_
    conv => whnf
    refine AWs.go tok 0 ?_
    conv => whnf
    try (refine AW_draw tok hP ?_; conv => whnf)
    first | refine AQ_pure (fun sK QK hK => awake05 hK) ?_ | refine awake05 ?_
    conv => whnf
    try (refine And.intro (OkD.mk (by kernel_rfl)) ?_; conv => whnf)
  rw [decide_eq_false g]
  conv => whnf
  by_cases g3 : n < 1
  · refine trigSteps0 (.inl g3) ?_
    conv => whnf
    refine refSteps0 (.inl g3) ?_
    conv => whnf
    refine ALs.round tok 0 ?_
    conv => whnf
    refine AWs.go tok 0 ?_
    conv => whnf
    try (refine AW_draw tok hP ?_; conv => whnf)
    first | refine AQ_pure (fun sK QK hK => awake05 hK) ?_ | refine awake05 ?_
    conv => whnf
    try (refine And.intro (OkD.mk (by kernel_rfl)) ?_; conv => whnf)
  refine trigSteps (by omega) (by omega) ?_
  conv => whnf
  refine refSteps (by omega) (by omega) ?_
  conv => whnf
  rw [show ((n.toNat : Int) != (n.toNat : Int)) = false by simp]
  conv => whnf
  have ln := PT.stepsR_len n
  refine ALs.invD (ι := Int) tok 0 [false, false, false, false, true, false, false, true, true, true] (fun k => 0 ≤ k ∧ k ≤ n) (fun k => (n - k).toNat)
    (fun k => [.junk, .junk, .junk, .junk, .bool false, .junk, .junk, .sl 0 0 n.toNat none, .sl 1 0 n.toNat none, .int .i64 k] ++ junks 73)
    (fun k => [.row true 28 [.ik .i64, .ik .i64] (stepsR n), .row true 28 [.ik .i64, .ik .i64] (stepsR n)]) (fun _ => ()) 0 ⟨by omega, by omega⟩ (by rfl) ⟨[], rfl⟩ rfl (fun _ => Nat.zero_le _) (fun _ => rfl) ?_
  rintro k ⟨k0, k1⟩
  conv => whnf
  by_cases c : k < n
  · rw [decide_eq_true (show k < (n.toNat : Int) by omega)]
    conv => whnf
    refine AW_draw tok hP ?_
    conv => whnf
    refine ixI k0 (by omega) ?_
    conv => whnf
    refine andP (by omega) ?_
    conv => whnf
    refine ixI k0 (by omega) ?_
    conv => whnf
    refine andP (by omega) ?_
    conv => whnf
    refine ⟨⟨by kernel_rfl⟩, ?_⟩
    conv => whnf
    generalize (stepsR n).getD (0 + k.toNat) [] = r
    rw [beq_self_eq_true (r.headD 0), beq_self_eq_true (r.tail.headD 0)]
    conv => whnf
    have ei : Z.add .i64 k 1 = k + 1 := Z.wrap_iid (by omega) (by omega)
    exact ⟨Z.add .i64 k 1, _, rfl, rfl, rfl, by show (n - Z.add .i64 k 1).toNat < (n - k).toNat; rw [ei]; omega, by show 0 ≤ Z.add .i64 k 1; rw [ei]; omega, by show Z.add .i64 k 1 ≤ n; rw [ei]; omega⟩
  · rw [decide_eq_false (show ¬ k < (n.toNat : Int) by omega)]
    conv => whnf
    refine AWs.go tok 0 ?_
    conv => whnf
    try (refine AW_draw tok hP ?_; conv => whnf)
    first | refine AQ_pure (fun sK QK hK => awake05 hK) ?_ | refine awake05 ?_
    conv => whnf
    try (refine And.intro (OkD.mk (by kernel_rfl)) ?_; conv => whnf)
