/- Part of the proof of a law of the seat: its functions, walked. No condition. -/
import Derived.Test.YtgajnkfaelecaaaA9Law27
namespace Go.AW.A9
open Go Go.AW Go.Proofs
set_option maxRecDepth 100000
set_option linter.unusedVariables false
theorem wf_i16 {a : Int} (h : (Lit.int .i16 a).wf = true) : -32768 ≤ a ∧ a < 32768 := by
  have h' : IntKind.i16.min ≤ a ∧ a ≤ IntKind.i16.max := by simpa [Lit.wf] using h
  have h1 : IntKind.i16.min = -32768 := by decide
  have h2 : IntKind.i16.max = 32767 := by decide
  omega
set_option maxHeartbeats 2000000 in
theorem lawLensAhead (avs : List AV) (obs : List Ob) (ha : ArgC 0 [.flat (.ik .i64), .flat (.ik .i64), .flat (.ik .i64), .flat (.ik .u8), .flat (.ik .u8), .flat (.ik .u16), .flat (.ik .u16), .flat (.ik .i16), .flat (.ik .i16)] avs obs) : AC Try.prog 4 (groupK [some 3, none, none, none, none, none, none] avs) obs fun r _ => r = .bool true := by
  cases ha with | int w1 ha => cases ha with | int w2 ha => cases ha with | int w3 ha =>
  cases ha with | int w4 ha => cases ha with | int w5 ha => cases ha with | int w6 ha =>
  cases ha with | int w7 ha => cases ha with | int w8 ha => cases ha with | int w9 ha =>
  cases ha
  rename_i x0 y0 z0 w h zoom far x y
  replace w1 := wf_i64 w1; replace w2 := wf_i64 w2; replace w3 := wf_i64 w3
  replace w4 := wf_u8 w4; replace w5 := wf_u8 w5; replace w6 := wf_u16 w6; replace w7 := wf_u16 w7
  replace w8 := wf_i16 w8; replace w9 := wf_i16 w9
  refine AC_body tok 3 Try.func4 rfl (by kernel_rfl) ?_
  conv => whnf
  have rm : ∀ z : Int, (-9223372036854775808 ≤ z ∧ z < 9223372036854775808) → ∃ w, Z.rem .i64 z 131072 = w ∧ (-131072 ≤ w ∧ w ≤ 131072) := by
    intro z hz
    refine ⟨_, rfl, ?_⟩
    unfold Z.rem
    rcases Int.le_total 0 z with g | g
    · rw [Int.tmod_eq_emod_of_nonneg g]; omega
    · have : z.tmod 131072 = -((-z) % 131072) := by rw [← Int.tmod_eq_emod_of_nonneg (by omega), Int.neg_tmod]; omega
      omega
  obtain ⟨a, ea, ha⟩ := rm x0 w1
  obtain ⟨b, eb, hb⟩ := rm y0 w2
  obtain ⟨c, ec, hc⟩ := rm z0 w3
  rw [ea, eb, ec]
  obtain ⟨W, eW, hW⟩ : ∃ W, Z.add .i64 1 (IntKind.i64.wrap w) = W ∧ 1 ≤ W ∧ W ≤ 256 := ⟨_, rfl, by rw [show IntKind.i64.wrap w = w from Z.wrap_iid (by omega) (by omega), show Z.add .i64 1 w = 1 + w from Z.wrap_iid (by omega) (by omega)]; omega⟩
  obtain ⟨H, eH, hH⟩ : ∃ W, Z.add .i64 1 (IntKind.i64.wrap h) = W ∧ 1 ≤ W ∧ W ≤ 256 := ⟨_, rfl, by rw [show IntKind.i64.wrap h = h from Z.wrap_iid (by omega) (by omega), show Z.add .i64 1 h = 1 + h from Z.wrap_iid (by omega) (by omega)]; omega⟩
  obtain ⟨K, eK, hK⟩ : ∃ W, Z.add .i64 1 (IntKind.i64.wrap zoom) = W ∧ 1 ≤ W ∧ W ≤ 65536 := ⟨_, rfl, by rw [show IntKind.i64.wrap zoom = zoom from Z.wrap_iid (by omega) (by omega), show Z.add .i64 1 zoom = 1 + zoom from Z.wrap_iid (by omega) (by omega)]; omega⟩
  obtain ⟨z, ez, hz⟩ : ∃ W, Z.add .i64 1 (IntKind.i64.wrap far) = W ∧ 1 ≤ W ∧ W ≤ 65536 := ⟨_, rfl, by rw [show IntKind.i64.wrap far = far from Z.wrap_iid (by omega) (by omega), show Z.add .i64 1 far = 1 + far from Z.wrap_iid (by omega) (by omega)]; omega⟩
  have ec1 : Z.sub .i64 c 100 = c - 100 := Z.wrap_iid (by omega) (by omega)
  have ec2 : Z.sub .i64 c z = c - z := Z.wrap_iid (by omega) (by omega)
  have ex : Z.add .i64 a (IntKind.i64.wrap x) = a + x := by rw [show IntKind.i64.wrap x = x from Z.wrap_iid (by omega) (by omega)]; exact Z.wrap_iid (by omega) (by omega)
  have ey : Z.add .i64 b (IntKind.i64.wrap y) = b + y := by rw [show IntKind.i64.wrap y = y from Z.wrap_iid (by omega) (by omega)]; exact Z.wrap_iid (by omega) (by omega)
  rw [eW, eH, eK, ez, ec1, ec2]
  have pe : placeB a b c = true := by rw [PL.place_iff]; omega
  have pt : placeB a b (c - 100) = true := by rw [PL.place_iff]; omega
  have fe : frameI (a - a) (b - b) (c - 100 - c) 0 1 0 = ((0, 0, -16384), (16384, 0, 0), (0, 16384, 0), true) := by
    rw [show a - a = 0 by omega, show b - b = 0 by omega, show c - 100 - c = -100 by omega]; decide
  refine lensSee pe pt (by decide) hW hH hK (by decide) (by decide) (by decide) (by rw [PL.place_iff]; omega) (by decide) (by decide) (fun k s1 s2 s3 n d o f r g fo hf hp => ?_)
  conv => whnf
  rw [fe] at hf
  simp only [Prod.mk.injEq] at hf
  obtain ⟨rfl, rfl, rfl, rfl⟩ := hf
  have hd0 : ((a - a) * 0 + (b - b) * 0 + (c - z - c) * -16384) / 16384 = z := by omega
  have hr0 : ((a - a) * 16384 + (b - b) * 0 + (c - z - c) * 0) / 16384 = 0 := by omega
  have hg0 : ((a - a) * 0 + (b - b) * 16384 + (c - z - c) * 0) / 16384 = 0 := by omega
  have dz : divI 0 z = 0 := by unfold divI; rw [if_neg (by omega)]; exact Int.zero_ediv z
  have c0 : ∀ m, colI K m 0 z = m / 2 := fun m => by unfold colI; rw [Int.zero_mul, dz, Int.zero_add]
  have ho := (hp.nol rfl).1
  simp only [hd0, hr0, hg0, Int.neg_zero, c0] at ho
  replace ho : o = true := by
    rw [ho, decide_eq_true (show 1 ≤ z by omega)]
    unfold inB
    rw [decide_eq_true (show (0 ≤ W / 2 ∧ W / 2 < W) ∧ 0 ≤ H / 2 ∧ H / 2 < H by omega)]; rfl
  subst ho
  obtain ⟨⟨rfl, rfl, rfl⟩, hk⟩ := (hp.nol rfl).2 rfl
  simp only [hd0, hr0, hg0, Int.neg_zero, c0] at hk
  obtain ⟨_, _, rfl, hd, _⟩ := hp.yes rfl
  have nz : nearI (s1 - s1) (s2 - s2) (s3 - z - s3) = true := by rw [PV.near_iff]; omega
  rw [PU.dot_A nz, show s1 - s1 = 0 by omega, show s2 - s2 = 0 by omega, show s3 - z - s3 = -z by omega, Int.neg_mul_neg] at hd
  replace hd : d = z * z := by rw [hd]; omega
  have zz := PV.mul_le (a := z) (b := z) (A := 65536) (B := 65536) (by omega) (by omega)
  have ezz : Z.mul .i64 z z = z * z := Z.wrap_iid (by omega) (by omega)
  subst hk hd
  conv => whnf
  try (refine AW_draw tok hP ?_; conv => whnf)
  first | refine AQ_pure (fun sK QK hK => lensMiddle hW hH hK) ?_ | refine lensMiddle hW hH ?_
  conv => whnf
  try (refine And.intro (OkD.mk (by kernel_rfl)) ?_; conv => whnf)
  rw [show (H / 2 * W + W / 2 != H / 2 * W + W / 2) = false by simp]
  conv => whnf
  refine ⟨⟨by kernel_rfl⟩, ?_⟩
  conv => whnf
  try rw [ezz]
  try rw [show (z * z != z * z) = false by simp]
  try (conv => whnf)
  try rw [ex, ey]
  rw [ec2]
  clear hp
  refine lensSee pe pt (by decide) hW hH hK (by decide) (by decide) (by decide) (by rw [PL.place_iff]; omega) (by decide) (by decide) (fun k t1 t2 t3 n d o f r g fo hf hp => ?_)
  conv => whnf
  rw [fe] at hf
  simp only [Prod.mk.injEq] at hf
  obtain ⟨rfl, rfl, rfl, rfl⟩ := hf
  cases o
  · conv => whnf
    try (refine AW_draw tok hP ?_; conv => whnf)
    first | refine AQ_pure (fun sK QK hK => awake27 hK) ?_ | refine awake27 ?_
    conv => whnf
    try (refine And.intro (OkD.mk (by kernel_rfl)) ?_; conv => whnf)
  have hd1 : ((s1 + x - s1) * 0 + (s2 + y - s2) * 0 + (s3 - z - s3) * -16384) / 16384 = z := by omega
  have hr1 : ((s1 + x - s1) * 16384 + (s2 + y - s2) * 0 + (s3 - z - s3) * 0) / 16384 = x := by omega
  have hg1 : ((s1 + x - s1) * 0 + (s2 + y - s2) * 16384 + (s3 - z - s3) * 0) / 16384 = y := by omega
  have ho := (hp.nol rfl).1
  have hk := ((hp.nol rfl).2 rfl).2
  simp only [hd1, hr1, hg1] at ho hk
  unfold colI at ho hk
  have dv : ∀ t : Int, divI t z = t / z := fun t => by unfold divI; rw [if_neg (by omega)]
  rw [dv, dv] at ho hk
  obtain ⟨C, eC⟩ : ∃ C, C = x * K / z := ⟨_, rfl⟩
  obtain ⟨R, eR⟩ : ∃ R, R = -y * K / z := ⟨_, rfl⟩
  rw [← eC, ← eR] at ho hk
  have hi := ho.symm
  rw [Bool.true_and, Bool.and_eq_true] at hi
  have hb := of_decide_eq_true hi.2
  have sgn : ∀ t : Int, (0 ≤ t → 0 ≤ t * K / z) ∧ (t ≤ 0 → t * K / z ≤ 0) := fun t => by
    constructor
    · intro h; exact Int.ediv_nonneg (Int.mul_nonneg h (by omega)) (by omega)
    · intro h
      have m := Int.mul_nonneg (show 0 ≤ -t by omega) (show 0 ≤ K by omega)
      rw [Int.neg_mul] at m
      exact Int.ediv_le_of_le_mul (by omega) (by omega)
  have sx := sgn x
  have sy := sgn (-y)
  rw [← eC] at sx; rw [← eR] at sy
  have rm2 : Z.rem .i64 k W = C + W / 2 := by
    unfold Z.rem
    rw [hk, Int.tmod_eq_emod_of_nonneg (by have := Int.mul_nonneg (show 0 ≤ R + H / 2 by omega) (show 0 ≤ W by omega); omega), Int.add_comm, Int.add_mul_emod_self_right, Int.emod_eq_of_lt (by omega) (by omega)]
  have kq : 0 ≤ k ∧ k < W * H := (hp.yes rfl).1
  have wh := PV.mul_le (a := W) (b := H) (A := 256) (B := 256) (by omega) (by omega)
  have qt2 : Z.quo .i64 k W = R + H / 2 := by
    rw [quo_pos (by omega) (by omega) (by omega), hk, Int.add_comm, Int.add_mul_ediv_right _ _ (by omega), Int.ediv_eq_zero_of_lt (by omega) (by omega), Int.zero_add]
  have qW : Z.quo .i64 W 2 = W / 2 := quo_pos (by omega) (by omega) (by omega)
  have qH : Z.quo .i64 H 2 = H / 2 := quo_pos (by omega) (by omega) (by omega)
  have fC : Z.sub .i64 (Z.rem .i64 k W) (Z.quo .i64 W 2) = C := by rw [rm2, qW, show Z.sub .i64 (C + W / 2) (W / 2) = C + W / 2 - W / 2 from Z.wrap_iid (by omega) (by omega)]; omega
  have fR : Z.sub .i64 (Z.quo .i64 k W) (Z.quo .i64 H 2) = R := by rw [qt2, qH, show Z.sub .i64 (R + H / 2) (H / 2) = R + H / 2 - H / 2 from Z.wrap_iid (by omega) (by omega)]; omega
  conv => whnf
  try (refine AW_draw tok hP ?_; conv => whnf)
  refine nzI (by omega) ?_
  conv => whnf
  refine nzI (by omega) ?_
  conv => whnf
  refine ⟨⟨by kernel_rfl⟩, ?_⟩
  conv => whnf
  by_cases g0 : x < 0
  · rw [decide_eq_true g0]
    conv => whnf
    by_cases g1 : x > 0
    · rw [decide_eq_true g1]
      conv => whnf
      by_cases g2 : y < 0
      · rw [decide_eq_true g2]
        conv => whnf
        by_cases g3 : y > 0
        · rw [decide_eq_true g3]
          conv => whnf
          try (refine AW_draw tok hP ?_; conv => whnf)
          first | refine AQ_pure (fun sK QK hK => awake27 hK) ?_ | refine awake27 ?_
          conv => whnf
          try (refine And.intro (OkD.mk (by kernel_rfl)) ?_; conv => whnf)
        · rw [decide_eq_false g3]
          conv => whnf
          try rw [fR]
          rw [decide_eq_true (show R ≥ 0 by omega)]
          conv => whnf
          try (refine AW_draw tok hP ?_; conv => whnf)
          first | refine AQ_pure (fun sK QK hK => awake27 hK) ?_ | refine awake27 ?_
          conv => whnf
          try (refine And.intro (OkD.mk (by kernel_rfl)) ?_; conv => whnf)
      · rw [decide_eq_false g2]
        conv => whnf
        try rw [fR]
        rw [decide_eq_true (show R ≤ 0 by omega)]
        conv => whnf
        by_cases g3 : y > 0
        · rw [decide_eq_true g3]
          conv => whnf
          try (refine AW_draw tok hP ?_; conv => whnf)
          first | refine AQ_pure (fun sK QK hK => awake27 hK) ?_ | refine awake27 ?_
          conv => whnf
          try (refine And.intro (OkD.mk (by kernel_rfl)) ?_; conv => whnf)
        · rw [decide_eq_false g3]
          conv => whnf
          try rw [fR]
          rw [decide_eq_true (show R ≥ 0 by omega)]
          conv => whnf
          try (refine AW_draw tok hP ?_; conv => whnf)
          first | refine AQ_pure (fun sK QK hK => awake27 hK) ?_ | refine awake27 ?_
          conv => whnf
          try (refine And.intro (OkD.mk (by kernel_rfl)) ?_; conv => whnf)
    · rw [decide_eq_false g1]
      conv => whnf
      try rw [fC]
      rw [decide_eq_true (show C ≤ 0 by omega)]
      conv => whnf
      by_cases g2 : y < 0
      · rw [decide_eq_true g2]
        conv => whnf
        by_cases g3 : y > 0
        · rw [decide_eq_true g3]
          conv => whnf
          try (refine AW_draw tok hP ?_; conv => whnf)
          first | refine AQ_pure (fun sK QK hK => awake27 hK) ?_ | refine awake27 ?_
          conv => whnf
          try (refine And.intro (OkD.mk (by kernel_rfl)) ?_; conv => whnf)
        · rw [decide_eq_false g3]
          conv => whnf
          try rw [fR]
          rw [decide_eq_true (show R ≥ 0 by omega)]
          conv => whnf
          try (refine AW_draw tok hP ?_; conv => whnf)
          first | refine AQ_pure (fun sK QK hK => awake27 hK) ?_ | refine awake27 ?_
          conv => whnf
          try (refine And.intro (OkD.mk (by kernel_rfl)) ?_; conv => whnf)
      · rw [decide_eq_false g2]
        conv => whnf
        try rw [fR]
        rw [decide_eq_true (show R ≤ 0 by omega)]
        conv => whnf
        by_cases g3 : y > 0
        · rw [decide_eq_true g3]
          conv => whnf
          try (refine AW_draw tok hP ?_; conv => whnf)
          first | refine AQ_pure (fun sK QK hK => awake27 hK) ?_ | refine awake27 ?_
          conv => whnf
          try (refine And.intro (OkD.mk (by kernel_rfl)) ?_; conv => whnf)
        · rw [decide_eq_false g3]
          conv => whnf
          try rw [fR]
          rw [decide_eq_true (show R ≥ 0 by omega)]
          conv => whnf
          try (refine AW_draw tok hP ?_; conv => whnf)
          first | refine AQ_pure (fun sK QK hK => awake27 hK) ?_ | refine awake27 ?_
          conv => whnf
          try (refine And.intro (OkD.mk (by kernel_rfl)) ?_; conv => whnf)
  · rw [decide_eq_false g0]
    conv => whnf
    try rw [fC]
    rw [decide_eq_true (show C ≥ 0 by omega)]
    conv => whnf
    by_cases g1 : x > 0
    · rw [decide_eq_true g1]
      conv => whnf
      by_cases g2 : y < 0
      · rw [decide_eq_true g2]
        conv => whnf
        by_cases g3 : y > 0
        · rw [decide_eq_true g3]
          conv => whnf
          try (refine AW_draw tok hP ?_; conv => whnf)
          first | refine AQ_pure (fun sK QK hK => awake27 hK) ?_ | refine awake27 ?_
          conv => whnf
          try (refine And.intro (OkD.mk (by kernel_rfl)) ?_; conv => whnf)
        · rw [decide_eq_false g3]
          conv => whnf
          try rw [fR]
          rw [decide_eq_true (show R ≥ 0 by omega)]
          conv => whnf
          try (refine AW_draw tok hP ?_; conv => whnf)
          first | refine AQ_pure (fun sK QK hK => awake27 hK) ?_ | refine awake27 ?_
          conv => whnf
          try (refine And.intro (OkD.mk (by kernel_rfl)) ?_; conv => whnf)
      · rw [decide_eq_false g2]
        conv => whnf
        try rw [fR]
        rw [decide_eq_true (show R ≤ 0 by omega)]
        conv => whnf
        by_cases g3 : y > 0
        · rw [decide_eq_true g3]
          conv => whnf
          try (refine AW_draw tok hP ?_; conv => whnf)
          first | refine AQ_pure (fun sK QK hK => awake27 hK) ?_ | refine awake27 ?_
          conv => whnf
          try (refine And.intro (OkD.mk (by kernel_rfl)) ?_; conv => whnf)
        · rw [decide_eq_false g3]
          conv => whnf
          try rw [fR]
          rw [decide_eq_true (show R ≥ 0 by omega)]
          conv => whnf
          try (refine AW_draw tok hP ?_; conv => whnf)
          first | refine AQ_pure (fun sK QK hK => awake27 hK) ?_ | refine awake27 ?_
          conv => whnf
          try (refine And.intro (OkD.mk (by kernel_rfl)) ?_; conv => whnf)
    · rw [decide_eq_false g1]
      conv => whnf
      try rw [fC]
      rw [decide_eq_true (show C ≤ 0 by omega)]
      conv => whnf
      by_cases g2 : y < 0
      · rw [decide_eq_true g2]
        conv => whnf
        by_cases g3 : y > 0
        · rw [decide_eq_true g3]
          conv => whnf
          try (refine AW_draw tok hP ?_; conv => whnf)
          first | refine AQ_pure (fun sK QK hK => awake27 hK) ?_ | refine awake27 ?_
          conv => whnf
          try (refine And.intro (OkD.mk (by kernel_rfl)) ?_; conv => whnf)
        · rw [decide_eq_false g3]
          conv => whnf
          try rw [fR]
          rw [decide_eq_true (show R ≥ 0 by omega)]
          conv => whnf
          try (refine AW_draw tok hP ?_; conv => whnf)
          first | refine AQ_pure (fun sK QK hK => awake27 hK) ?_ | refine awake27 ?_
          conv => whnf
          try (refine And.intro (OkD.mk (by kernel_rfl)) ?_; conv => whnf)
      · rw [decide_eq_false g2]
        conv => whnf
        try rw [fR]
        rw [decide_eq_true (show R ≤ 0 by omega)]
        conv => whnf
        by_cases g3 : y > 0
        · rw [decide_eq_true g3]
          conv => whnf
          try (refine AW_draw tok hP ?_; conv => whnf)
          first | refine AQ_pure (fun sK QK hK => awake27 hK) ?_ | refine awake27 ?_
          conv => whnf
          try (refine And.intro (OkD.mk (by kernel_rfl)) ?_; conv => whnf)
        · rw [decide_eq_false g3]
          conv => whnf
          try rw [fR]
          rw [decide_eq_true (show R ≥ 0 by omega)]
          conv => whnf
          try (refine AW_draw tok hP ?_; conv => whnf)
          first | refine AQ_pure (fun sK QK hK => awake27 hK) ?_ | refine awake27 ?_
          conv => whnf
          try (refine And.intro (OkD.mk (by kernel_rfl)) ?_; conv => whnf)
