/- Part of the proof of a law of the seat: its functions, walked. No condition. -/
import Derived.Test.YtabnlimfmfmkmaaA8Law07U
namespace Go.AW.A8
open Go Go.AW Go.Proofs
set_option maxRecDepth 100000
set_option linter.unusedVariables false
theorem refAdd6 {a b c x y z : Int} (ha : I64 a) (hb : I64 b) (hc : I64 c) (hx : I64 x) (hy : I64 y) (hz : I64 z) {s : List Ob} {Q : AV → List Ob → Prop} (h : ∀ u v w, u = plusI a x → v = plusI b y → w = plusI c z → Q (.agg [.int .i64 u, .int .i64 v, .int .i64 w]) s) : AC Try.prog 25 [.agg [.int .i64 a, .int .i64 b, .int .i64 c], .agg [.int .i64 x, .int .i64 y, .int .i64 z]] s Q := by
  refine AC_pure rfl ?_
  refine AC_body tok 12 Try.func25 rfl (by kernel_rfl) ?_
  conv => whnf
  try (refine AW_draw tok hP ?_; conv => whnf)
  first | refine AQ_int (fun sK QK hK => refPlus ha.1 ha.2 hx.1 hx.2 hK) (fun u h1 => ?_) | refine refPlus ha.1 ha.2 hx.1 hx.2 (fun u h1 => ?_)
  conv => whnf
  try (refine And.intro (OkD.mk (by kernel_rfl)) ?_; conv => whnf)
  try (refine AW_draw tok hP ?_; conv => whnf)
  first | refine AQ_int (fun sK QK hK => refPlus hb.1 hb.2 hy.1 hy.2 hK) (fun v h2 => ?_) | refine refPlus hb.1 hb.2 hy.1 hy.2 (fun v h2 => ?_)
  conv => whnf
  try (refine And.intro (OkD.mk (by kernel_rfl)) ?_; conv => whnf)
  try (refine AW_draw tok hP ?_; conv => whnf)
  first | refine AQ_int (fun sK QK hK => refPlus hc.1 hc.2 hz.1 hz.2 hK) (fun w h3 => ?_) | refine refPlus hc.1 hc.2 hz.1 hz.2 (fun w h3 => ?_)
  conv => whnf
  try (refine And.intro (OkD.mk (by kernel_rfl)) ?_; conv => whnf)
  exact ⟨rfl, h _ _ _ h1 h2 h3⟩
theorem lawBasisBack (avs : List AV) (obs : List Ob) (ha : ArgC 0 [.flat (.ik .i64), .flat (.ik .i64), .flat (.ik .i64), .flat (.ik .i64), .flat (.ik .i64), .flat (.ik .i64)] avs obs) : AC Try.prog 5 (groupK [some 3, none, none, none] avs) obs fun r _ => r = .bool true := by
  cases ha with | int w1 ha => cases ha with | int w2 ha => cases ha with | int w3 ha =>
  cases ha with | int a1 ha => cases ha with | int a2 ha => cases ha with | int a3 ha =>
  cases ha
  rename_i a b c x0 y0 z0
  replace w1 : I64 a := wf_i64 w1; replace w2 : I64 b := wf_i64 w2; replace w3 : I64 c := wf_i64 w3
  replace a1 := wf_i64 a1; replace a2 := wf_i64 a2; replace a3 := wf_i64 a3
  refine AC_body tok 3 Try.func5 rfl (by kernel_rfl) ?_
  conv => whnf
  refine basisOf w1 w2 w3 (fun o u1 u2 u3 v1 v2 v3 n1 n2 n3 h ho => ?_)
  conv => whnf
  cases o
  · conv => whnf
    try (refine AW_draw tok hP ?_; conv => whnf)
    first | refine AQ_pure (fun sK QK hK => awake07 hK) ?_ | refine awake07 ?_
    conv => whnf
    try (refine And.intro (OkD.mk (by kernel_rfl)) ?_; conv => whnf)
  conv => whnf
  have bas := PQ.of_bas w1 w2 w3 ho.symm h
  clear h ho
  have rm : ∀ z : Int, (-9223372036854775808 ≤ z ∧ z < 9223372036854775808) → ∃ w, Z.rem .i64 z 16385 = w ∧ (-16384 ≤ w ∧ w ≤ 16384) := by
    intro z hz
    refine ⟨_, rfl, ?_⟩
    unfold Z.rem
    rcases Int.le_total 0 z with g | g
    · rw [Int.tmod_eq_emod_of_nonneg g]; omega
    · have : z.tmod 16385 = -((-z) % 16385) := by rw [← Int.tmod_eq_emod_of_nonneg (by omega), Int.neg_tmod]; omega
      omega
  obtain ⟨x, ex, hx⟩ := rm x0 a1
  obtain ⟨y, ey, hy⟩ := rm y0 a2
  obtain ⟨z, ez, hz⟩ := rm z0 a3
  rw [ex, ey, ez]
  have nv := PB.near_u ⟨hx, hy, hz⟩
  obtain ⟨ix, iy, iz⟩ := PB.near_I nv
  have nu := PQ.dir_near bas.u; have nv' := PQ.dir_near bas.v; have nn := PQ.dir_near bas.n
  obtain ⟨iu1, iu2, iu3⟩ := PB.near_I nu
  obtain ⟨iv1, iv2, iv3⟩ := PB.near_I nv'
  obtain ⟨in1, in2, in3⟩ := PB.near_I nn
  have nb : nearB u1 u2 u3 v1 v2 v3 n1 n2 n3 x y z = true := by
    unfold nearB; rw [nu, nv', nn, nv]; rfl
  try (refine AW_draw tok hP ?_; conv => whnf)
  first | refine AQ_vec (fun sK QK hK => basisOutC iu1 iu2 iu3 iv1 iv2 iv3 in1 in2 in3 ix iy iz hK) (fun o1 o2 o3 g1 g2 g3 => ?_) | refine basisOutC iu1 iu2 iu3 iv1 iv2 iv3 in1 in2 in3 ix iy iz (fun o1 o2 o3 g1 g2 g3 => ?_)
  conv => whnf
  try (refine And.intro (OkD.mk (by kernel_rfl)) ?_; conv => whnf)
  rw [nb] at g1 g2 g3
  replace g1 : o1 = (u1 * x + v1 * y + n1 * z) / 16384 := g1
  replace g2 : o2 = (u2 * x + v2 * y + n2 * z) / 16384 := g2
  replace g3 : o3 = (u3 * x + v3 * y + n3 * z) / 16384 := g3
  obtain ⟨lu1, lu2, lu3⟩ := PQ.dir_le bas.u
  obtain ⟨lv1, lv2, lv3⟩ := PQ.dir_le bas.v
  obtain ⟨ln1, ln2, ln3⟩ := PQ.dir_le bas.n
  have ob1 := PQ.out_le lu1 lv1 ln1 hx hy hz
  have ob2 := PQ.out_le lu2 lv2 ln2 hx hy hz
  have ob3 := PQ.out_le lu3 lv3 ln3 hx hy hz
  rw [← g1] at ob1; rw [← g2] at ob2; rw [← g3] at ob3
  have no : nearI o1 o2 o3 = true := by rw [PV.near_iff]; omega
  obtain ⟨io1, io2, io3⟩ := PB.near_I no
  obtain ⟨c1, c2, c3⟩ := PQ.bas_back bas hx hy hz g1 g2 g3
  have nb2 : nearB u1 u2 u3 v1 v2 v3 n1 n2 n3 o1 o2 o3 = true := by
    unfold nearB; rw [nu, nv', nn, no]; rfl
  try (refine AW_draw tok hP ?_; conv => whnf)
  first | refine AQ_vec (fun sK QK hK => basisInC iu1 iu2 iu3 iv1 iv2 iv3 in1 in2 in3 io1 io2 io3 hK) (fun q1 q2 q3 k1 k2 k3 => ?_) | refine basisInC iu1 iu2 iu3 iv1 iv2 iv3 in1 in2 in3 io1 io2 io3 (fun q1 q2 q3 k1 k2 k3 => ?_)
  conv => whnf
  try (refine And.intro (OkD.mk (by kernel_rfl)) ?_; conv => whnf)
  rw [nb2] at k1 k2 k3
  replace k1 : q1 = (u1 * o1 + u2 * o2 + u3 * o3) / 16384 := k1
  replace k2 : q2 = (v1 * o1 + v2 * o2 + v3 * o3) / 16384 := k2
  replace k3 : q3 = (n1 * o1 + n2 * o2 + n3 * o3) / 16384 := k3
  rw [← k1] at c1; rw [← k2] at c2; rw [← k3] at c3
  clear k1 k2 k3 g1 g2 g3 ob1 ob2 ob3
  have nvn : (nearI x y z && nearI n1 n2 n3) = true := by rw [nv, nn]; rfl
  obtain ⟨k, hk⟩ : ∃ k, k = x * n1 + y * n2 + z * n3 := ⟨_, rfl⟩
  have kb := PQ.dot_v bas.n hx hy hz
  rw [← hk] at kb
  try (refine AW_draw tok hP ?_; conv => whnf)
  first | refine AQ_vec (fun sK QK hK => basisMirrorC ix iy iz in1 in2 in3 hK) (fun m1 m2 m3 h1 h2 h3 => ?_) | refine basisMirrorC ix iy iz in1 in2 in3 (fun m1 m2 m3 h1 h2 h3 => ?_)
  conv => whnf
  try (refine And.intro (OkD.mk (by kernel_rfl)) ?_; conv => whnf)
  rw [nvn, ← hk] at h1 h2 h3
  replace h1 : m1 = x - n1 * (2 * k) / 268435456 := h1
  replace h2 : m2 = y - n2 * (2 * k) / 268435456 := h2
  replace h3 : m3 = z - n3 * (2 * k) / 268435456 := h3
  have mb1 := PQ.mir1 hx ln1 kb; have mb2 := PQ.mir1 hy ln2 kb; have mb3 := PQ.mir1 hz ln3 kb
  rw [← h1] at mb1; rw [← h2] at mb2; rw [← h3] at mb3
  have nm : nearI m1 m2 m3 = true := by rw [PV.near_iff]; omega
  obtain ⟨im1, im2, im3⟩ := PB.near_I nm
  have nmn : (nearI m1 m2 m3 && nearI n1 n2 n3) = true := by rw [nm, nn]; rfl
  obtain ⟨k', hk'⟩ : ∃ k', k' = m1 * n1 + m2 * n2 + m3 * n3 := ⟨_, rfl⟩
  obtain ⟨d1, d2, d3⟩ := PQ.mir_back bas.n hx hy hz hk h1 h2 h3 hk'
  try (refine AW_draw tok hP ?_; conv => whnf)
  first | refine AQ_vec (fun sK QK hK => basisMirrorC im1 im2 im3 in1 in2 in3 hK) (fun r1 r2 r3 j1 j2 j3 => ?_) | refine basisMirrorC im1 im2 im3 in1 in2 in3 (fun r1 r2 r3 j1 j2 j3 => ?_)
  conv => whnf
  try (refine And.intro (OkD.mk (by kernel_rfl)) ?_; conv => whnf)
  rw [nmn, ← hk'] at j1 j2 j3
  replace j1 : r1 = m1 - n1 * (2 * k') / 268435456 := j1
  replace j2 : r2 = m2 - n2 * (2 * k') / 268435456 := j2
  replace j3 : r3 = m3 - n3 * (2 * k') / 268435456 := j3
  rw [← j1] at d1; rw [← j2] at d2; rw [← j3] at d3
  clear h1 h2 h3 j1 j2 j3 hk hk' kb
  have rb1 : Z.sub .i64 q1 x = q1 - x := Z.wrap_iid (by omega) (by omega)
  have rb2 : Z.sub .i64 q2 y = q2 - y := Z.wrap_iid (by omega) (by omega)
  have rb3 : Z.sub .i64 q3 z = q3 - z := Z.wrap_iid (by omega) (by omega)
  have rb4 : Z.sub .i64 r1 x = r1 - x := Z.wrap_iid (by omega) (by omega)
  have rb5 : Z.sub .i64 r2 y = r2 - y := Z.wrap_iid (by omega) (by omega)
  have rb6 : Z.sub .i64 r3 z = r3 - z := Z.wrap_iid (by omega) (by omega)
  have dn : dotI n1 n2 n3 x y z = n1 * x + n2 * y + n3 * z := by unfold dotI; rw [if_pos ⟨nn, nv⟩]
  have hg : nearI x y z = true ∧ nearI n1 n2 n3 = true := ⟨nv, nn⟩
  refine basisFacing in1 in2 in3 ix iy iz (fun f1 f2 f3 e1 e2 e3 => ?_)
  conv => whnf
  unfold faceI at e1 e2 e3
  rw [if_pos hg] at e1 e2 e3
  by_cases g : dotI n1 n2 n3 x y z > 0
  · rw [if_pos g] at e1 e2 e3
    have nf : nearI f1 f2 f3 = true := by rw [PV.near_iff]; omega
    refine refDot6 (fun p hp => ?_)
    conv => whnf
    unfold dotI at hp
    rw [if_pos ⟨nf, nv⟩, e1, e2, e3] at hp
    have hp' : p = -(n1 * x + n2 * y + n3 * z) := by rw [hp]; grind
    rw [decide_eq_false (show ¬ p > 0 by omega)]
    conv => whnf
    generalize hB : (f1 == n1 && (f2 == n2 && (f3 == n3 && true))) = bB
    cases bB
    · conv => whnf
      refine refAdd6 (by unfold I64; omega) (by unfold I64; omega) (by unfold I64; omega) in1 in2 in3 (fun s1 s2 s3 t1 t2 t3 => ?_)
      conv => whnf
      rw [PV.plus_eq (by omega) (by omega), show f1 + n1 = 0 by omega] at t1
      rw [PV.plus_eq (by omega) (by omega), show f2 + n2 = 0 by omega] at t2
      rw [PV.plus_eq (by omega) (by omega), show f3 + n3 = 0 by omega] at t3
      subst t1 t2 t3
      conv => whnf
      try (refine AW_draw tok hP ?_; conv => whnf)
      first | refine AQ_pure (fun sK QK hK => lawLow (n := Z.sub .i64 q1 x) (by omega) (by omega) (by rw [rb1]; omega) (by rw [rb1]; omega) hK) ?_ | refine lawLow (n := Z.sub .i64 q1 x) (by omega) (by omega) (by rw [rb1]; omega) (by rw [rb1]; omega) ?_
      conv => whnf
      try (refine And.intro (OkD.mk (by kernel_rfl)) ?_; conv => whnf)
      try (refine AW_draw tok hP ?_; conv => whnf)
      first | refine AQ_pure (fun sK QK hK => lawLow (n := Z.sub .i64 q2 y) (by omega) (by omega) (by rw [rb2]; omega) (by rw [rb2]; omega) hK) ?_ | refine lawLow (n := Z.sub .i64 q2 y) (by omega) (by omega) (by rw [rb2]; omega) (by rw [rb2]; omega) ?_
      conv => whnf
      try (refine And.intro (OkD.mk (by kernel_rfl)) ?_; conv => whnf)
      try (refine AW_draw tok hP ?_; conv => whnf)
      first | refine AQ_pure (fun sK QK hK => lawLow (n := Z.sub .i64 q3 z) (by omega) (by omega) (by rw [rb3]; omega) (by rw [rb3]; omega) hK) ?_ | refine lawLow (n := Z.sub .i64 q3 z) (by omega) (by omega) (by rw [rb3]; omega) (by rw [rb3]; omega) ?_
      conv => whnf
      try (refine And.intro (OkD.mk (by kernel_rfl)) ?_; conv => whnf)
      try (refine AW_draw tok hP ?_; conv => whnf)
      first | refine AQ_pure (fun sK QK hK => lawLow (n := Z.sub .i64 r1 x) (by omega) (by omega) (by rw [rb4]; omega) (by rw [rb4]; omega) hK) ?_ | refine lawLow (n := Z.sub .i64 r1 x) (by omega) (by omega) (by rw [rb4]; omega) (by rw [rb4]; omega) ?_
      conv => whnf
      try (refine And.intro (OkD.mk (by kernel_rfl)) ?_; conv => whnf)
      try (refine AW_draw tok hP ?_; conv => whnf)
      first | refine AQ_pure (fun sK QK hK => lawLow (n := Z.sub .i64 r2 y) (by omega) (by omega) (by rw [rb5]; omega) (by rw [rb5]; omega) hK) ?_ | refine lawLow (n := Z.sub .i64 r2 y) (by omega) (by omega) (by rw [rb5]; omega) (by rw [rb5]; omega) ?_
      conv => whnf
      try (refine And.intro (OkD.mk (by kernel_rfl)) ?_; conv => whnf)
      try (refine AW_draw tok hP ?_; conv => whnf)
      first | refine AQ_pure (fun sK QK hK => lawLow (n := Z.sub .i64 r3 z) (by omega) (by omega) (by rw [rb6]; omega) (by rw [rb6]; omega) hK) ?_ | refine lawLow (n := Z.sub .i64 r3 z) (by omega) (by omega) (by rw [rb6]; omega) (by rw [rb6]; omega) ?_
      conv => whnf
      try (refine And.intro (OkD.mk (by kernel_rfl)) ?_; conv => whnf)
      try (refine AW_draw tok hP ?_; conv => whnf)
      first | refine AQ_pure (fun sK QK hK => awake07 hK) ?_ | refine awake07 ?_
      conv => whnf
      try (refine And.intro (OkD.mk (by kernel_rfl)) ?_; conv => whnf)
    · conv => whnf
      try (refine AW_draw tok hP ?_; conv => whnf)
      first | refine AQ_pure (fun sK QK hK => lawLow (n := Z.sub .i64 q1 x) (by omega) (by omega) (by rw [rb1]; omega) (by rw [rb1]; omega) hK) ?_ | refine lawLow (n := Z.sub .i64 q1 x) (by omega) (by omega) (by rw [rb1]; omega) (by rw [rb1]; omega) ?_
      conv => whnf
      try (refine And.intro (OkD.mk (by kernel_rfl)) ?_; conv => whnf)
      try (refine AW_draw tok hP ?_; conv => whnf)
      first | refine AQ_pure (fun sK QK hK => lawLow (n := Z.sub .i64 q2 y) (by omega) (by omega) (by rw [rb2]; omega) (by rw [rb2]; omega) hK) ?_ | refine lawLow (n := Z.sub .i64 q2 y) (by omega) (by omega) (by rw [rb2]; omega) (by rw [rb2]; omega) ?_
      conv => whnf
      try (refine And.intro (OkD.mk (by kernel_rfl)) ?_; conv => whnf)
      try (refine AW_draw tok hP ?_; conv => whnf)
      first | refine AQ_pure (fun sK QK hK => lawLow (n := Z.sub .i64 q3 z) (by omega) (by omega) (by rw [rb3]; omega) (by rw [rb3]; omega) hK) ?_ | refine lawLow (n := Z.sub .i64 q3 z) (by omega) (by omega) (by rw [rb3]; omega) (by rw [rb3]; omega) ?_
      conv => whnf
      try (refine And.intro (OkD.mk (by kernel_rfl)) ?_; conv => whnf)
      try (refine AW_draw tok hP ?_; conv => whnf)
      first | refine AQ_pure (fun sK QK hK => lawLow (n := Z.sub .i64 r1 x) (by omega) (by omega) (by rw [rb4]; omega) (by rw [rb4]; omega) hK) ?_ | refine lawLow (n := Z.sub .i64 r1 x) (by omega) (by omega) (by rw [rb4]; omega) (by rw [rb4]; omega) ?_
      conv => whnf
      try (refine And.intro (OkD.mk (by kernel_rfl)) ?_; conv => whnf)
      try (refine AW_draw tok hP ?_; conv => whnf)
      first | refine AQ_pure (fun sK QK hK => lawLow (n := Z.sub .i64 r2 y) (by omega) (by omega) (by rw [rb5]; omega) (by rw [rb5]; omega) hK) ?_ | refine lawLow (n := Z.sub .i64 r2 y) (by omega) (by omega) (by rw [rb5]; omega) (by rw [rb5]; omega) ?_
      conv => whnf
      try (refine And.intro (OkD.mk (by kernel_rfl)) ?_; conv => whnf)
      try (refine AW_draw tok hP ?_; conv => whnf)
      first | refine AQ_pure (fun sK QK hK => lawLow (n := Z.sub .i64 r3 z) (by omega) (by omega) (by rw [rb6]; omega) (by rw [rb6]; omega) hK) ?_ | refine lawLow (n := Z.sub .i64 r3 z) (by omega) (by omega) (by rw [rb6]; omega) (by rw [rb6]; omega) ?_
      conv => whnf
      try (refine And.intro (OkD.mk (by kernel_rfl)) ?_; conv => whnf)
      try (refine AW_draw tok hP ?_; conv => whnf)
      first | refine AQ_pure (fun sK QK hK => awake07 hK) ?_ | refine awake07 ?_
      conv => whnf
      try (refine And.intro (OkD.mk (by kernel_rfl)) ?_; conv => whnf)
  · rw [if_neg g] at e1 e2 e3
    subst e1 e2 e3
    refine refDot6 (fun p hp => ?_)
    conv => whnf
    rw [decide_eq_false (show ¬ p > 0 by omega)]
    conv => whnf
    rw [beq3]
    conv => whnf
    try (refine AW_draw tok hP ?_; conv => whnf)
    first | refine AQ_pure (fun sK QK hK => lawLow (n := Z.sub .i64 q1 x) (by omega) (by omega) (by rw [rb1]; omega) (by rw [rb1]; omega) hK) ?_ | refine lawLow (n := Z.sub .i64 q1 x) (by omega) (by omega) (by rw [rb1]; omega) (by rw [rb1]; omega) ?_
    conv => whnf
    try (refine And.intro (OkD.mk (by kernel_rfl)) ?_; conv => whnf)
    try (refine AW_draw tok hP ?_; conv => whnf)
    first | refine AQ_pure (fun sK QK hK => lawLow (n := Z.sub .i64 q2 y) (by omega) (by omega) (by rw [rb2]; omega) (by rw [rb2]; omega) hK) ?_ | refine lawLow (n := Z.sub .i64 q2 y) (by omega) (by omega) (by rw [rb2]; omega) (by rw [rb2]; omega) ?_
    conv => whnf
    try (refine And.intro (OkD.mk (by kernel_rfl)) ?_; conv => whnf)
    try (refine AW_draw tok hP ?_; conv => whnf)
    first | refine AQ_pure (fun sK QK hK => lawLow (n := Z.sub .i64 q3 z) (by omega) (by omega) (by rw [rb3]; omega) (by rw [rb3]; omega) hK) ?_ | refine lawLow (n := Z.sub .i64 q3 z) (by omega) (by omega) (by rw [rb3]; omega) (by rw [rb3]; omega) ?_
    conv => whnf
    try (refine And.intro (OkD.mk (by kernel_rfl)) ?_; conv => whnf)
    try (refine AW_draw tok hP ?_; conv => whnf)
    first | refine AQ_pure (fun sK QK hK => lawLow (n := Z.sub .i64 r1 x) (by omega) (by omega) (by rw [rb4]; omega) (by rw [rb4]; omega) hK) ?_ | refine lawLow (n := Z.sub .i64 r1 x) (by omega) (by omega) (by rw [rb4]; omega) (by rw [rb4]; omega) ?_
    conv => whnf
    try (refine And.intro (OkD.mk (by kernel_rfl)) ?_; conv => whnf)
    try (refine AW_draw tok hP ?_; conv => whnf)
    first | refine AQ_pure (fun sK QK hK => lawLow (n := Z.sub .i64 r2 y) (by omega) (by omega) (by rw [rb5]; omega) (by rw [rb5]; omega) hK) ?_ | refine lawLow (n := Z.sub .i64 r2 y) (by omega) (by omega) (by rw [rb5]; omega) (by rw [rb5]; omega) ?_
    conv => whnf
    try (refine And.intro (OkD.mk (by kernel_rfl)) ?_; conv => whnf)
    try (refine AW_draw tok hP ?_; conv => whnf)
    first | refine AQ_pure (fun sK QK hK => lawLow (n := Z.sub .i64 r3 z) (by omega) (by omega) (by rw [rb6]; omega) (by rw [rb6]; omega) hK) ?_ | refine lawLow (n := Z.sub .i64 r3 z) (by omega) (by omega) (by rw [rb6]; omega) (by rw [rb6]; omega) ?_
    conv => whnf
    try (refine And.intro (OkD.mk (by kernel_rfl)) ?_; conv => whnf)
    try (refine AW_draw tok hP ?_; conv => whnf)
    first | refine AQ_pure (fun sK QK hK => awake07 hK) ?_ | refine awake07 ?_
    conv => whnf
    try (refine And.intro (OkD.mk (by kernel_rfl)) ?_; conv => whnf)
