/- Part of the proof of a law of the seat: its functions, walked. No condition. -/
import Derived.Test.YtgajnkfaelecaaaA9Law10
import Derived.Test.YtgajnkfaelecaaaPBoxHit2
namespace Go.AW.A9
open Go Go.AW Go.Proofs
set_option maxRecDepth 100000
set_option maxHeartbeats 8000000
set_option linter.unusedVariables false
theorem boxTimes10 {x y z n : Int} {s : List Ob} {Q : AV → List Ob → Prop} (h : ∀ u v w, u = Z.mul .i64 x n → v = Z.mul .i64 y n → w = Z.mul .i64 z n → Q (.agg [.int .i64 u, .int .i64 v, .int .i64 w]) s) : AC Try.prog 18 [.agg [.int .i64 x, .int .i64 y, .int .i64 z], .int .i64 n] s Q := by
  refine AC_pure rfl ?_
  refine AC_body tok 3 Try.func18 rfl (by kernel_rfl) ?_
  conv => whnf
  exact ⟨rfl, h _ _ _ rfl rfl rfl⟩
theorem refAdd6 {a b c x y z : Int} (ha : I64 a) (hb : I64 b) (hc : I64 c) (hx : I64 x) (hy : I64 y) (hz : I64 z) {s : List Ob} {Q : AV → List Ob → Prop} (h : ∀ u v w, u = plusI a x → v = plusI b y → w = plusI c z → Q (.agg [.int .i64 u, .int .i64 v, .int .i64 w]) s) : AC Try.prog 19 [.agg [.int .i64 a, .int .i64 b, .int .i64 c], .agg [.int .i64 x, .int .i64 y, .int .i64 z]] s Q := by
  refine AC_pure rfl ?_
  refine AC_body tok 12 Try.func19 rfl (by kernel_rfl) ?_
  conv => whnf
  try (refine AW_draw tok hP ?_; conv => whnf)
  first | refine AQ_int (fun sK QK hK => refPlus ha.1 ha.2 hx.1 hx.2 hK) (fun u h1 => ?_) | refine refPlus ha.1 ha.2 hx.1 hx.2 (fun u h1 => ?_)
  conv => whnf
  try (refine And.intro (OkD.mk (by kernel_rfl)) ?_; conv => whnf)
  try (refine AW_draw tok hP ?_; conv => whnf)
  first | refine AQ_int (fun sK QK hK => refPlus hb.1 hb.2 hy.1 hy.2 hK) (fun v h2 => ?_) | refine refPlus hb.1 hb.2 hy.1 hy.2 (fun v h2 => ?_)
  conv => whnf
  try (refine And.intro (OkD.mk (by kernel_rfl)) ?_; conv => whnf)
  try (refine AW_draw tok hP ?_; conv => whnf)
  first | refine AQ_int (fun sK QK hK => refPlus hc.1 hc.2 hz.1 hz.2 hK) (fun w h3 => ?_) | refine refPlus hc.1 hc.2 hz.1 hz.2 (fun w h3 => ?_)
  conv => whnf
  try (refine And.intro (OkD.mk (by kernel_rfl)) ?_; conv => whnf)
  exact ⟨rfl, h _ _ _ h1 h2 h3⟩
/-- a call that reads some objects -/
theorem AQ_iff {P : Program} {f : FuncId} {args : List AV} {s : List Ob} {K : List Nat → AV → List (Nat × Ob) → List Ob → Prop} {p : Prop} (h : ∀ (s : List Ob) (Q : AV → List Ob → Prop), (∀ v : Bool, (v = true ↔ p) → Q (.bool v) s) → AC P f args s Q) (hk : ∀ v : Bool, (v = true ↔ p) → K [] (.bool v) [] []) : AQ P f args s K := by
  classical
  refine AQ_pure (r := .bool (decide p)) (fun s Q q => h s Q fun v hv => ?_) (hk _ decide_eq_true_iff)
  have e : v = decide p := by rw [Bool.eq_iff_iff, hv, decide_eq_true_iff]
  rw [e]; exact q
theorem lawBoxHit (avs : List AV) (obs : List Ob) (ha : ArgC 0 [.flat (.ik .i64), .flat (.ik .i64), .flat (.ik .i64), .flat (.ik .i64), .flat (.ik .i64), .flat (.ik .i64), .flat (.ik .i64), .flat (.ik .i64), .flat (.ik .i64), .flat (.ik .i64), .flat (.ik .i64), .flat (.ik .i64), .flat (.ik .i64), .flat (.ik .i64), .flat (.ik .i64), .flat (.ik .i64), .flat (.ik .i64), .flat (.ik .i64), .flat (.ik .i64), .flat (.ik .u32), .flat (.ik .u32)] avs obs) : AC Try.prog 5 (groupK [some 6, some 6, some 7, none, none] avs) obs fun r _ => r = .bool true := by
  cases ha with | int w1 ha => cases ha with | int w2 ha => cases ha with | int w3 ha => cases ha with | int w4 ha => cases ha with | int w5 ha => cases ha with | int w6 ha => cases ha with | int w7 ha => cases ha with | int w8 ha => cases ha with | int w9 ha => cases ha with | int w10 ha => cases ha with | int w11 ha => cases ha with | int w12 ha => cases ha with | int w13 ha => cases ha with | int w14 ha => cases ha with | int w15 ha => cases ha with | int w16 ha => cases ha with | int w17 ha => cases ha with | int w18 ha => cases ha with | int w19 ha => cases ha with | int w20 ha => cases ha with | int w21 ha =>
  cases ha
  rename_i a b c d e f a' b' c' d' e' f' ox oy oz dx dy dz fr n0 d0
  replace w1 := wf_i64 w1; replace w2 := wf_i64 w2; replace w3 := wf_i64 w3; replace w4 := wf_i64 w4; replace w5 := wf_i64 w5; replace w6 := wf_i64 w6; replace w7 := wf_i64 w7; replace w8 := wf_i64 w8; replace w9 := wf_i64 w9; replace w10 := wf_i64 w10; replace w11 := wf_i64 w11; replace w12 := wf_i64 w12; replace w13 := wf_i64 w13; replace w14 := wf_i64 w14; replace w15 := wf_i64 w15; replace w16 := wf_i64 w16; replace w17 := wf_i64 w17; replace w18 := wf_i64 w18; replace w20 := wf_u32 w20; replace w21 := wf_u32 w21
  refine AC_body tok 0 Try.func5 rfl (by kernel_rfl) ?_
  conv => whnf
  refine refBoxRight (fun v hv => ?_)
  conv => whnf
  cases v
  · conv => whnf
    exact awake10 rfl
  conv => whnf
  refine refBoxRight (fun v hv2 => ?_)
  conv => whnf
  cases v
  · conv => whnf
    exact awake10 rfl
  conv => whnf
  refine refNear (fun v hv3 => ?_)
  conv => whnf
  cases v
  · conv => whnf
    exact awake10 rfl
  conv => whnf
  refine refNear (fun v hv4 => ?_)
  conv => whnf
  cases v
  · conv => whnf
    exact awake10 rfl
  conv => whnf
  have bo := PB.near_iff.1 hv3.symm
  have bd := PB.near_iff.1 hv4.symm
  have bx := PB.box_iff.1 hv.symm
  have by' := PB.box_iff.1 hv2.symm
  obtain ⟨N, eN, hN⟩ : ∃ N, Z.rem .i64 (IntKind.i64.wrap n0) 1048577 = N ∧ 0 ≤ N ∧ N ≤ 1048576 := by
    refine ⟨_, rfl, ?_⟩
    rw [show IntKind.i64.wrap n0 = n0 from Z.wrap_iid (by omega) (by omega)]
    unfold Z.rem
    rw [Int.tmod_eq_emod_of_nonneg (by omega)]; omega
  obtain ⟨D, eD, hD⟩ : ∃ D, Z.add .i64 1 (Z.rem .i64 (IntKind.i64.wrap d0) 1048576) = D ∧ 1 ≤ D ∧ D ≤ 1048576 := by
    refine ⟨_, rfl, ?_⟩
    rw [show IntKind.i64.wrap d0 = d0 from Z.wrap_iid (by omega) (by omega)]
    have e : Z.rem .i64 d0 1048576 = d0 % 1048576 := by unfold Z.rem; exact Int.tmod_eq_emod_of_nonneg (by omega)
    rw [e, show Z.add .i64 1 (d0 % 1048576) = 1 + d0 % 1048576 from Z.wrap_iid (by omega) (by omega)]; omega
  rw [eN, eD]
  have iN : I64 N := by unfold I64; omega
  have iD : I64 D := by unfold I64; omega
  have mb : ∀ x y : Int, -1048576 ≤ x ∧ x ≤ 1048576 → 0 ≤ y ∧ y ≤ 1048576 → Z.mul .i64 x y = x * y ∧ -1099511627776 ≤ x * y ∧ x * y ≤ 1099511627776 := fun x y hx hy => by
    have m := PV.mul_le (a := x) (b := y) (A := 1048576) (B := 1048576) (by omega) (by omega)
    exact ⟨Z.wrap_iid (by omega) (by omega), by omega, by omega⟩
  try (refine AW_draw tok hP ?_; conv => whnf)
  first | refine AQ_vec (fun sK QK hK => boxTimes10 hK) (fun k1 k2 k3 e1 e2 e3 => ?_) | refine boxTimes10 (fun k1 k2 k3 e1 e2 e3 => ?_)
  conv => whnf
  try (refine And.intro (OkD.mk (by kernel_rfl)) ?_; conv => whnf)
  try (refine AW_draw tok hP ?_; conv => whnf)
  first | refine AQ_vec (fun sK QK hK => boxTimes10 hK) (fun k4 k5 k6 e4 e5 e6 => ?_) | refine boxTimes10 (fun k4 k5 k6 e4 e5 e6 => ?_)
  conv => whnf
  try (refine And.intro (OkD.mk (by kernel_rfl)) ?_; conv => whnf)
  try (refine AW_draw tok hP ?_; conv => whnf)
  first | refine AQ_vec (fun sK QK hK => boxTimes10 hK) (fun o1 o2 o3 e7 e8 e9 => ?_) | refine boxTimes10 (fun o1 o2 o3 e7 e8 e9 => ?_)
  conv => whnf
  try (refine And.intro (OkD.mk (by kernel_rfl)) ?_; conv => whnf)
  try (refine AW_draw tok hP ?_; conv => whnf)
  first | refine AQ_vec (fun sK QK hK => boxTimes10 hK) (fun v1 v2 v3 e10 e11 e12 => ?_) | refine boxTimes10 (fun v1 v2 v3 e10 e11 e12 => ?_)
  conv => whnf
  try (refine And.intro (OkD.mk (by kernel_rfl)) ?_; conv => whnf)
  obtain ⟨m1, b1, b1'⟩ := mb ox D (by omega) (by omega)
  obtain ⟨m2, b2, b2'⟩ := mb oy D (by omega) (by omega)
  obtain ⟨m3, b3, b3'⟩ := mb oz D (by omega) (by omega)
  obtain ⟨m4, b4, b4'⟩ := mb dx N (by omega) (by omega)
  obtain ⟨m5, b5, b5'⟩ := mb dy N (by omega) (by omega)
  obtain ⟨m6, b6, b6'⟩ := mb dz N (by omega) (by omega)
  rw [m1] at e7; rw [m2] at e8; rw [m3] at e9; rw [m4] at e10; rw [m5] at e11; rw [m6] at e12
  try (refine AW_draw tok hP ?_; conv => whnf)
  first | refine AQ_vec (fun sK QK hK => refAdd6 (by unfold I64; omega) (by unfold I64; omega) (by unfold I64; omega) (by unfold I64; omega) (by unfold I64; omega) (by unfold I64; omega) hK) (fun p1 p2 p3 f1 f2 f3 => ?_) | refine refAdd6 (by unfold I64; omega) (by unfold I64; omega) (by unfold I64; omega) (by unfold I64; omega) (by unfold I64; omega) (by unfold I64; omega) (fun p1 p2 p3 f1 f2 f3 => ?_)
  conv => whnf
  try (refine And.intro (OkD.mk (by kernel_rfl)) ?_; conv => whnf)
  have pl : ∀ x y : Int, -1099511627776 ≤ x ∧ x ≤ 1099511627776 → -1099511627776 ≤ y ∧ y ≤ 1099511627776 → plusI x y = x + y := fun x y hx hy => by rw [show plusI x y = if x + y > 9223372036854775807 then 9223372036854775807 else if x + y < -9223372036854775808 then -9223372036854775808 else x + y from rfl, if_neg (by omega), if_neg (by omega)]
  rw [pl _ _ (by omega) (by omega), e7, e10] at f1
  rw [pl _ _ (by omega) (by omega), e8, e11] at f2
  rw [pl _ _ (by omega) (by omega), e9, e12] at f3
  obtain ⟨q1, c1, c1'⟩ := mb a D (by omega) (by omega)
  obtain ⟨q2, c2, c2'⟩ := mb b D (by omega) (by omega)
  obtain ⟨q3, c3, c3'⟩ := mb c D (by omega) (by omega)
  obtain ⟨q4, c4, c4'⟩ := mb d D (by omega) (by omega)
  obtain ⟨q5, c5, c5'⟩ := mb e D (by omega) (by omega)
  obtain ⟨q6, c6, c6'⟩ := mb f D (by omega) (by omega)
  rw [q1] at e1; rw [q2] at e2; rw [q3] at e3; rw [q4] at e4; rw [q5] at e5; rw [q6] at e6
  clear mb m1 m2 m3 m4 m5 m6 q1 q2 q3 q4 q5 q6
  by_cases g0 : p1 ≥ k1
  case neg =>
    rw [decide_eq_false g0]
    conv => whnf
    try (refine AW_draw tok hP ?_; conv => whnf)
    refine ⟨⟨by kernel_rfl⟩, ?_⟩
    conv => whnf
    try (refine AW_draw tok hP ?_; conv => whnf)
    first | refine AQ_pure (fun sK QK hK => boxOf10 hK) ?_ | refine boxOf10 ?_
    conv => whnf
    try (refine And.intro (OkD.mk (by kernel_rfl)) ?_; conv => whnf)
    try (refine AW_draw tok hP ?_; conv => whnf)
    first | refine AQ_pure (fun sK QK hK => boxOf10 hK) ?_ | refine boxOf10 ?_
    conv => whnf
    try (refine And.intro (OkD.mk (by kernel_rfl)) ?_; conv => whnf)
    try (refine AW_draw tok hP ?_; conv => whnf)
    first
      | refine AQ_six (fun sK QK hK => boxJoin w1 w2 w3 w4 w5 w6 w7 w8 w9 w10 w11 w12 hv.symm hv2.symm hK) (fun u1 u2 u3 u4 u5 u6 j1 j2 j3 j4 j5 j6 => ?_)
      | refine boxJoin w1 w2 w3 w4 w5 w6 w7 w8 w9 w10 w11 w12 hv.symm hv2.symm (fun u1 u2 u3 u4 u5 u6 j1 j2 j3 j4 j5 j6 => ?_)
    conv => whnf
    try (refine And.intro (OkD.mk (by kernel_rfl)) ?_; conv => whnf)
    have allB := PB.box_join hv.symm hv2.symm j1 j2 j3 j4 j5 j6
    obtain ⟨i1, i2, i3, i4, i5, i6⟩ := PB.box_i64 allB
    try (refine AW_draw tok hP ?_; conv => whnf)
    first | refine AQ_pure (fun sK QK hK => boxOf10 hK) ?_ | refine boxOf10 ?_
    conv => whnf
    try (refine And.intro (OkD.mk (by kernel_rfl)) ?_; conv => whnf)
    try (refine AW_draw tok hP ?_; conv => whnf)
    first
      | refine AQ_iff (fun sK QK hK => boxHit w1 w2 w3 w4 w5 w6 w13 w14 w15 w16 w17 w18 iN iD hK) (fun y1 hy1 => ?_)
      | refine boxHit w1 w2 w3 w4 w5 w6 w13 w14 w15 w16 w17 w18 iN iD (fun y1 hy1 => ?_)
    conv => whnf
    try (refine And.intro (OkD.mk (by kernel_rfl)) ?_; conv => whnf)
    cases y1
    · conv => whnf
      try (refine AW_draw tok hP ?_; conv => whnf)
      first | refine AQ_pure (fun sK QK hK => boxOf10 hK) ?_ | refine boxOf10 ?_
      conv => whnf
      try (refine And.intro (OkD.mk (by kernel_rfl)) ?_; conv => whnf)
      try (refine AW_draw tok hP ?_; conv => whnf)
      first | refine AQ_bool (fun sK QK hK => boxHas w1 w2 w3 w4 w5 w6 hK) (fun z1 hz1 => ?_) | refine boxHas w1 w2 w3 w4 w5 w6 (fun z1 hz1 => ?_)
      conv => whnf
      try (refine And.intro (OkD.mk (by kernel_rfl)) ?_; conv => whnf)
      try (refine AW_draw tok hP ?_; conv => whnf)
      first | refine AQ_pure (fun sK QK hK => boxOf10 hK) ?_ | refine boxOf10 ?_
      conv => whnf
      try (refine And.intro (OkD.mk (by kernel_rfl)) ?_; conv => whnf)
      try (refine AW_draw tok hP ?_; conv => whnf)
      first
        | refine AQ_iff (fun sK QK hK => boxHit w1 w2 w3 w4 w5 w6 w13 w14 w15 w16 w17 w18 (by decide) (by decide) hK) (fun z2 hz2 => ?_)
        | refine boxHit w1 w2 w3 w4 w5 w6 w13 w14 w15 w16 w17 w18 (by decide) (by decide) (fun z2 hz2 => ?_)
      conv => whnf
      try (refine And.intro (OkD.mk (by kernel_rfl)) ?_; conv => whnf)
      obtain rfl : z1 = z2 := by
        rw [Bool.eq_iff_iff, hz2, PB.hit3_zero, hz1, ← hv]
        simp only [Bool.true_and, Bool.and_eq_true, decide_eq_true_eq]
        exact ⟨fun q => ⟨trivial, hv3.symm, hv4.symm, q⟩, fun q => q.2.2.2⟩
      rw [beq_self_eq_true z1]
      conv => whnf
      try (refine AW_draw tok hP ?_; conv => whnf)
      first | refine AQ_pure (fun sK QK hK => awake10 hK) ?_ | refine awake10 ?_
      conv => whnf
      try (refine And.intro (OkD.mk (by kernel_rfl)) ?_; conv => whnf)
    · conv => whnf
      have H := (hy1.1 rfl).2.2.2
      try (refine AW_draw tok hP ?_; conv => whnf)
      first
        | refine AQ_iff (fun sK QK hK => boxHit i1 i2 i3 i4 i5 i6 w13 w14 w15 w16 w17 w18 iN iD hK) (fun y2 hy2 => ?_)
        | refine boxHit i1 i2 i3 i4 i5 i6 w13 w14 w15 w16 w17 w18 iN iD (fun y2 hy2 => ?_)
      conv => whnf
      try (refine And.intro (OkD.mk (by kernel_rfl)) ?_; conv => whnf)
      obtain rfl : y2 = true := hy2.2 ⟨allB, hv3.symm, hv4.symm, PB.hit3_mono (PB.mm_le j1).1.1 (PB.mm_le j2).1.1 (PB.mm_le j3).1.1 (PB.mx_le j4).1.1 (PB.mx_le j5).1.1 (PB.mx_le j6).1.1 H⟩
      conv => whnf
      try (refine AW_draw tok hP ?_; conv => whnf)
      first | refine AQ_pure (fun sK QK hK => boxOf10 hK) ?_ | refine boxOf10 ?_
      conv => whnf
      try (refine And.intro (OkD.mk (by kernel_rfl)) ?_; conv => whnf)
      try (refine AW_draw tok hP ?_; conv => whnf)
      first
        | refine AQ_iff (fun sK QK hK => boxHit w1 w2 w3 w4 w5 w6 w13 w14 w15 w16 w17 w18 (by decide) (by decide) hK) (fun y3 hy3 => ?_)
        | refine boxHit w1 w2 w3 w4 w5 w6 w13 w14 w15 w16 w17 w18 (by decide) (by decide) (fun y3 hy3 => ?_)
      conv => whnf
      try (refine And.intro (OkD.mk (by kernel_rfl)) ?_; conv => whnf)
      obtain rfl : y3 = true := hy3.2 ⟨hv.symm, hv3.symm, hv4.symm, PB.hit_any H⟩
      conv => whnf
      try (refine AW_draw tok hP ?_; conv => whnf)
      first | refine AQ_pure (fun sK QK hK => boxOf10 hK) ?_ | refine boxOf10 ?_
      conv => whnf
      try (refine And.intro (OkD.mk (by kernel_rfl)) ?_; conv => whnf)
      try (refine AW_draw tok hP ?_; conv => whnf)
      first | refine AQ_bool (fun sK QK hK => boxHas w1 w2 w3 w4 w5 w6 hK) (fun z1 hz1 => ?_) | refine boxHas w1 w2 w3 w4 w5 w6 (fun z1 hz1 => ?_)
      conv => whnf
      try (refine And.intro (OkD.mk (by kernel_rfl)) ?_; conv => whnf)
      try (refine AW_draw tok hP ?_; conv => whnf)
      first | refine AQ_pure (fun sK QK hK => boxOf10 hK) ?_ | refine boxOf10 ?_
      conv => whnf
      try (refine And.intro (OkD.mk (by kernel_rfl)) ?_; conv => whnf)
      try (refine AW_draw tok hP ?_; conv => whnf)
      first
        | refine AQ_iff (fun sK QK hK => boxHit w1 w2 w3 w4 w5 w6 w13 w14 w15 w16 w17 w18 (by decide) (by decide) hK) (fun z2 hz2 => ?_)
        | refine boxHit w1 w2 w3 w4 w5 w6 w13 w14 w15 w16 w17 w18 (by decide) (by decide) (fun z2 hz2 => ?_)
      conv => whnf
      try (refine And.intro (OkD.mk (by kernel_rfl)) ?_; conv => whnf)
      obtain rfl : z1 = z2 := by
        rw [Bool.eq_iff_iff, hz2, PB.hit3_zero, hz1, ← hv]
        simp only [Bool.true_and, Bool.and_eq_true, decide_eq_true_eq]
        exact ⟨fun q => ⟨trivial, hv3.symm, hv4.symm, q⟩, fun q => q.2.2.2⟩
      rw [beq_self_eq_true z1]
      conv => whnf
      try (refine AW_draw tok hP ?_; conv => whnf)
      first | refine AQ_pure (fun sK QK hK => awake10 hK) ?_ | refine awake10 ?_
      conv => whnf
      try (refine And.intro (OkD.mk (by kernel_rfl)) ?_; conv => whnf)
  rw [decide_eq_true g0]
  conv => whnf
  by_cases g1 : p1 ≤ k4
  case neg =>
    rw [decide_eq_false g1]
    conv => whnf
    try (refine AW_draw tok hP ?_; conv => whnf)
    refine ⟨⟨by kernel_rfl⟩, ?_⟩
    conv => whnf
    try (refine AW_draw tok hP ?_; conv => whnf)
    first | refine AQ_pure (fun sK QK hK => boxOf10 hK) ?_ | refine boxOf10 ?_
    conv => whnf
    try (refine And.intro (OkD.mk (by kernel_rfl)) ?_; conv => whnf)
    try (refine AW_draw tok hP ?_; conv => whnf)
    first | refine AQ_pure (fun sK QK hK => boxOf10 hK) ?_ | refine boxOf10 ?_
    conv => whnf
    try (refine And.intro (OkD.mk (by kernel_rfl)) ?_; conv => whnf)
    try (refine AW_draw tok hP ?_; conv => whnf)
    first
      | refine AQ_six (fun sK QK hK => boxJoin w1 w2 w3 w4 w5 w6 w7 w8 w9 w10 w11 w12 hv.symm hv2.symm hK) (fun u1 u2 u3 u4 u5 u6 j1 j2 j3 j4 j5 j6 => ?_)
      | refine boxJoin w1 w2 w3 w4 w5 w6 w7 w8 w9 w10 w11 w12 hv.symm hv2.symm (fun u1 u2 u3 u4 u5 u6 j1 j2 j3 j4 j5 j6 => ?_)
    conv => whnf
    try (refine And.intro (OkD.mk (by kernel_rfl)) ?_; conv => whnf)
    have allB := PB.box_join hv.symm hv2.symm j1 j2 j3 j4 j5 j6
    obtain ⟨i1, i2, i3, i4, i5, i6⟩ := PB.box_i64 allB
    try (refine AW_draw tok hP ?_; conv => whnf)
    first | refine AQ_pure (fun sK QK hK => boxOf10 hK) ?_ | refine boxOf10 ?_
    conv => whnf
    try (refine And.intro (OkD.mk (by kernel_rfl)) ?_; conv => whnf)
    try (refine AW_draw tok hP ?_; conv => whnf)
    first
      | refine AQ_iff (fun sK QK hK => boxHit w1 w2 w3 w4 w5 w6 w13 w14 w15 w16 w17 w18 iN iD hK) (fun y1 hy1 => ?_)
      | refine boxHit w1 w2 w3 w4 w5 w6 w13 w14 w15 w16 w17 w18 iN iD (fun y1 hy1 => ?_)
    conv => whnf
    try (refine And.intro (OkD.mk (by kernel_rfl)) ?_; conv => whnf)
    cases y1
    · conv => whnf
      try (refine AW_draw tok hP ?_; conv => whnf)
      first | refine AQ_pure (fun sK QK hK => boxOf10 hK) ?_ | refine boxOf10 ?_
      conv => whnf
      try (refine And.intro (OkD.mk (by kernel_rfl)) ?_; conv => whnf)
      try (refine AW_draw tok hP ?_; conv => whnf)
      first | refine AQ_bool (fun sK QK hK => boxHas w1 w2 w3 w4 w5 w6 hK) (fun z1 hz1 => ?_) | refine boxHas w1 w2 w3 w4 w5 w6 (fun z1 hz1 => ?_)
      conv => whnf
      try (refine And.intro (OkD.mk (by kernel_rfl)) ?_; conv => whnf)
      try (refine AW_draw tok hP ?_; conv => whnf)
      first | refine AQ_pure (fun sK QK hK => boxOf10 hK) ?_ | refine boxOf10 ?_
      conv => whnf
      try (refine And.intro (OkD.mk (by kernel_rfl)) ?_; conv => whnf)
      try (refine AW_draw tok hP ?_; conv => whnf)
      first
        | refine AQ_iff (fun sK QK hK => boxHit w1 w2 w3 w4 w5 w6 w13 w14 w15 w16 w17 w18 (by decide) (by decide) hK) (fun z2 hz2 => ?_)
        | refine boxHit w1 w2 w3 w4 w5 w6 w13 w14 w15 w16 w17 w18 (by decide) (by decide) (fun z2 hz2 => ?_)
      conv => whnf
      try (refine And.intro (OkD.mk (by kernel_rfl)) ?_; conv => whnf)
      obtain rfl : z1 = z2 := by
        rw [Bool.eq_iff_iff, hz2, PB.hit3_zero, hz1, ← hv]
        simp only [Bool.true_and, Bool.and_eq_true, decide_eq_true_eq]
        exact ⟨fun q => ⟨trivial, hv3.symm, hv4.symm, q⟩, fun q => q.2.2.2⟩
      rw [beq_self_eq_true z1]
      conv => whnf
      try (refine AW_draw tok hP ?_; conv => whnf)
      first | refine AQ_pure (fun sK QK hK => awake10 hK) ?_ | refine awake10 ?_
      conv => whnf
      try (refine And.intro (OkD.mk (by kernel_rfl)) ?_; conv => whnf)
    · conv => whnf
      have H := (hy1.1 rfl).2.2.2
      try (refine AW_draw tok hP ?_; conv => whnf)
      first
        | refine AQ_iff (fun sK QK hK => boxHit i1 i2 i3 i4 i5 i6 w13 w14 w15 w16 w17 w18 iN iD hK) (fun y2 hy2 => ?_)
        | refine boxHit i1 i2 i3 i4 i5 i6 w13 w14 w15 w16 w17 w18 iN iD (fun y2 hy2 => ?_)
      conv => whnf
      try (refine And.intro (OkD.mk (by kernel_rfl)) ?_; conv => whnf)
      obtain rfl : y2 = true := hy2.2 ⟨allB, hv3.symm, hv4.symm, PB.hit3_mono (PB.mm_le j1).1.1 (PB.mm_le j2).1.1 (PB.mm_le j3).1.1 (PB.mx_le j4).1.1 (PB.mx_le j5).1.1 (PB.mx_le j6).1.1 H⟩
      conv => whnf
      try (refine AW_draw tok hP ?_; conv => whnf)
      first | refine AQ_pure (fun sK QK hK => boxOf10 hK) ?_ | refine boxOf10 ?_
      conv => whnf
      try (refine And.intro (OkD.mk (by kernel_rfl)) ?_; conv => whnf)
      try (refine AW_draw tok hP ?_; conv => whnf)
      first
        | refine AQ_iff (fun sK QK hK => boxHit w1 w2 w3 w4 w5 w6 w13 w14 w15 w16 w17 w18 (by decide) (by decide) hK) (fun y3 hy3 => ?_)
        | refine boxHit w1 w2 w3 w4 w5 w6 w13 w14 w15 w16 w17 w18 (by decide) (by decide) (fun y3 hy3 => ?_)
      conv => whnf
      try (refine And.intro (OkD.mk (by kernel_rfl)) ?_; conv => whnf)
      obtain rfl : y3 = true := hy3.2 ⟨hv.symm, hv3.symm, hv4.symm, PB.hit_any H⟩
      conv => whnf
      try (refine AW_draw tok hP ?_; conv => whnf)
      first | refine AQ_pure (fun sK QK hK => boxOf10 hK) ?_ | refine boxOf10 ?_
      conv => whnf
      try (refine And.intro (OkD.mk (by kernel_rfl)) ?_; conv => whnf)
      try (refine AW_draw tok hP ?_; conv => whnf)
      first | refine AQ_bool (fun sK QK hK => boxHas w1 w2 w3 w4 w5 w6 hK) (fun z1 hz1 => ?_) | refine boxHas w1 w2 w3 w4 w5 w6 (fun z1 hz1 => ?_)
      conv => whnf
      try (refine And.intro (OkD.mk (by kernel_rfl)) ?_; conv => whnf)
      try (refine AW_draw tok hP ?_; conv => whnf)
      first | refine AQ_pure (fun sK QK hK => boxOf10 hK) ?_ | refine boxOf10 ?_
      conv => whnf
      try (refine And.intro (OkD.mk (by kernel_rfl)) ?_; conv => whnf)
      try (refine AW_draw tok hP ?_; conv => whnf)
      first
        | refine AQ_iff (fun sK QK hK => boxHit w1 w2 w3 w4 w5 w6 w13 w14 w15 w16 w17 w18 (by decide) (by decide) hK) (fun z2 hz2 => ?_)
        | refine boxHit w1 w2 w3 w4 w5 w6 w13 w14 w15 w16 w17 w18 (by decide) (by decide) (fun z2 hz2 => ?_)
      conv => whnf
      try (refine And.intro (OkD.mk (by kernel_rfl)) ?_; conv => whnf)
      obtain rfl : z1 = z2 := by
        rw [Bool.eq_iff_iff, hz2, PB.hit3_zero, hz1, ← hv]
        simp only [Bool.true_and, Bool.and_eq_true, decide_eq_true_eq]
        exact ⟨fun q => ⟨trivial, hv3.symm, hv4.symm, q⟩, fun q => q.2.2.2⟩
      rw [beq_self_eq_true z1]
      conv => whnf
      try (refine AW_draw tok hP ?_; conv => whnf)
      first | refine AQ_pure (fun sK QK hK => awake10 hK) ?_ | refine awake10 ?_
      conv => whnf
      try (refine And.intro (OkD.mk (by kernel_rfl)) ?_; conv => whnf)
  rw [decide_eq_true g1]
  conv => whnf
  by_cases g2 : p2 ≥ k2
  case neg =>
    rw [decide_eq_false g2]
    conv => whnf
    try (refine AW_draw tok hP ?_; conv => whnf)
    refine ⟨⟨by kernel_rfl⟩, ?_⟩
    conv => whnf
    try (refine AW_draw tok hP ?_; conv => whnf)
    first | refine AQ_pure (fun sK QK hK => boxOf10 hK) ?_ | refine boxOf10 ?_
    conv => whnf
    try (refine And.intro (OkD.mk (by kernel_rfl)) ?_; conv => whnf)
    try (refine AW_draw tok hP ?_; conv => whnf)
    first | refine AQ_pure (fun sK QK hK => boxOf10 hK) ?_ | refine boxOf10 ?_
    conv => whnf
    try (refine And.intro (OkD.mk (by kernel_rfl)) ?_; conv => whnf)
    try (refine AW_draw tok hP ?_; conv => whnf)
    first
      | refine AQ_six (fun sK QK hK => boxJoin w1 w2 w3 w4 w5 w6 w7 w8 w9 w10 w11 w12 hv.symm hv2.symm hK) (fun u1 u2 u3 u4 u5 u6 j1 j2 j3 j4 j5 j6 => ?_)
      | refine boxJoin w1 w2 w3 w4 w5 w6 w7 w8 w9 w10 w11 w12 hv.symm hv2.symm (fun u1 u2 u3 u4 u5 u6 j1 j2 j3 j4 j5 j6 => ?_)
    conv => whnf
    try (refine And.intro (OkD.mk (by kernel_rfl)) ?_; conv => whnf)
    have allB := PB.box_join hv.symm hv2.symm j1 j2 j3 j4 j5 j6
    obtain ⟨i1, i2, i3, i4, i5, i6⟩ := PB.box_i64 allB
    try (refine AW_draw tok hP ?_; conv => whnf)
    first | refine AQ_pure (fun sK QK hK => boxOf10 hK) ?_ | refine boxOf10 ?_
    conv => whnf
    try (refine And.intro (OkD.mk (by kernel_rfl)) ?_; conv => whnf)
    try (refine AW_draw tok hP ?_; conv => whnf)
    first
      | refine AQ_iff (fun sK QK hK => boxHit w1 w2 w3 w4 w5 w6 w13 w14 w15 w16 w17 w18 iN iD hK) (fun y1 hy1 => ?_)
      | refine boxHit w1 w2 w3 w4 w5 w6 w13 w14 w15 w16 w17 w18 iN iD (fun y1 hy1 => ?_)
    conv => whnf
    try (refine And.intro (OkD.mk (by kernel_rfl)) ?_; conv => whnf)
    cases y1
    · conv => whnf
      try (refine AW_draw tok hP ?_; conv => whnf)
      first | refine AQ_pure (fun sK QK hK => boxOf10 hK) ?_ | refine boxOf10 ?_
      conv => whnf
      try (refine And.intro (OkD.mk (by kernel_rfl)) ?_; conv => whnf)
      try (refine AW_draw tok hP ?_; conv => whnf)
      first | refine AQ_bool (fun sK QK hK => boxHas w1 w2 w3 w4 w5 w6 hK) (fun z1 hz1 => ?_) | refine boxHas w1 w2 w3 w4 w5 w6 (fun z1 hz1 => ?_)
      conv => whnf
      try (refine And.intro (OkD.mk (by kernel_rfl)) ?_; conv => whnf)
      try (refine AW_draw tok hP ?_; conv => whnf)
      first | refine AQ_pure (fun sK QK hK => boxOf10 hK) ?_ | refine boxOf10 ?_
      conv => whnf
      try (refine And.intro (OkD.mk (by kernel_rfl)) ?_; conv => whnf)
      try (refine AW_draw tok hP ?_; conv => whnf)
      first
        | refine AQ_iff (fun sK QK hK => boxHit w1 w2 w3 w4 w5 w6 w13 w14 w15 w16 w17 w18 (by decide) (by decide) hK) (fun z2 hz2 => ?_)
        | refine boxHit w1 w2 w3 w4 w5 w6 w13 w14 w15 w16 w17 w18 (by decide) (by decide) (fun z2 hz2 => ?_)
      conv => whnf
      try (refine And.intro (OkD.mk (by kernel_rfl)) ?_; conv => whnf)
      obtain rfl : z1 = z2 := by
        rw [Bool.eq_iff_iff, hz2, PB.hit3_zero, hz1, ← hv]
        simp only [Bool.true_and, Bool.and_eq_true, decide_eq_true_eq]
        exact ⟨fun q => ⟨trivial, hv3.symm, hv4.symm, q⟩, fun q => q.2.2.2⟩
      rw [beq_self_eq_true z1]
      conv => whnf
      try (refine AW_draw tok hP ?_; conv => whnf)
      first | refine AQ_pure (fun sK QK hK => awake10 hK) ?_ | refine awake10 ?_
      conv => whnf
      try (refine And.intro (OkD.mk (by kernel_rfl)) ?_; conv => whnf)
    · conv => whnf
      have H := (hy1.1 rfl).2.2.2
      try (refine AW_draw tok hP ?_; conv => whnf)
      first
        | refine AQ_iff (fun sK QK hK => boxHit i1 i2 i3 i4 i5 i6 w13 w14 w15 w16 w17 w18 iN iD hK) (fun y2 hy2 => ?_)
        | refine boxHit i1 i2 i3 i4 i5 i6 w13 w14 w15 w16 w17 w18 iN iD (fun y2 hy2 => ?_)
      conv => whnf
      try (refine And.intro (OkD.mk (by kernel_rfl)) ?_; conv => whnf)
      obtain rfl : y2 = true := hy2.2 ⟨allB, hv3.symm, hv4.symm, PB.hit3_mono (PB.mm_le j1).1.1 (PB.mm_le j2).1.1 (PB.mm_le j3).1.1 (PB.mx_le j4).1.1 (PB.mx_le j5).1.1 (PB.mx_le j6).1.1 H⟩
      conv => whnf
      try (refine AW_draw tok hP ?_; conv => whnf)
      first | refine AQ_pure (fun sK QK hK => boxOf10 hK) ?_ | refine boxOf10 ?_
      conv => whnf
      try (refine And.intro (OkD.mk (by kernel_rfl)) ?_; conv => whnf)
      try (refine AW_draw tok hP ?_; conv => whnf)
      first
        | refine AQ_iff (fun sK QK hK => boxHit w1 w2 w3 w4 w5 w6 w13 w14 w15 w16 w17 w18 (by decide) (by decide) hK) (fun y3 hy3 => ?_)
        | refine boxHit w1 w2 w3 w4 w5 w6 w13 w14 w15 w16 w17 w18 (by decide) (by decide) (fun y3 hy3 => ?_)
      conv => whnf
      try (refine And.intro (OkD.mk (by kernel_rfl)) ?_; conv => whnf)
      obtain rfl : y3 = true := hy3.2 ⟨hv.symm, hv3.symm, hv4.symm, PB.hit_any H⟩
      conv => whnf
      try (refine AW_draw tok hP ?_; conv => whnf)
      first | refine AQ_pure (fun sK QK hK => boxOf10 hK) ?_ | refine boxOf10 ?_
      conv => whnf
      try (refine And.intro (OkD.mk (by kernel_rfl)) ?_; conv => whnf)
      try (refine AW_draw tok hP ?_; conv => whnf)
      first | refine AQ_bool (fun sK QK hK => boxHas w1 w2 w3 w4 w5 w6 hK) (fun z1 hz1 => ?_) | refine boxHas w1 w2 w3 w4 w5 w6 (fun z1 hz1 => ?_)
      conv => whnf
      try (refine And.intro (OkD.mk (by kernel_rfl)) ?_; conv => whnf)
      try (refine AW_draw tok hP ?_; conv => whnf)
      first | refine AQ_pure (fun sK QK hK => boxOf10 hK) ?_ | refine boxOf10 ?_
      conv => whnf
      try (refine And.intro (OkD.mk (by kernel_rfl)) ?_; conv => whnf)
      try (refine AW_draw tok hP ?_; conv => whnf)
      first
        | refine AQ_iff (fun sK QK hK => boxHit w1 w2 w3 w4 w5 w6 w13 w14 w15 w16 w17 w18 (by decide) (by decide) hK) (fun z2 hz2 => ?_)
        | refine boxHit w1 w2 w3 w4 w5 w6 w13 w14 w15 w16 w17 w18 (by decide) (by decide) (fun z2 hz2 => ?_)
      conv => whnf
      try (refine And.intro (OkD.mk (by kernel_rfl)) ?_; conv => whnf)
      obtain rfl : z1 = z2 := by
        rw [Bool.eq_iff_iff, hz2, PB.hit3_zero, hz1, ← hv]
        simp only [Bool.true_and, Bool.and_eq_true, decide_eq_true_eq]
        exact ⟨fun q => ⟨trivial, hv3.symm, hv4.symm, q⟩, fun q => q.2.2.2⟩
      rw [beq_self_eq_true z1]
      conv => whnf
      try (refine AW_draw tok hP ?_; conv => whnf)
      first | refine AQ_pure (fun sK QK hK => awake10 hK) ?_ | refine awake10 ?_
      conv => whnf
      try (refine And.intro (OkD.mk (by kernel_rfl)) ?_; conv => whnf)
  rw [decide_eq_true g2]
  conv => whnf
  by_cases g3 : p2 ≤ k5
  case neg =>
    rw [decide_eq_false g3]
    conv => whnf
    try (refine AW_draw tok hP ?_; conv => whnf)
    refine ⟨⟨by kernel_rfl⟩, ?_⟩
    conv => whnf
    try (refine AW_draw tok hP ?_; conv => whnf)
    first | refine AQ_pure (fun sK QK hK => boxOf10 hK) ?_ | refine boxOf10 ?_
    conv => whnf
    try (refine And.intro (OkD.mk (by kernel_rfl)) ?_; conv => whnf)
    try (refine AW_draw tok hP ?_; conv => whnf)
    first | refine AQ_pure (fun sK QK hK => boxOf10 hK) ?_ | refine boxOf10 ?_
    conv => whnf
    try (refine And.intro (OkD.mk (by kernel_rfl)) ?_; conv => whnf)
    try (refine AW_draw tok hP ?_; conv => whnf)
    first
      | refine AQ_six (fun sK QK hK => boxJoin w1 w2 w3 w4 w5 w6 w7 w8 w9 w10 w11 w12 hv.symm hv2.symm hK) (fun u1 u2 u3 u4 u5 u6 j1 j2 j3 j4 j5 j6 => ?_)
      | refine boxJoin w1 w2 w3 w4 w5 w6 w7 w8 w9 w10 w11 w12 hv.symm hv2.symm (fun u1 u2 u3 u4 u5 u6 j1 j2 j3 j4 j5 j6 => ?_)
    conv => whnf
    try (refine And.intro (OkD.mk (by kernel_rfl)) ?_; conv => whnf)
    have allB := PB.box_join hv.symm hv2.symm j1 j2 j3 j4 j5 j6
    obtain ⟨i1, i2, i3, i4, i5, i6⟩ := PB.box_i64 allB
    try (refine AW_draw tok hP ?_; conv => whnf)
    first | refine AQ_pure (fun sK QK hK => boxOf10 hK) ?_ | refine boxOf10 ?_
    conv => whnf
    try (refine And.intro (OkD.mk (by kernel_rfl)) ?_; conv => whnf)
    try (refine AW_draw tok hP ?_; conv => whnf)
    first
      | refine AQ_iff (fun sK QK hK => boxHit w1 w2 w3 w4 w5 w6 w13 w14 w15 w16 w17 w18 iN iD hK) (fun y1 hy1 => ?_)
      | refine boxHit w1 w2 w3 w4 w5 w6 w13 w14 w15 w16 w17 w18 iN iD (fun y1 hy1 => ?_)
    conv => whnf
    try (refine And.intro (OkD.mk (by kernel_rfl)) ?_; conv => whnf)
    cases y1
    · conv => whnf
      try (refine AW_draw tok hP ?_; conv => whnf)
      first | refine AQ_pure (fun sK QK hK => boxOf10 hK) ?_ | refine boxOf10 ?_
      conv => whnf
      try (refine And.intro (OkD.mk (by kernel_rfl)) ?_; conv => whnf)
      try (refine AW_draw tok hP ?_; conv => whnf)
      first | refine AQ_bool (fun sK QK hK => boxHas w1 w2 w3 w4 w5 w6 hK) (fun z1 hz1 => ?_) | refine boxHas w1 w2 w3 w4 w5 w6 (fun z1 hz1 => ?_)
      conv => whnf
      try (refine And.intro (OkD.mk (by kernel_rfl)) ?_; conv => whnf)
      try (refine AW_draw tok hP ?_; conv => whnf)
      first | refine AQ_pure (fun sK QK hK => boxOf10 hK) ?_ | refine boxOf10 ?_
      conv => whnf
      try (refine And.intro (OkD.mk (by kernel_rfl)) ?_; conv => whnf)
      try (refine AW_draw tok hP ?_; conv => whnf)
      first
        | refine AQ_iff (fun sK QK hK => boxHit w1 w2 w3 w4 w5 w6 w13 w14 w15 w16 w17 w18 (by decide) (by decide) hK) (fun z2 hz2 => ?_)
        | refine boxHit w1 w2 w3 w4 w5 w6 w13 w14 w15 w16 w17 w18 (by decide) (by decide) (fun z2 hz2 => ?_)
      conv => whnf
      try (refine And.intro (OkD.mk (by kernel_rfl)) ?_; conv => whnf)
      obtain rfl : z1 = z2 := by
        rw [Bool.eq_iff_iff, hz2, PB.hit3_zero, hz1, ← hv]
        simp only [Bool.true_and, Bool.and_eq_true, decide_eq_true_eq]
        exact ⟨fun q => ⟨trivial, hv3.symm, hv4.symm, q⟩, fun q => q.2.2.2⟩
      rw [beq_self_eq_true z1]
      conv => whnf
      try (refine AW_draw tok hP ?_; conv => whnf)
      first | refine AQ_pure (fun sK QK hK => awake10 hK) ?_ | refine awake10 ?_
      conv => whnf
      try (refine And.intro (OkD.mk (by kernel_rfl)) ?_; conv => whnf)
    · conv => whnf
      have H := (hy1.1 rfl).2.2.2
      try (refine AW_draw tok hP ?_; conv => whnf)
      first
        | refine AQ_iff (fun sK QK hK => boxHit i1 i2 i3 i4 i5 i6 w13 w14 w15 w16 w17 w18 iN iD hK) (fun y2 hy2 => ?_)
        | refine boxHit i1 i2 i3 i4 i5 i6 w13 w14 w15 w16 w17 w18 iN iD (fun y2 hy2 => ?_)
      conv => whnf
      try (refine And.intro (OkD.mk (by kernel_rfl)) ?_; conv => whnf)
      obtain rfl : y2 = true := hy2.2 ⟨allB, hv3.symm, hv4.symm, PB.hit3_mono (PB.mm_le j1).1.1 (PB.mm_le j2).1.1 (PB.mm_le j3).1.1 (PB.mx_le j4).1.1 (PB.mx_le j5).1.1 (PB.mx_le j6).1.1 H⟩
      conv => whnf
      try (refine AW_draw tok hP ?_; conv => whnf)
      first | refine AQ_pure (fun sK QK hK => boxOf10 hK) ?_ | refine boxOf10 ?_
      conv => whnf
      try (refine And.intro (OkD.mk (by kernel_rfl)) ?_; conv => whnf)
      try (refine AW_draw tok hP ?_; conv => whnf)
      first
        | refine AQ_iff (fun sK QK hK => boxHit w1 w2 w3 w4 w5 w6 w13 w14 w15 w16 w17 w18 (by decide) (by decide) hK) (fun y3 hy3 => ?_)
        | refine boxHit w1 w2 w3 w4 w5 w6 w13 w14 w15 w16 w17 w18 (by decide) (by decide) (fun y3 hy3 => ?_)
      conv => whnf
      try (refine And.intro (OkD.mk (by kernel_rfl)) ?_; conv => whnf)
      obtain rfl : y3 = true := hy3.2 ⟨hv.symm, hv3.symm, hv4.symm, PB.hit_any H⟩
      conv => whnf
      try (refine AW_draw tok hP ?_; conv => whnf)
      first | refine AQ_pure (fun sK QK hK => boxOf10 hK) ?_ | refine boxOf10 ?_
      conv => whnf
      try (refine And.intro (OkD.mk (by kernel_rfl)) ?_; conv => whnf)
      try (refine AW_draw tok hP ?_; conv => whnf)
      first | refine AQ_bool (fun sK QK hK => boxHas w1 w2 w3 w4 w5 w6 hK) (fun z1 hz1 => ?_) | refine boxHas w1 w2 w3 w4 w5 w6 (fun z1 hz1 => ?_)
      conv => whnf
      try (refine And.intro (OkD.mk (by kernel_rfl)) ?_; conv => whnf)
      try (refine AW_draw tok hP ?_; conv => whnf)
      first | refine AQ_pure (fun sK QK hK => boxOf10 hK) ?_ | refine boxOf10 ?_
      conv => whnf
      try (refine And.intro (OkD.mk (by kernel_rfl)) ?_; conv => whnf)
      try (refine AW_draw tok hP ?_; conv => whnf)
      first
        | refine AQ_iff (fun sK QK hK => boxHit w1 w2 w3 w4 w5 w6 w13 w14 w15 w16 w17 w18 (by decide) (by decide) hK) (fun z2 hz2 => ?_)
        | refine boxHit w1 w2 w3 w4 w5 w6 w13 w14 w15 w16 w17 w18 (by decide) (by decide) (fun z2 hz2 => ?_)
      conv => whnf
      try (refine And.intro (OkD.mk (by kernel_rfl)) ?_; conv => whnf)
      obtain rfl : z1 = z2 := by
        rw [Bool.eq_iff_iff, hz2, PB.hit3_zero, hz1, ← hv]
        simp only [Bool.true_and, Bool.and_eq_true, decide_eq_true_eq]
        exact ⟨fun q => ⟨trivial, hv3.symm, hv4.symm, q⟩, fun q => q.2.2.2⟩
      rw [beq_self_eq_true z1]
      conv => whnf
      try (refine AW_draw tok hP ?_; conv => whnf)
      first | refine AQ_pure (fun sK QK hK => awake10 hK) ?_ | refine awake10 ?_
      conv => whnf
      try (refine And.intro (OkD.mk (by kernel_rfl)) ?_; conv => whnf)
  rw [decide_eq_true g3]
  conv => whnf
  by_cases g4 : p3 ≥ k3
  case neg =>
    rw [decide_eq_false g4]
    conv => whnf
    try (refine AW_draw tok hP ?_; conv => whnf)
    refine ⟨⟨by kernel_rfl⟩, ?_⟩
    conv => whnf
    try (refine AW_draw tok hP ?_; conv => whnf)
    first | refine AQ_pure (fun sK QK hK => boxOf10 hK) ?_ | refine boxOf10 ?_
    conv => whnf
    try (refine And.intro (OkD.mk (by kernel_rfl)) ?_; conv => whnf)
    try (refine AW_draw tok hP ?_; conv => whnf)
    first | refine AQ_pure (fun sK QK hK => boxOf10 hK) ?_ | refine boxOf10 ?_
    conv => whnf
    try (refine And.intro (OkD.mk (by kernel_rfl)) ?_; conv => whnf)
    try (refine AW_draw tok hP ?_; conv => whnf)
    first
      | refine AQ_six (fun sK QK hK => boxJoin w1 w2 w3 w4 w5 w6 w7 w8 w9 w10 w11 w12 hv.symm hv2.symm hK) (fun u1 u2 u3 u4 u5 u6 j1 j2 j3 j4 j5 j6 => ?_)
      | refine boxJoin w1 w2 w3 w4 w5 w6 w7 w8 w9 w10 w11 w12 hv.symm hv2.symm (fun u1 u2 u3 u4 u5 u6 j1 j2 j3 j4 j5 j6 => ?_)
    conv => whnf
    try (refine And.intro (OkD.mk (by kernel_rfl)) ?_; conv => whnf)
    have allB := PB.box_join hv.symm hv2.symm j1 j2 j3 j4 j5 j6
    obtain ⟨i1, i2, i3, i4, i5, i6⟩ := PB.box_i64 allB
    try (refine AW_draw tok hP ?_; conv => whnf)
    first | refine AQ_pure (fun sK QK hK => boxOf10 hK) ?_ | refine boxOf10 ?_
    conv => whnf
    try (refine And.intro (OkD.mk (by kernel_rfl)) ?_; conv => whnf)
    try (refine AW_draw tok hP ?_; conv => whnf)
    first
      | refine AQ_iff (fun sK QK hK => boxHit w1 w2 w3 w4 w5 w6 w13 w14 w15 w16 w17 w18 iN iD hK) (fun y1 hy1 => ?_)
      | refine boxHit w1 w2 w3 w4 w5 w6 w13 w14 w15 w16 w17 w18 iN iD (fun y1 hy1 => ?_)
    conv => whnf
    try (refine And.intro (OkD.mk (by kernel_rfl)) ?_; conv => whnf)
    cases y1
    · conv => whnf
      try (refine AW_draw tok hP ?_; conv => whnf)
      first | refine AQ_pure (fun sK QK hK => boxOf10 hK) ?_ | refine boxOf10 ?_
      conv => whnf
      try (refine And.intro (OkD.mk (by kernel_rfl)) ?_; conv => whnf)
      try (refine AW_draw tok hP ?_; conv => whnf)
      first | refine AQ_bool (fun sK QK hK => boxHas w1 w2 w3 w4 w5 w6 hK) (fun z1 hz1 => ?_) | refine boxHas w1 w2 w3 w4 w5 w6 (fun z1 hz1 => ?_)
      conv => whnf
      try (refine And.intro (OkD.mk (by kernel_rfl)) ?_; conv => whnf)
      try (refine AW_draw tok hP ?_; conv => whnf)
      first | refine AQ_pure (fun sK QK hK => boxOf10 hK) ?_ | refine boxOf10 ?_
      conv => whnf
      try (refine And.intro (OkD.mk (by kernel_rfl)) ?_; conv => whnf)
      try (refine AW_draw tok hP ?_; conv => whnf)
      first
        | refine AQ_iff (fun sK QK hK => boxHit w1 w2 w3 w4 w5 w6 w13 w14 w15 w16 w17 w18 (by decide) (by decide) hK) (fun z2 hz2 => ?_)
        | refine boxHit w1 w2 w3 w4 w5 w6 w13 w14 w15 w16 w17 w18 (by decide) (by decide) (fun z2 hz2 => ?_)
      conv => whnf
      try (refine And.intro (OkD.mk (by kernel_rfl)) ?_; conv => whnf)
      obtain rfl : z1 = z2 := by
        rw [Bool.eq_iff_iff, hz2, PB.hit3_zero, hz1, ← hv]
        simp only [Bool.true_and, Bool.and_eq_true, decide_eq_true_eq]
        exact ⟨fun q => ⟨trivial, hv3.symm, hv4.symm, q⟩, fun q => q.2.2.2⟩
      rw [beq_self_eq_true z1]
      conv => whnf
      try (refine AW_draw tok hP ?_; conv => whnf)
      first | refine AQ_pure (fun sK QK hK => awake10 hK) ?_ | refine awake10 ?_
      conv => whnf
      try (refine And.intro (OkD.mk (by kernel_rfl)) ?_; conv => whnf)
    · conv => whnf
      have H := (hy1.1 rfl).2.2.2
      try (refine AW_draw tok hP ?_; conv => whnf)
      first
        | refine AQ_iff (fun sK QK hK => boxHit i1 i2 i3 i4 i5 i6 w13 w14 w15 w16 w17 w18 iN iD hK) (fun y2 hy2 => ?_)
        | refine boxHit i1 i2 i3 i4 i5 i6 w13 w14 w15 w16 w17 w18 iN iD (fun y2 hy2 => ?_)
      conv => whnf
      try (refine And.intro (OkD.mk (by kernel_rfl)) ?_; conv => whnf)
      obtain rfl : y2 = true := hy2.2 ⟨allB, hv3.symm, hv4.symm, PB.hit3_mono (PB.mm_le j1).1.1 (PB.mm_le j2).1.1 (PB.mm_le j3).1.1 (PB.mx_le j4).1.1 (PB.mx_le j5).1.1 (PB.mx_le j6).1.1 H⟩
      conv => whnf
      try (refine AW_draw tok hP ?_; conv => whnf)
      first | refine AQ_pure (fun sK QK hK => boxOf10 hK) ?_ | refine boxOf10 ?_
      conv => whnf
      try (refine And.intro (OkD.mk (by kernel_rfl)) ?_; conv => whnf)
      try (refine AW_draw tok hP ?_; conv => whnf)
      first
        | refine AQ_iff (fun sK QK hK => boxHit w1 w2 w3 w4 w5 w6 w13 w14 w15 w16 w17 w18 (by decide) (by decide) hK) (fun y3 hy3 => ?_)
        | refine boxHit w1 w2 w3 w4 w5 w6 w13 w14 w15 w16 w17 w18 (by decide) (by decide) (fun y3 hy3 => ?_)
      conv => whnf
      try (refine And.intro (OkD.mk (by kernel_rfl)) ?_; conv => whnf)
      obtain rfl : y3 = true := hy3.2 ⟨hv.symm, hv3.symm, hv4.symm, PB.hit_any H⟩
      conv => whnf
      try (refine AW_draw tok hP ?_; conv => whnf)
      first | refine AQ_pure (fun sK QK hK => boxOf10 hK) ?_ | refine boxOf10 ?_
      conv => whnf
      try (refine And.intro (OkD.mk (by kernel_rfl)) ?_; conv => whnf)
      try (refine AW_draw tok hP ?_; conv => whnf)
      first | refine AQ_bool (fun sK QK hK => boxHas w1 w2 w3 w4 w5 w6 hK) (fun z1 hz1 => ?_) | refine boxHas w1 w2 w3 w4 w5 w6 (fun z1 hz1 => ?_)
      conv => whnf
      try (refine And.intro (OkD.mk (by kernel_rfl)) ?_; conv => whnf)
      try (refine AW_draw tok hP ?_; conv => whnf)
      first | refine AQ_pure (fun sK QK hK => boxOf10 hK) ?_ | refine boxOf10 ?_
      conv => whnf
      try (refine And.intro (OkD.mk (by kernel_rfl)) ?_; conv => whnf)
      try (refine AW_draw tok hP ?_; conv => whnf)
      first
        | refine AQ_iff (fun sK QK hK => boxHit w1 w2 w3 w4 w5 w6 w13 w14 w15 w16 w17 w18 (by decide) (by decide) hK) (fun z2 hz2 => ?_)
        | refine boxHit w1 w2 w3 w4 w5 w6 w13 w14 w15 w16 w17 w18 (by decide) (by decide) (fun z2 hz2 => ?_)
      conv => whnf
      try (refine And.intro (OkD.mk (by kernel_rfl)) ?_; conv => whnf)
      obtain rfl : z1 = z2 := by
        rw [Bool.eq_iff_iff, hz2, PB.hit3_zero, hz1, ← hv]
        simp only [Bool.true_and, Bool.and_eq_true, decide_eq_true_eq]
        exact ⟨fun q => ⟨trivial, hv3.symm, hv4.symm, q⟩, fun q => q.2.2.2⟩
      rw [beq_self_eq_true z1]
      conv => whnf
      try (refine AW_draw tok hP ?_; conv => whnf)
      first | refine AQ_pure (fun sK QK hK => awake10 hK) ?_ | refine awake10 ?_
      conv => whnf
      try (refine And.intro (OkD.mk (by kernel_rfl)) ?_; conv => whnf)
  rw [decide_eq_true g4]
  conv => whnf
  by_cases g5 : p3 ≤ k6
  case neg =>
    rw [decide_eq_false g5]
    conv => whnf
    try (refine AW_draw tok hP ?_; conv => whnf)
    refine ⟨⟨by kernel_rfl⟩, ?_⟩
    conv => whnf
    try (refine AW_draw tok hP ?_; conv => whnf)
    first | refine AQ_pure (fun sK QK hK => boxOf10 hK) ?_ | refine boxOf10 ?_
    conv => whnf
    try (refine And.intro (OkD.mk (by kernel_rfl)) ?_; conv => whnf)
    try (refine AW_draw tok hP ?_; conv => whnf)
    first | refine AQ_pure (fun sK QK hK => boxOf10 hK) ?_ | refine boxOf10 ?_
    conv => whnf
    try (refine And.intro (OkD.mk (by kernel_rfl)) ?_; conv => whnf)
    try (refine AW_draw tok hP ?_; conv => whnf)
    first
      | refine AQ_six (fun sK QK hK => boxJoin w1 w2 w3 w4 w5 w6 w7 w8 w9 w10 w11 w12 hv.symm hv2.symm hK) (fun u1 u2 u3 u4 u5 u6 j1 j2 j3 j4 j5 j6 => ?_)
      | refine boxJoin w1 w2 w3 w4 w5 w6 w7 w8 w9 w10 w11 w12 hv.symm hv2.symm (fun u1 u2 u3 u4 u5 u6 j1 j2 j3 j4 j5 j6 => ?_)
    conv => whnf
    try (refine And.intro (OkD.mk (by kernel_rfl)) ?_; conv => whnf)
    have allB := PB.box_join hv.symm hv2.symm j1 j2 j3 j4 j5 j6
    obtain ⟨i1, i2, i3, i4, i5, i6⟩ := PB.box_i64 allB
    try (refine AW_draw tok hP ?_; conv => whnf)
    first | refine AQ_pure (fun sK QK hK => boxOf10 hK) ?_ | refine boxOf10 ?_
    conv => whnf
    try (refine And.intro (OkD.mk (by kernel_rfl)) ?_; conv => whnf)
    try (refine AW_draw tok hP ?_; conv => whnf)
    first
      | refine AQ_iff (fun sK QK hK => boxHit w1 w2 w3 w4 w5 w6 w13 w14 w15 w16 w17 w18 iN iD hK) (fun y1 hy1 => ?_)
      | refine boxHit w1 w2 w3 w4 w5 w6 w13 w14 w15 w16 w17 w18 iN iD (fun y1 hy1 => ?_)
    conv => whnf
    try (refine And.intro (OkD.mk (by kernel_rfl)) ?_; conv => whnf)
    cases y1
    · conv => whnf
      try (refine AW_draw tok hP ?_; conv => whnf)
      first | refine AQ_pure (fun sK QK hK => boxOf10 hK) ?_ | refine boxOf10 ?_
      conv => whnf
      try (refine And.intro (OkD.mk (by kernel_rfl)) ?_; conv => whnf)
      try (refine AW_draw tok hP ?_; conv => whnf)
      first | refine AQ_bool (fun sK QK hK => boxHas w1 w2 w3 w4 w5 w6 hK) (fun z1 hz1 => ?_) | refine boxHas w1 w2 w3 w4 w5 w6 (fun z1 hz1 => ?_)
      conv => whnf
      try (refine And.intro (OkD.mk (by kernel_rfl)) ?_; conv => whnf)
      try (refine AW_draw tok hP ?_; conv => whnf)
      first | refine AQ_pure (fun sK QK hK => boxOf10 hK) ?_ | refine boxOf10 ?_
      conv => whnf
      try (refine And.intro (OkD.mk (by kernel_rfl)) ?_; conv => whnf)
      try (refine AW_draw tok hP ?_; conv => whnf)
      first
        | refine AQ_iff (fun sK QK hK => boxHit w1 w2 w3 w4 w5 w6 w13 w14 w15 w16 w17 w18 (by decide) (by decide) hK) (fun z2 hz2 => ?_)
        | refine boxHit w1 w2 w3 w4 w5 w6 w13 w14 w15 w16 w17 w18 (by decide) (by decide) (fun z2 hz2 => ?_)
      conv => whnf
      try (refine And.intro (OkD.mk (by kernel_rfl)) ?_; conv => whnf)
      obtain rfl : z1 = z2 := by
        rw [Bool.eq_iff_iff, hz2, PB.hit3_zero, hz1, ← hv]
        simp only [Bool.true_and, Bool.and_eq_true, decide_eq_true_eq]
        exact ⟨fun q => ⟨trivial, hv3.symm, hv4.symm, q⟩, fun q => q.2.2.2⟩
      rw [beq_self_eq_true z1]
      conv => whnf
      try (refine AW_draw tok hP ?_; conv => whnf)
      first | refine AQ_pure (fun sK QK hK => awake10 hK) ?_ | refine awake10 ?_
      conv => whnf
      try (refine And.intro (OkD.mk (by kernel_rfl)) ?_; conv => whnf)
    · conv => whnf
      have H := (hy1.1 rfl).2.2.2
      try (refine AW_draw tok hP ?_; conv => whnf)
      first
        | refine AQ_iff (fun sK QK hK => boxHit i1 i2 i3 i4 i5 i6 w13 w14 w15 w16 w17 w18 iN iD hK) (fun y2 hy2 => ?_)
        | refine boxHit i1 i2 i3 i4 i5 i6 w13 w14 w15 w16 w17 w18 iN iD (fun y2 hy2 => ?_)
      conv => whnf
      try (refine And.intro (OkD.mk (by kernel_rfl)) ?_; conv => whnf)
      obtain rfl : y2 = true := hy2.2 ⟨allB, hv3.symm, hv4.symm, PB.hit3_mono (PB.mm_le j1).1.1 (PB.mm_le j2).1.1 (PB.mm_le j3).1.1 (PB.mx_le j4).1.1 (PB.mx_le j5).1.1 (PB.mx_le j6).1.1 H⟩
      conv => whnf
      try (refine AW_draw tok hP ?_; conv => whnf)
      first | refine AQ_pure (fun sK QK hK => boxOf10 hK) ?_ | refine boxOf10 ?_
      conv => whnf
      try (refine And.intro (OkD.mk (by kernel_rfl)) ?_; conv => whnf)
      try (refine AW_draw tok hP ?_; conv => whnf)
      first
        | refine AQ_iff (fun sK QK hK => boxHit w1 w2 w3 w4 w5 w6 w13 w14 w15 w16 w17 w18 (by decide) (by decide) hK) (fun y3 hy3 => ?_)
        | refine boxHit w1 w2 w3 w4 w5 w6 w13 w14 w15 w16 w17 w18 (by decide) (by decide) (fun y3 hy3 => ?_)
      conv => whnf
      try (refine And.intro (OkD.mk (by kernel_rfl)) ?_; conv => whnf)
      obtain rfl : y3 = true := hy3.2 ⟨hv.symm, hv3.symm, hv4.symm, PB.hit_any H⟩
      conv => whnf
      try (refine AW_draw tok hP ?_; conv => whnf)
      first | refine AQ_pure (fun sK QK hK => boxOf10 hK) ?_ | refine boxOf10 ?_
      conv => whnf
      try (refine And.intro (OkD.mk (by kernel_rfl)) ?_; conv => whnf)
      try (refine AW_draw tok hP ?_; conv => whnf)
      first | refine AQ_bool (fun sK QK hK => boxHas w1 w2 w3 w4 w5 w6 hK) (fun z1 hz1 => ?_) | refine boxHas w1 w2 w3 w4 w5 w6 (fun z1 hz1 => ?_)
      conv => whnf
      try (refine And.intro (OkD.mk (by kernel_rfl)) ?_; conv => whnf)
      try (refine AW_draw tok hP ?_; conv => whnf)
      first | refine AQ_pure (fun sK QK hK => boxOf10 hK) ?_ | refine boxOf10 ?_
      conv => whnf
      try (refine And.intro (OkD.mk (by kernel_rfl)) ?_; conv => whnf)
      try (refine AW_draw tok hP ?_; conv => whnf)
      first
        | refine AQ_iff (fun sK QK hK => boxHit w1 w2 w3 w4 w5 w6 w13 w14 w15 w16 w17 w18 (by decide) (by decide) hK) (fun z2 hz2 => ?_)
        | refine boxHit w1 w2 w3 w4 w5 w6 w13 w14 w15 w16 w17 w18 (by decide) (by decide) (fun z2 hz2 => ?_)
      conv => whnf
      try (refine And.intro (OkD.mk (by kernel_rfl)) ?_; conv => whnf)
      obtain rfl : z1 = z2 := by
        rw [Bool.eq_iff_iff, hz2, PB.hit3_zero, hz1, ← hv]
        simp only [Bool.true_and, Bool.and_eq_true, decide_eq_true_eq]
        exact ⟨fun q => ⟨trivial, hv3.symm, hv4.symm, q⟩, fun q => q.2.2.2⟩
      rw [beq_self_eq_true z1]
      conv => whnf
      try (refine AW_draw tok hP ?_; conv => whnf)
      first | refine AQ_pure (fun sK QK hK => awake10 hK) ?_ | refine awake10 ?_
      conv => whnf
      try (refine And.intro (OkD.mk (by kernel_rfl)) ?_; conv => whnf)
  rw [decide_eq_true g5]
  conv => whnf
  have hin : HitE [(a, d, ox, dx), (b, e, oy, dy), (c, f, oz, dz)] N D := ⟨N, D, by omega, by omega, fun _ => Int.le_refl _, by
    intro x hx
    simp only [List.mem_cons, List.not_mem_nil, or_false] at hx
    rcases hx with rfl | rfl | rfl
    · show a * D ≤ ox * D + N * dx ∧ ox * D + N * dx ≤ d * D; rw [Int.mul_comm N dx]; omega
    · show b * D ≤ oy * D + N * dy ∧ oy * D + N * dy ≤ e * D; rw [Int.mul_comm N dy]; omega
    · show c * D ≤ oz * D + N * dz ∧ oz * D + N * dz ≤ f * D; rw [Int.mul_comm N dz]; omega⟩
  have hin0 : HitE [(a, d, ox, dx), (b, e, oy, dy), (c, f, oz, dz)] 0 0 := by obtain ⟨n, m, h1, h2, h3, h4⟩ := hin; exact ⟨n, m, h1, h2, fun q => by omega, h4⟩
  try (refine AW_draw tok hP ?_; conv => whnf)
  first | refine AQ_pure (fun sK QK hK => boxOf10 hK) ?_ | refine boxOf10 ?_
  conv => whnf
  try (refine And.intro (OkD.mk (by kernel_rfl)) ?_; conv => whnf)
  try (refine AW_draw tok hP ?_; conv => whnf)
  first
    | refine AQ_iff (fun sK QK hK => boxHit w1 w2 w3 w4 w5 w6 w13 w14 w15 w16 w17 w18 iN iD hK) (fun x1 hx1 => ?_)
    | refine boxHit w1 w2 w3 w4 w5 w6 w13 w14 w15 w16 w17 w18 iN iD (fun x1 hx1 => ?_)
  conv => whnf
  try (refine And.intro (OkD.mk (by kernel_rfl)) ?_; conv => whnf)
  obtain rfl : x1 = true := hx1.2 ⟨hv.symm, hv3.symm, hv4.symm, hin⟩
  conv => whnf
  try (refine AW_draw tok hP ?_; conv => whnf)
  first | refine AQ_pure (fun sK QK hK => boxOf10 hK) ?_ | refine boxOf10 ?_
  conv => whnf
  try (refine And.intro (OkD.mk (by kernel_rfl)) ?_; conv => whnf)
  try (refine AW_draw tok hP ?_; conv => whnf)
  first
    | refine AQ_iff (fun sK QK hK => boxHit w1 w2 w3 w4 w5 w6 w13 w14 w15 w16 w17 w18 (by decide) (by decide) hK) (fun x2 hx2 => ?_)
    | refine boxHit w1 w2 w3 w4 w5 w6 w13 w14 w15 w16 w17 w18 (by decide) (by decide) (fun x2 hx2 => ?_)
  conv => whnf
  try (refine And.intro (OkD.mk (by kernel_rfl)) ?_; conv => whnf)
  obtain rfl : x2 = true := hx2.2 ⟨hv.symm, hv3.symm, hv4.symm, hin0⟩
  conv => whnf
  clear hin0
  try (refine AW_draw tok hP ?_; conv => whnf)
  first | refine AQ_pure (fun sK QK hK => boxOf10 hK) ?_ | refine boxOf10 ?_
  conv => whnf
  try (refine And.intro (OkD.mk (by kernel_rfl)) ?_; conv => whnf)
  try (refine AW_draw tok hP ?_; conv => whnf)
  first | refine AQ_pure (fun sK QK hK => boxOf10 hK) ?_ | refine boxOf10 ?_
  conv => whnf
  try (refine And.intro (OkD.mk (by kernel_rfl)) ?_; conv => whnf)
  try (refine AW_draw tok hP ?_; conv => whnf)
  first
    | refine AQ_six (fun sK QK hK => boxJoin w1 w2 w3 w4 w5 w6 w7 w8 w9 w10 w11 w12 hv.symm hv2.symm hK) (fun u1 u2 u3 u4 u5 u6 j1 j2 j3 j4 j5 j6 => ?_)
    | refine boxJoin w1 w2 w3 w4 w5 w6 w7 w8 w9 w10 w11 w12 hv.symm hv2.symm (fun u1 u2 u3 u4 u5 u6 j1 j2 j3 j4 j5 j6 => ?_)
  conv => whnf
  try (refine And.intro (OkD.mk (by kernel_rfl)) ?_; conv => whnf)
  have allB := PB.box_join hv.symm hv2.symm j1 j2 j3 j4 j5 j6
  obtain ⟨i1, i2, i3, i4, i5, i6⟩ := PB.box_i64 allB
  try (refine AW_draw tok hP ?_; conv => whnf)
  first | refine AQ_pure (fun sK QK hK => boxOf10 hK) ?_ | refine boxOf10 ?_
  conv => whnf
  try (refine And.intro (OkD.mk (by kernel_rfl)) ?_; conv => whnf)
  try (refine AW_draw tok hP ?_; conv => whnf)
  first
    | refine AQ_iff (fun sK QK hK => boxHit w1 w2 w3 w4 w5 w6 w13 w14 w15 w16 w17 w18 iN iD hK) (fun y1 hy1 => ?_)
    | refine boxHit w1 w2 w3 w4 w5 w6 w13 w14 w15 w16 w17 w18 iN iD (fun y1 hy1 => ?_)
  conv => whnf
  try (refine And.intro (OkD.mk (by kernel_rfl)) ?_; conv => whnf)
  cases y1
  · conv => whnf
    try (refine AW_draw tok hP ?_; conv => whnf)
    first | refine AQ_pure (fun sK QK hK => boxOf10 hK) ?_ | refine boxOf10 ?_
    conv => whnf
    try (refine And.intro (OkD.mk (by kernel_rfl)) ?_; conv => whnf)
    try (refine AW_draw tok hP ?_; conv => whnf)
    first | refine AQ_bool (fun sK QK hK => boxHas w1 w2 w3 w4 w5 w6 hK) (fun z1 hz1 => ?_) | refine boxHas w1 w2 w3 w4 w5 w6 (fun z1 hz1 => ?_)
    conv => whnf
    try (refine And.intro (OkD.mk (by kernel_rfl)) ?_; conv => whnf)
    try (refine AW_draw tok hP ?_; conv => whnf)
    first | refine AQ_pure (fun sK QK hK => boxOf10 hK) ?_ | refine boxOf10 ?_
    conv => whnf
    try (refine And.intro (OkD.mk (by kernel_rfl)) ?_; conv => whnf)
    try (refine AW_draw tok hP ?_; conv => whnf)
    first
      | refine AQ_iff (fun sK QK hK => boxHit w1 w2 w3 w4 w5 w6 w13 w14 w15 w16 w17 w18 (by decide) (by decide) hK) (fun z2 hz2 => ?_)
      | refine boxHit w1 w2 w3 w4 w5 w6 w13 w14 w15 w16 w17 w18 (by decide) (by decide) (fun z2 hz2 => ?_)
    conv => whnf
    try (refine And.intro (OkD.mk (by kernel_rfl)) ?_; conv => whnf)
    obtain rfl : z1 = z2 := by
      rw [Bool.eq_iff_iff, hz2, PB.hit3_zero, hz1, ← hv]
      simp only [Bool.true_and, Bool.and_eq_true, decide_eq_true_eq]
      exact ⟨fun q => ⟨trivial, hv3.symm, hv4.symm, q⟩, fun q => q.2.2.2⟩
    rw [beq_self_eq_true z1]
    conv => whnf
    try (refine AW_draw tok hP ?_; conv => whnf)
    first | refine AQ_pure (fun sK QK hK => awake10 hK) ?_ | refine awake10 ?_
    conv => whnf
    try (refine And.intro (OkD.mk (by kernel_rfl)) ?_; conv => whnf)
  · conv => whnf
    have H := (hy1.1 rfl).2.2.2
    try (refine AW_draw tok hP ?_; conv => whnf)
    first
      | refine AQ_iff (fun sK QK hK => boxHit i1 i2 i3 i4 i5 i6 w13 w14 w15 w16 w17 w18 iN iD hK) (fun y2 hy2 => ?_)
      | refine boxHit i1 i2 i3 i4 i5 i6 w13 w14 w15 w16 w17 w18 iN iD (fun y2 hy2 => ?_)
    conv => whnf
    try (refine And.intro (OkD.mk (by kernel_rfl)) ?_; conv => whnf)
    obtain rfl : y2 = true := hy2.2 ⟨allB, hv3.symm, hv4.symm, PB.hit3_mono (PB.mm_le j1).1.1 (PB.mm_le j2).1.1 (PB.mm_le j3).1.1 (PB.mx_le j4).1.1 (PB.mx_le j5).1.1 (PB.mx_le j6).1.1 H⟩
    conv => whnf
    try (refine AW_draw tok hP ?_; conv => whnf)
    first | refine AQ_pure (fun sK QK hK => boxOf10 hK) ?_ | refine boxOf10 ?_
    conv => whnf
    try (refine And.intro (OkD.mk (by kernel_rfl)) ?_; conv => whnf)
    try (refine AW_draw tok hP ?_; conv => whnf)
    first
      | refine AQ_iff (fun sK QK hK => boxHit w1 w2 w3 w4 w5 w6 w13 w14 w15 w16 w17 w18 (by decide) (by decide) hK) (fun y3 hy3 => ?_)
      | refine boxHit w1 w2 w3 w4 w5 w6 w13 w14 w15 w16 w17 w18 (by decide) (by decide) (fun y3 hy3 => ?_)
    conv => whnf
    try (refine And.intro (OkD.mk (by kernel_rfl)) ?_; conv => whnf)
    obtain rfl : y3 = true := hy3.2 ⟨hv.symm, hv3.symm, hv4.symm, PB.hit_any H⟩
    conv => whnf
    try (refine AW_draw tok hP ?_; conv => whnf)
    first | refine AQ_pure (fun sK QK hK => boxOf10 hK) ?_ | refine boxOf10 ?_
    conv => whnf
    try (refine And.intro (OkD.mk (by kernel_rfl)) ?_; conv => whnf)
    try (refine AW_draw tok hP ?_; conv => whnf)
    first | refine AQ_bool (fun sK QK hK => boxHas w1 w2 w3 w4 w5 w6 hK) (fun z1 hz1 => ?_) | refine boxHas w1 w2 w3 w4 w5 w6 (fun z1 hz1 => ?_)
    conv => whnf
    try (refine And.intro (OkD.mk (by kernel_rfl)) ?_; conv => whnf)
    try (refine AW_draw tok hP ?_; conv => whnf)
    first | refine AQ_pure (fun sK QK hK => boxOf10 hK) ?_ | refine boxOf10 ?_
    conv => whnf
    try (refine And.intro (OkD.mk (by kernel_rfl)) ?_; conv => whnf)
    try (refine AW_draw tok hP ?_; conv => whnf)
    first
      | refine AQ_iff (fun sK QK hK => boxHit w1 w2 w3 w4 w5 w6 w13 w14 w15 w16 w17 w18 (by decide) (by decide) hK) (fun z2 hz2 => ?_)
      | refine boxHit w1 w2 w3 w4 w5 w6 w13 w14 w15 w16 w17 w18 (by decide) (by decide) (fun z2 hz2 => ?_)
    conv => whnf
    try (refine And.intro (OkD.mk (by kernel_rfl)) ?_; conv => whnf)
    obtain rfl : z1 = z2 := by
      rw [Bool.eq_iff_iff, hz2, PB.hit3_zero, hz1, ← hv]
      simp only [Bool.true_and, Bool.and_eq_true, decide_eq_true_eq]
      exact ⟨fun q => ⟨trivial, hv3.symm, hv4.symm, q⟩, fun q => q.2.2.2⟩
    rw [beq_self_eq_true z1]
    conv => whnf
    try (refine AW_draw tok hP ?_; conv => whnf)
    first | refine AQ_pure (fun sK QK hK => awake10 hK) ?_ | refine awake10 ?_
    conv => whnf
    try (refine And.intro (OkD.mk (by kernel_rfl)) ?_; conv => whnf)
