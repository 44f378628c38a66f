/- Part of the proof of a law of the seat: its functions, walked. No condition. -/
import Derived.Test.YtgajnkfaelecaaaA9Lens
namespace Go.AW.A9
open Go Go.AW Go.Proofs
set_option maxRecDepth 100000
set_option linter.unusedVariables false
theorem beq3 (a b c : Int) : (a == a && (b == b && (c == c && true))) = true := by simp
theorem refSub6 {a b c x y z : Int} (ha : I64 a) (hb : I64 b) (hc : I64 c) (hx : I64 x) (hy : I64 y) (hz : I64 z) {s : List Ob} {Q : AV → List Ob → Prop} (h : ∀ u v w, u = plusI a (timesI x (-1)) → v = plusI b (timesI y (-1)) → w = plusI c (timesI z (-1)) → Q (.agg [.int .i64 u, .int .i64 v, .int .i64 w]) s) : AC Try.prog 13 [.agg [.int .i64 a, .int .i64 b, .int .i64 c], .agg [.int .i64 x, .int .i64 y, .int .i64 z]] s Q := by
  refine AC_pure rfl ?_
  refine AC_body tok 12 Try.func13 rfl (by kernel_rfl) ?_
  conv => whnf
  try (refine AW_draw tok hP ?_; conv => whnf)
  first | refine AQ_int (fun sK QK hK => refTimes (a := x) hx.1 hx.2 (by omega) (by omega) hK) (fun p1 h1 => ?_) | refine refTimes (a := x) hx.1 hx.2 (by omega) (by omega) (fun p1 h1 => ?_)
  conv => whnf
  try (refine And.intro (OkD.mk (by kernel_rfl)) ?_; conv => whnf)
  try (refine AW_draw tok hP ?_; conv => whnf)
  first | refine AQ_int (fun sK QK hK => refTimes (a := y) hy.1 hy.2 (by omega) (by omega) hK) (fun p2 h2 => ?_) | refine refTimes (a := y) hy.1 hy.2 (by omega) (by omega) (fun p2 h2 => ?_)
  conv => whnf
  try (refine And.intro (OkD.mk (by kernel_rfl)) ?_; conv => whnf)
  try (refine AW_draw tok hP ?_; conv => whnf)
  first | refine AQ_int (fun sK QK hK => refTimes (a := z) hz.1 hz.2 (by omega) (by omega) hK) (fun p3 h3 => ?_) | refine refTimes (a := z) hz.1 hz.2 (by omega) (by omega) (fun p3 h3 => ?_)
  conv => whnf
  try (refine And.intro (OkD.mk (by kernel_rfl)) ?_; conv => whnf)
  subst h1 h2 h3
  try (refine AW_draw tok hP ?_; conv => whnf)
  first | refine AQ_vec (fun sK QK hK => refAdd6 ha hb hc (PB.times_i _ _) (PB.times_i _ _) (PB.times_i _ _) hK) (fun u v w k1 k2 k3 => ?_) | refine refAdd6 ha hb hc (PB.times_i _ _) (PB.times_i _ _) (PB.times_i _ _) (fun u v w k1 k2 k3 => ?_)
  conv => whnf
  try (refine And.intro (OkD.mk (by kernel_rfl)) ?_; conv => whnf)
  exact ⟨rfl, h _ _ _ k1 k2 k3⟩
/-- what is known of a camera that may be -/
structure CamP (e1 e2 e3 t1 t2 t3 u1 u2 u3 W H K L F : Int) : Prop where
  be : placeB e1 e2 e3 = true
  bt : placeB t1 t2 t3 = true
  bu : nearI u1 u2 u3 = true
  bW : 1 ≤ W ∧ W ≤ 256
  bH : 1 ≤ H ∧ H ≤ 256
  bK : 1 ≤ K ∧ K ≤ 65536
  bL : 0 ≤ L ∧ L ≤ 4096
  bF : 0 ≤ F ∧ F ≤ 524288
  bLF : 0 < L → 0 < F
theorem refRight27 {e1 e2 e3 t1 t2 t3 u1 u2 u3 W H K L F : Int} {s : List Ob} {Q : AV → List Ob → Prop} (h : ∀ v, (v = true → CamP e1 e2 e3 t1 t2 t3 u1 u2 u3 W H K L F) → Q (.bool v) s) : AC Try.prog 7 [.agg [.int .i64 e1, .int .i64 e2, .int .i64 e3, .int .i64 t1, .int .i64 t2, .int .i64 t3, .int .i64 u1, .int .i64 u2, .int .i64 u3, .int .i64 W, .int .i64 H, .int .i64 K, .int .i64 L, .int .i64 F]] s Q := by
  refine AC_pure rfl ?_
  refine AC_body tok 3 Try.func7 rfl (by kernel_rfl) ?_
  conv => whnf
  have no : Q (.bool false) s := h _ (by intro h; cases h)
  refine refPlace (fun v hv => ?_)
  conv => whnf
  cases v
  · conv => whnf
    exact ⟨rfl, no⟩
  conv => whnf
  refine refPlace (fun w hw => ?_)
  conv => whnf
  cases w
  · conv => whnf
    exact ⟨rfl, no⟩
  conv => whnf
  have pe := PL.place_iff.1 hv.symm; have pt := PL.place_iff.1 hw.symm
  generalize hB : (e1 == t1 && (e2 == t2 && (e3 == t3 && true))) = bB
  cases bB
  case true =>
    conv => whnf
    exact ⟨rfl, no⟩
  conv => whnf
  refine refNear (fun n hn => ?_)
  conv => whnf
  cases n
  · conv => whnf
    exact ⟨rfl, no⟩
  conv => whnf
  have mn1 := mn_spec W H
  have mn2 := mn_spec (mmI false W H) K
  have mx1 := mx_spec W H
  by_cases g1 : mmI false (mmI false W H) K < 1
  · rw [decide_eq_true g1]
    conv => whnf
    exact ⟨rfl, no⟩
  rw [decide_eq_false g1]
  conv => whnf
  by_cases g2 : mmI true W H > 256
  · rw [decide_eq_true g2]
    conv => whnf
    exact ⟨rfl, no⟩
  rw [decide_eq_false g2]
  conv => whnf
  by_cases g3 : K > 65536
  · rw [decide_eq_true g3]
    conv => whnf
    exact ⟨rfl, no⟩
  rw [decide_eq_false g3]
  conv => whnf
  by_cases g4 : L < 0
  · rw [decide_eq_true g4]
    conv => whnf
    exact ⟨rfl, no⟩
  rw [decide_eq_false g4]
  conv => whnf
  by_cases g5 : L > 4096
  · rw [decide_eq_true g5]
    conv => whnf
    exact ⟨rfl, no⟩
  rw [decide_eq_false g5]
  conv => whnf
  by_cases g6 : F < 0
  · rw [decide_eq_true g6]
    conv => whnf
    exact ⟨rfl, no⟩
  rw [decide_eq_false g6]
  conv => whnf
  by_cases g7 : F > 524288
  · rw [decide_eq_true g7]
    conv => whnf
    exact ⟨rfl, no⟩
  rw [decide_eq_false g7]
  conv => whnf
  generalize hC : ((L == 0) == (F == 0)) = bC
  cases bC
  · conv => whnf
    exact ⟨rfl, no⟩
  conv => whnf
  have yes : ∀ v, Q (.bool v) s := fun v => h v (fun _ => ⟨hv.symm, hw.symm, hn.symm, by omega, by omega, by omega, by omega, by omega, fun l => by
    rcases Int.lt_or_le 0 F with g | g
    · exact g
    · exfalso
      obtain rfl : F = 0 := by omega
      rw [beq_eq_false_iff_ne.2 (show L ≠ 0 by omega)] at hC
      cases hC⟩)
  obtain ⟨iu1, iu2, iu3⟩ := PB.near_I hn.symm
  try (refine AW_draw tok hP ?_; conv => whnf)
  first | refine AQ_vec (fun sK QK hK => refSub6 (a := t1) (b := t2) (c := t3) (x := e1) (y := e2) (z := e3) (by unfold I64; omega) (by unfold I64; omega) (by unfold I64; omega) (by unfold I64; omega) (by unfold I64; omega) (by unfold I64; omega) hK) (fun a b c _ _ _ => ?_) | refine refSub6 (a := t1) (b := t2) (c := t3) (x := e1) (y := e2) (z := e3) (by unfold I64; omega) (by unfold I64; omega) (by unfold I64; omega) (by unfold I64; omega) (by unfold I64; omega) (by unfold I64; omega) (fun a b c _ _ _ => ?_)
  conv => whnf
  try (refine And.intro (OkD.mk (by kernel_rfl)) ?_; conv => whnf)
  try (refine AW_draw tok hP ?_; conv => whnf)
  first | refine AQ_vec (fun sK QK hK => refCross hK) (fun x y z _ _ _ => ?_) | refine refCross (fun x y z _ _ _ => ?_)
  conv => whnf
  try (refine And.intro (OkD.mk (by kernel_rfl)) ?_; conv => whnf)
  exact ⟨rfl, yes _⟩
theorem lensMiddle {e1 e2 e3 t1 t2 t3 u1 u2 u3 W H K L F : Int} (hW : 1 ≤ W ∧ W ≤ 256) (hH : 1 ≤ H ∧ H ≤ 256) {s : List Ob} {Q : AV → List Ob → Prop} (h : Q (.int .i64 (H / 2 * W + W / 2)) s) : AC Try.prog 14 [.agg [.int .i64 e1, .int .i64 e2, .int .i64 e3, .int .i64 t1, .int .i64 t2, .int .i64 t3, .int .i64 u1, .int .i64 u2, .int .i64 u3, .int .i64 W, .int .i64 H, .int .i64 K, .int .i64 L, .int .i64 F]] s Q := by
  refine AC_pure rfl ?_
  refine AC_body tok 3 Try.func14 rfl (by kernel_rfl) ?_
  conv => whnf
  refine lensPixel hW hH (by omega) (by omega) (fun k o hk ho => ?_)
  conv => whnf
  have oo : inB W H (0 + W / 2) (0 + H / 2) = true := by unfold inB; rw [decide_eq_true_iff]; omega
  obtain rfl : o = true := by rw [ho, oo]
  obtain ⟨x1, _, _⟩ := PL.pix_in hW hH oo
  conv => whnf
  exact ⟨rfl, (by rw [hk, x1, Int.zero_add, Int.zero_add]; exact h)⟩
theorem awake27 {s : List Ob} {Q : AV → List Ob → Prop} (hq : Q (.bool true) s) : AC Try.prog 9 [] s Q := by
  refine AC_pure rfl ?_
  refine AC_body tok 0 Try.func9 rfl (by kernel_rfl) ?_
  conv => whnf
  have fe : frameI (0 - 0) (0 - 0) (0 - -90) 0 1 0 = ((0, 0, 16384), (-16384, 0, 0), (0, 16384, 0), true) := by decide
  refine lensSee (by decide) (by decide) (by decide) (by decide) (by decide) (by decide) (by decide) (by decide) (by decide) (by decide) (by decide) (by decide) (fun k s1 s2 s3 n d o f r g fo hf hp => ?_)
  conv => whnf
  rw [fe] at hf
  simp only [Prod.mk.injEq] at hf
  obtain ⟨rfl, rfl, rfl, rfl⟩ := hf
  have ho := (hp.nol rfl).1
  replace ho : o = true := by rw [ho]; decide
  subst ho
  obtain ⟨⟨rfl, rfl, rfl⟩, hk⟩ := (hp.nol rfl).2 rfl
  replace hk : k = 10 := by rw [hk]; decide
  obtain ⟨_, _, rfl, hd, _⟩ := hp.yes rfl
  replace hd : d = 8100 := by rw [hd]; decide
  subst hk hd
  conv => whnf
  refine lensSee (by decide) (by decide) (by decide) (by decide) (by decide) (by decide) (by decide) (by decide) (by decide) (by decide) (by decide) (by decide) (fun k s1 s2 s3 n d o f r g fo hf hp => ?_)
  conv => whnf
  rw [fe] at hf
  simp only [Prod.mk.injEq] at hf
  obtain ⟨rfl, rfl, rfl, rfl⟩ := hf
  have ho := (hp.nol rfl).1
  replace ho : o = false := by rw [ho]; decide
  subst ho
  conv => whnf
  refine lensMiddle (by decide) (by decide) ?_
  conv => whnf
  exact ⟨rfl, hq⟩
theorem lawLensSees (avs : List AV) (obs : List Ob) (ha : ArgC 0 [.flat (.ik .i64), .flat (.ik .i64), .flat (.ik .i64), .flat (.ik .i64), .flat (.ik .i64), .flat (.ik .i64), .flat (.ik .i64), .flat (.ik .i64), .flat (.ik .i64), .flat (.ik .i64), .flat (.ik .i64), .flat (.ik .i64), .flat (.ik .i64), .flat (.ik .i64), .flat (.ik .i64), .flat (.ik .i64), .flat (.ik .i64), .flat (.ik .i64), .flat (.ik .i64)] avs obs) : AC Try.prog 3 (groupK [some 14, some 3, none, none] avs) obs fun r _ => r = .bool true := by
  cases ha with | int w1 ha => cases ha with | int w2 ha => cases ha with | int w3 ha =>
  cases ha with | int w4 ha => cases ha with | int w5 ha => cases ha with | int w6 ha =>
  cases ha with | int w7 ha => cases ha with | int w8 ha => cases ha with | int w9 ha =>
  cases ha with | int w10 ha => cases ha with | int w11 ha => cases ha with | int w12 ha =>
  cases ha with | int w13 ha => cases ha with | int w14 ha => cases ha with | int q1 ha =>
  cases ha with | int q2 ha => cases ha with | int q3 ha => cases ha with | int a1 ha => cases ha with | int a2 ha =>
  cases ha
  rename_i e1 e2 e3 t1 t2 t3 u1 u2 u3 W H K L F p1 p2 p3 a b
  replace a1 : I64 a := wf_i64 a1; replace a2 : I64 b := wf_i64 a2
  clear w1 w2 w3 w4 w5 w6 w7 w8 w9 w10 w11 w12 w13 w14 q1 q2 q3
  refine AC_body tok 3 Try.func3 rfl (by kernel_rfl) ?_
  conv => whnf
  refine refRight27 (fun v hv => ?_)
  conv => whnf
  cases v
  · conv => whnf
    try (refine AW_draw tok hP ?_; conv => whnf)
    first | refine AQ_pure (fun sK QK hK => awake27 hK) ?_ | refine awake27 ?_
    conv => whnf
    try (refine And.intro (OkD.mk (by kernel_rfl)) ?_; conv => whnf)
  conv => whnf
  have cam := hv rfl
  refine refPlace (fun v hp => ?_)
  conv => whnf
  cases v
  · conv => whnf
    try (refine AW_draw tok hP ?_; conv => whnf)
    first | refine AQ_pure (fun sK QK hK => awake27 hK) ?_ | refine awake27 ?_
    conv => whnf
    try (refine And.intro (OkD.mk (by kernel_rfl)) ?_; conv => whnf)
  conv => whnf
  replace hp := hp.symm
  refine lensOf cam.be cam.bt cam.bu (fun f1 f2 f3 r1 r2 r3 g1 g2 g3 fo hf => ?_)
  conv => whnf
  cases fo
  · conv => whnf
    try (refine AW_draw tok hP ?_; conv => whnf)
    first | refine AQ_pure (fun sK QK hK => awake27 hK) ?_ | refine awake27 ?_
    conv => whnf
    try (refine And.intro (OkD.mk (by kernel_rfl)) ?_; conv => whnf)
  conv => whnf
  refine lensSee cam.be cam.bt cam.bu cam.bW cam.bH cam.bK cam.bL cam.bF cam.bLF hp a1 a2 (fun k s1 s2 s3 n d o f' r' g' fo' hf' hs => ?_)
  conv => whnf
  rw [← hf] at hf'
  simp only [Prod.mk.injEq] at hf'
  obtain ⟨rfl, rfl, rfl, rfl⟩ := hf'
  cases o
  · obtain ⟨rfl, rfl, rfl, rfl, rfl, rfl⟩ := hs.no rfl
    conv => whnf
    try (refine AW_draw tok hP ?_; conv => whnf)
    refine ⟨⟨by kernel_rfl⟩, ?_⟩
    conv => whnf
    generalize hB : decide ((_ : Int) > 0) = bB
    replace hB : decide (L > 0) = bB := hB
    by_cases gL : L > 0
    · rw [decide_eq_true gL] at hB; subst hB
      conv => whnf
      try (refine AW_draw tok hP ?_; conv => whnf)
      first | refine AQ_pure (fun sK QK hK => awake27 hK) ?_ | refine awake27 ?_
      conv => whnf
      try (refine And.intro (OkD.mk (by kernel_rfl)) ?_; conv => whnf)
    rw [decide_eq_false gL] at hB; subst hB
    conv => whnf
    have l0 : L = 0 := by have := cam.bL; omega
    refine lensSee cam.be cam.bt cam.bu cam.bW cam.bH cam.bK cam.bL cam.bF cam.bLF hp a2 a1 (fun k' s1' s2' s3' n' d' o f' r' g' fo' hf' hs' => ?_)
    conv => whnf
    rw [← hf] at hf'
    simp only [Prod.mk.injEq] at hf'
    obtain ⟨rfl, rfl, rfl, rfl⟩ := hf'
    have eo := ((hs'.nol l0).1).trans ((hs.nol l0).1).symm
    subst eo
    obtain ⟨rfl, rfl, rfl, rfl, rfl, rfl⟩ := hs'.no rfl
    conv => whnf
    try (refine AW_draw tok hP ?_; conv => whnf)
    first | refine AQ_pure (fun sK QK hK => awake27 hK) ?_ | refine awake27 ?_
    conv => whnf
    try (refine And.intro (OkD.mk (by kernel_rfl)) ?_; conv => whnf)
  · obtain ⟨⟨k0, k1⟩, ps, rfl, hd, hdf⟩ := hs.yes rfl
    conv => whnf
    try (refine AW_draw tok hP ?_; conv => whnf)
    rw [decide_eq_false (show ¬ k < 0 by omega)]
    conv => whnf
    have eW : Z.mul .i64 W H = W * H := by
      have := PV.mul_le (a := W) (b := H) (A := 256) (B := 256) (by have := cam.bW; omega) (by have := cam.bH; omega)
      exact Z.wrap_iid (by omega) (by omega)
    rw [eW, decide_eq_false (show ¬ k ≥ W * H by omega)]
    conv => whnf
    have pp := PL.place_iff.1 hp
    have qq := PL.place_iff.1 ps
    try (refine AW_draw tok hP ?_; conv => whnf)
    first | refine AQ_vec (fun sK QK hK => refSub6 (a := p1) (b := p2) (c := p3) (x := s1) (y := s2) (z := s3) (by unfold I64; omega) (by unfold I64; omega) (by unfold I64; omega) (by unfold I64; omega) (by unfold I64; omega) (by unfold I64; omega) hK) (fun v1 v2 v3 k1 k2 k3 => ?_) | refine refSub6 (a := p1) (b := p2) (c := p3) (x := s1) (y := s2) (z := s3) (by unfold I64; omega) (by unfold I64; omega) (by unfold I64; omega) (by unfold I64; omega) (by unfold I64; omega) (by unfold I64; omega) (fun v1 v2 v3 k1 k2 k3 => ?_)
    conv => whnf
    try (refine And.intro (OkD.mk (by kernel_rfl)) ?_; conv => whnf)
    rw [PB.sub_i (by omega) (by omega)] at k1 k2 k3
    try (refine AW_draw tok hP ?_; conv => whnf)
    first | refine AQ_int (fun sK QK hK => refDot6 hK) (fun m hm => ?_) | refine refDot6 (fun m hm => ?_)
    conv => whnf
    try (refine And.intro (OkD.mk (by kernel_rfl)) ?_; conv => whnf)
    rw [k1, k2, k3] at hm
    rw [decide_eq_false (show ¬ m < 1 by rw [hm]; exact Int.not_lt.2 hdf)]
    conv => whnf
    try (refine AW_draw tok hP ?_; conv => whnf)
    first | refine AQ_vec (fun sK QK hK => refSub6 (a := p1) (b := p2) (c := p3) (x := s1) (y := s2) (z := s3) (by unfold I64; omega) (by unfold I64; omega) (by unfold I64; omega) (by unfold I64; omega) (by unfold I64; omega) (by unfold I64; omega) hK) (fun x1 x2 x3 j1 j2 j3 => ?_) | refine refSub6 (a := p1) (b := p2) (c := p3) (x := s1) (y := s2) (z := s3) (by unfold I64; omega) (by unfold I64; omega) (by unfold I64; omega) (by unfold I64; omega) (by unfold I64; omega) (by unfold I64; omega) (fun x1 x2 x3 j1 j2 j3 => ?_)
    conv => whnf
    try (refine And.intro (OkD.mk (by kernel_rfl)) ?_; conv => whnf)
    rw [PB.sub_i (by omega) (by omega)] at j1 j2 j3
    try (refine AW_draw tok hP ?_; conv => whnf)
    first | refine AQ_vec (fun sK QK hK => refSub6 (a := p1) (b := p2) (c := p3) (x := s1) (y := s2) (z := s3) (by unfold I64; omega) (by unfold I64; omega) (by unfold I64; omega) (by unfold I64; omega) (by unfold I64; omega) (by unfold I64; omega) hK) (fun y1 y2 y3 i1 i2 i3 => ?_) | refine refSub6 (a := p1) (b := p2) (c := p3) (x := s1) (y := s2) (z := s3) (by unfold I64; omega) (by unfold I64; omega) (by unfold I64; omega) (by unfold I64; omega) (by unfold I64; omega) (by unfold I64; omega) (fun y1 y2 y3 i1 i2 i3 => ?_)
    conv => whnf
    try (refine And.intro (OkD.mk (by kernel_rfl)) ?_; conv => whnf)
    rw [PB.sub_i (by omega) (by omega)] at i1 i2 i3
    try (refine AW_draw tok hP ?_; conv => whnf)
    first | refine AQ_int (fun sK QK hK => refDot6 hK) (fun m2 hm2 => ?_) | refine refDot6 (fun m2 hm2 => ?_)
    conv => whnf
    try (refine And.intro (OkD.mk (by kernel_rfl)) ?_; conv => whnf)
    rw [j1, j2, j3, i1, i2, i3] at hm2
    obtain rfl := hm2.trans hd.symm
    rw [show (m2 != m2) = false by simp]
    conv => whnf
    try (refine AW_draw tok hP ?_; conv => whnf)
    first | refine AQ_bool (fun sK QK hK => refPlace hK) (fun v hv' => ?_) | refine refPlace (fun v hv' => ?_)
    conv => whnf
    try (refine And.intro (OkD.mk (by kernel_rfl)) ?_; conv => whnf)
    obtain rfl := hv'.trans ps
    conv => whnf
    generalize hB : decide ((_ : Int) > 0) = bB
    replace hB : decide (L > 0) = bB := hB
    by_cases gL : L > 0
    · rw [decide_eq_true gL] at hB; subst hB
      conv => whnf
      try (refine AW_draw tok hP ?_; conv => whnf)
      first | refine AQ_pure (fun sK QK hK => awake27 hK) ?_ | refine awake27 ?_
      conv => whnf
      try (refine And.intro (OkD.mk (by kernel_rfl)) ?_; conv => whnf)
    rw [decide_eq_false gL] at hB; subst hB
    conv => whnf
    have l0 : L = 0 := by have := cam.bL; omega
    refine lensSee cam.be cam.bt cam.bu cam.bW cam.bH cam.bK cam.bL cam.bF cam.bLF hp a2 a1 (fun k' s1' s2' s3' n' d' o f' r' g' fo' hf' hs' => ?_)
    conv => whnf
    rw [← hf] at hf'
    simp only [Prod.mk.injEq] at hf'
    obtain ⟨rfl, rfl, rfl, rfl⟩ := hf'
    have eo := ((hs'.nol l0).1).trans ((hs.nol l0).1).symm
    subst eo
    obtain ⟨_, _, rfl, hd', _⟩ := hs'.yes rfl
    obtain ⟨⟨z1, z2, z3⟩, zk⟩ := (hs.nol l0).2 rfl
    obtain ⟨⟨z1', z2', z3'⟩, zk'⟩ := (hs'.nol l0).2 rfl
    have ek : k' = k := zk'.trans zk.symm
    have e1' : s1' = s1 := z1'.trans z1.symm
    have e2' : s2' = s2 := z2'.trans z2.symm
    have e3' : s3' = s3 := z3'.trans z3.symm
    subst ek e1' e2' e3'
    have ed' : d' = m2 := hd'.trans hd.symm
    subst ed'
    subst z1 z2 z3
    conv => whnf
    rw [show (k' == k' && (s1' == s1' && (s2' == s2' && (s3' == s3' && ((1073741824 : Int) == 1073741824 && (d' == d' && true)))))) = true by simp]
    conv => whnf
    rw [beq3]
    conv => whnf
    try (refine AW_draw tok hP ?_; conv => whnf)
    first | refine AQ_pure (fun sK QK hK => awake27 hK) ?_ | refine awake27 ?_
    conv => whnf
    try (refine And.intro (OkD.mk (by kernel_rfl)) ?_; conv => whnf)
