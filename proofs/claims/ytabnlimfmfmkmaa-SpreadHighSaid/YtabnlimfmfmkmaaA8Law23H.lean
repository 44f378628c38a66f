/- Part of the proof of a law of the seat: its functions, walked. No condition. -/
import Derived.Test.YtabnlimfmfmkmaaA8Law23
namespace Go.AW.A8
open Go Go.AW Go.Proofs
set_option maxRecDepth 100000
set_option linter.unusedVariables false
theorem lawSpreadHigh (avs : List AV) (obs : List Ob) (ha : ArgC 0 [.flat (.ik .u16), .flat (.ik .u16), .flat (.ik .i64)] avs obs) : AC Try.prog 6 (groupK [none, none, none] avs) obs fun r _ => r = .bool true := by
  cases ha with | int w1 ha => cases ha with | int w2 ha => cases ha with | int w3 ha =>
  cases ha
  rename_i u w h0
  replace w1 := wf_u16 w1; replace w2 := wf_u16 w2; replace w3 : I64 h0 := wf_i64 w3
  refine AC_body tok 3 Try.func6 rfl (by kernel_rfl) ?_
  conv => whnf
  obtain ⟨h, eh, h1, h2⟩ : ∃ h, Z.quo .i64 h0 2 = h ∧ -4611686018427387904 ≤ h ∧ h ≤ 4611686018427387903 := by
    refine ⟨_, rfl, ?_⟩
    unfold I64 at w3
    rw [quo_i (by omega) (by omega) (by omega)]
    rcases Int.le_total 0 h0 with q | q
    · rw [Int.tdiv_eq_ediv_of_nonneg q]; omega
    · obtain ⟨u, rfl⟩ : ∃ u, h0 = -u := ⟨-h0, by omega⟩
      rw [Int.neg_tdiv, Int.tdiv_eq_ediv_of_nonneg (by omega)]; omega
  rw [eh]
  have hi : I64 h := by unfold I64; omega
  have eu : IntKind.i64.wrap u = u := Z.wrap_iid (by omega) (by omega)
  have ew : IntKind.i64.wrap w = w := Z.wrap_iid (by omega) (by omega)
  have iu : I64 u := by unfold I64; omega
  have iw : I64 w := by unfold I64; omega
  rw [eu]
  try (refine AW_draw tok hP ?_; conv => whnf)
  first | refine AQ_tri (fun sK QK hK => spreadSphere iu hi hK) (fun a1 a2 a3 ea => ?_) | refine spreadSphere iu hi (fun a1 a2 a3 ea => ?_)
  conv => whnf
  try (refine And.intro (OkD.mk (by kernel_rfl)) ?_; conv => whnf)
  try rw [ew]
  try (refine AW_draw tok hP ?_; conv => whnf)
  first | refine AQ_tri (fun sK QK hK => spreadSphere iw hi hK) (fun b1 b2 b3 eb => ?_) | refine spreadSphere iw hi (fun b1 b2 b3 eb => ?_)
  conv => whnf
  try (refine And.intro (OkD.mk (by kernel_rfl)) ?_; conv => whnf)
  conv => whnf
  rw [eu]
  try (refine AW_draw tok hP ?_; conv => whnf)
  first | refine AQ_two (fun sK QK hK => spreadDisc (u := u) (k := 0) iu (by decide) hK) (fun x y hx hy => ?_) | refine spreadDisc (u := u) (k := 0) iu (by decide) (fun x y hx hy => ?_)
  conv => whnf
  try (refine And.intro (OkD.mk (by kernel_rfl)) ?_; conv => whnf)
  conv => whnf
  try rw [ew]
  try (refine AW_draw tok hP ?_; conv => whnf)
  first | refine AQ_two (fun sK QK hK => spreadDisc (u := w) (k := 0) iw (by decide) hK) (fun p q hp hq => ?_) | refine spreadDisc (u := w) (k := 0) iw (by decide) (fun p q hp hq => ?_)
  conv => whnf
  try (refine And.intro (OkD.mk (by kernel_rfl)) ?_; conv => whnf)
  rw [(PS.ring_0 _).1] at hx hp
  rw [(PS.ring_0 _).2] at hy hq
  subst hy hq
  have bx := PS.disc_le u
  rw [← hx] at bx
  obtain ⟨za, ua⟩ := PS.sph_z w1.1 w1.2 ea
  obtain ⟨zb, ub⟩ := PS.sph_z w2.1 w2.2 eb
  conv => whnf
  have e1 : Z.add .i64 (IntKind.i64.wrap u) 65536 = u + 65536 := by rw [eu]; exact Z.wrap_iid (by omega) (by omega)
  have e2 : Z.add .i64 h 65536 = h + 65536 := Z.wrap_iid (by omega) (by omega)
  by_cases g : u ≤ w
  · rw [decide_eq_true g]
    conv => whnf
    have mono := PS.disc_mono w1.1 g w2.2
    rw [← hx, ← hp] at mono
    rw [decide_eq_false (show ¬ a3 < b3 by omega)]
    conv => whnf
    rw [decide_eq_false (show ¬ x > p by omega)]
    conv => whnf
    rw [decide_eq_false (show ¬ x < 0 by omega)]
    conv => whnf
    rw [decide_eq_false (show ¬ x > 16384 by omega)]
    conv => whnf
    try (refine AW_draw tok hP ?_; conv => whnf)
    first | refine AQ_tri (fun sK QK hK => spreadSphere (u := Z.add .i64 (IntKind.i64.wrap u) 65536) (k := Z.add .i64 h 65536) (by rw [e1]; unfold I64; omega) (by rw [e2]; unfold I64; omega) hK) (fun c1 c2 c3 ec => ?_) | refine spreadSphere (u := Z.add .i64 (IntKind.i64.wrap u) 65536) (k := Z.add .i64 h 65536) (by rw [e1]; unfold I64; omega) (by rw [e2]; unfold I64; omega) (fun c1 c2 c3 ec => ?_)
    conv => whnf
    try (refine And.intro (OkD.mk (by kernel_rfl)) ?_; conv => whnf)
    rw [e1, e2, PS.sph_per, ← ea] at ec
    simp only [Prod.mk.injEq] at ec
    obtain ⟨rfl, rfl, rfl⟩ := ec
    rw [beq3]
    conv => whnf
    try (refine AW_draw tok hP ?_; conv => whnf)
    first | refine AQ_tri (fun sK QK hK => spreadUp (by unfold I64; omega) hi hK) (fun d1 d2 d3 ed => ?_) | refine spreadUp (by unfold I64; omega) hi (fun d1 d2 d3 ed => ?_)
    conv => whnf
    try (refine And.intro (OkD.mk (by kernel_rfl)) ?_; conv => whnf)
    rw [ua] at ed
    simp only [Prod.mk.injEq] at ed
    obtain ⟨rfl, rfl, rfl⟩ := ed
    rw [beq3]
    conv => whnf
    try (refine AW_draw tok hP ?_; conv => whnf)
    first | refine AQ_pure (fun sK QK hK => awake23 hK) ?_ | refine awake23 ?_
    conv => whnf
    try (refine And.intro (OkD.mk (by kernel_rfl)) ?_; conv => whnf)
  · rw [decide_eq_false g]
    conv => whnf
    rw [decide_eq_false (show ¬ x < 0 by omega)]
    conv => whnf
    rw [decide_eq_false (show ¬ x > 16384 by omega)]
    conv => whnf
    try (refine AW_draw tok hP ?_; conv => whnf)
    first | refine AQ_tri (fun sK QK hK => spreadSphere (u := Z.add .i64 (IntKind.i64.wrap u) 65536) (k := Z.add .i64 h 65536) (by rw [e1]; unfold I64; omega) (by rw [e2]; unfold I64; omega) hK) (fun c1 c2 c3 ec => ?_) | refine spreadSphere (u := Z.add .i64 (IntKind.i64.wrap u) 65536) (k := Z.add .i64 h 65536) (by rw [e1]; unfold I64; omega) (by rw [e2]; unfold I64; omega) (fun c1 c2 c3 ec => ?_)
    conv => whnf
    try (refine And.intro (OkD.mk (by kernel_rfl)) ?_; conv => whnf)
    rw [e1, e2, PS.sph_per, ← ea] at ec
    simp only [Prod.mk.injEq] at ec
    obtain ⟨rfl, rfl, rfl⟩ := ec
    rw [beq3]
    conv => whnf
    try (refine AW_draw tok hP ?_; conv => whnf)
    first | refine AQ_tri (fun sK QK hK => spreadUp (by unfold I64; omega) hi hK) (fun d1 d2 d3 ed => ?_) | refine spreadUp (by unfold I64; omega) hi (fun d1 d2 d3 ed => ?_)
    conv => whnf
    try (refine And.intro (OkD.mk (by kernel_rfl)) ?_; conv => whnf)
    rw [ua] at ed
    simp only [Prod.mk.injEq] at ed
    obtain ⟨rfl, rfl, rfl⟩ := ed
    rw [beq3]
    conv => whnf
    try (refine AW_draw tok hP ?_; conv => whnf)
    first | refine AQ_pure (fun sK QK hK => awake23 hK) ?_ | refine awake23 ?_
    conv => whnf
    try (refine And.intro (OkD.mk (by kernel_rfl)) ?_; conv => whnf)
