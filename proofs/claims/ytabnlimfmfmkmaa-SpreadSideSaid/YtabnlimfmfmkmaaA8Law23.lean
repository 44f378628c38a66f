/- Part of the proof of a law of the seat: its functions, walked. No condition. -/
import Derived.Test.YtabnlimfmfmkmaaA8Spread
namespace Go.AW.A8
open Go Go.AW Go.Proofs
set_option maxRecDepth 100000
set_option linter.unusedVariables false
theorem beq3 (a b c : Int) : (a == a && (b == b && (c == c && true))) = true := by simp
theorem awake23 {s : List Ob} {Q : AV → List Ob → Prop} (hq : Q (.bool true) s) : AC Try.prog 29 [] s Q := by
  refine AC_pure rfl ?_
  refine AC_body tok 0 Try.func29 rfl (by kernel_rfl) ?_
  conv => whnf
  refine spreadDisc (u := 0) (k := 5) (by decide) (by decide) (fun x y hx hy => ?_)
  conv => whnf
  obtain rfl : x = 0 := by rw [hx]; decide
  obtain rfl : y = 0 := by rw [hy]; decide
  refine spreadSphere (u := 0) (k := 7) (by decide) (by decide) (fun a b c h => ?_)
  conv => whnf
  rw [show sphI 0 7 = (0, 0, 16384) by decide] at h
  simp only [Prod.mk.injEq] at h
  obtain ⟨rfl, rfl, rfl⟩ := h
  conv => whnf
  refine spreadHalf (x := 0) (y := 0) (z := 1) (u := 0) (k := 0) (by decide) (by decide) (by decide) (by decide) (by decide) (fun a b c h => ?_)
  conv => whnf
  rw [show aboutI 0 0 1 (halfV 0 0) = (0, 0, 16384) by decide] at h
  simp only [Prod.mk.injEq] at h
  obtain ⟨rfl, rfl, rfl⟩ := h
  conv => whnf
  repeat' first
    | (refine AW_draw tok hP ?_; conv => whnf)
    | (refine ⟨⟨by kernel_rfl⟩, ?_⟩; conv => whnf)
    | (refine spreadHalf; conv => whnf)
    | fail
  exact ⟨rfl, hq⟩
theorem lawSpreadTells (avs : List AV) (obs : List Ob) (ha : ArgC 0 [.flat (.ik .i64), .flat (.ik .i64), .flat (.ik .i64), .flat (.ik .i64), .flat (.ik .i64), .flat (.ik .i64)] avs obs) : AC Try.prog 7 (groupK [some 3, none, none, none] avs) obs fun r _ => r = .bool true := by
  cases ha with | int w1 ha => cases ha with | int w2 ha => cases ha with | int w3 ha =>
  cases ha with | int a1 ha => cases ha with | int a2 ha => cases ha with | int a3 ha =>
  cases ha
  rename_i x y z u h k
  replace w1 := wf_i64 w1; replace w2 := wf_i64 w2; replace w3 := wf_i64 w3
  replace a1 := wf_i64 a1; replace a2 := wf_i64 a2; replace a3 := wf_i64 a3
  refine AC_body tok 3 Try.func7 rfl (by kernel_rfl) ?_
  conv => whnf
  try (refine AW_draw tok hP ?_; conv => whnf)
  first | refine AQ_two (fun sK QK hK => spreadRing (r := k) a2 hK) (fun c sn hc hs => ?_) | refine spreadRing (r := k) a2 (fun c sn hc hs => ?_)
  conv => whnf
  try (refine And.intro (OkD.mk (by kernel_rfl)) ?_; conv => whnf)
  try (refine AW_draw tok hP ?_; conv => whnf)
  first | refine AQ_two (fun sK QK hK => refRing (r := k) a2 hK) (fun c' sn' hc' hs' => ?_) | refine refRing (r := k) a2 (fun c' sn' hc' hs' => ?_)
  conv => whnf
  try (refine And.intro (OkD.mk (by kernel_rfl)) ?_; conv => whnf)
  obtain rfl := hc.trans hc'.symm
  obtain rfl := hs.trans hs'.symm
  clear hc hs hc' hs'
  conv => whnf
  try (refine AW_draw tok hP ?_; conv => whnf)
  first | refine AQ_two (fun sK QK hK => spreadDisc a1 a2 hK) (fun c1 sn1 hc hs => ?_) | refine spreadDisc a1 a2 (fun c1 sn1 hc hs => ?_)
  conv => whnf
  try (refine And.intro (OkD.mk (by kernel_rfl)) ?_; conv => whnf)
  try (refine AW_draw tok hP ?_; conv => whnf)
  first | refine AQ_two (fun sK QK hK => refDisc a1 a2 hK) (fun c1' sn1' hc' hs' => ?_) | refine refDisc a1 a2 (fun c1' sn1' hc' hs' => ?_)
  conv => whnf
  try (refine And.intro (OkD.mk (by kernel_rfl)) ?_; conv => whnf)
  obtain rfl := hc.trans hc'.symm
  obtain rfl := hs.trans hs'.symm
  clear hc hs hc' hs'
  conv => whnf
  try (refine AW_draw tok hP ?_; conv => whnf)
  rw [beq_self_eq_true c]
  conv => whnf
  rw [beq_self_eq_true sn]
  conv => whnf
  rw [beq_self_eq_true c1]
  conv => whnf
  rw [beq_self_eq_true sn1]
  conv => whnf
  try (refine AW_draw tok hP ?_; conv => whnf)
  first | refine AQ_tri (fun sK QK hK => spreadUp a3 a2 hK) (fun p1 q1 r1 e => ?_) | refine spreadUp a3 a2 (fun p1 q1 r1 e => ?_)
  conv => whnf
  try (refine And.intro (OkD.mk (by kernel_rfl)) ?_; conv => whnf)
  try (refine AW_draw tok hP ?_; conv => whnf)
  first | refine AQ_tri (fun sK QK hK => refUp a3 a2 hK) (fun p' q' r' e' => ?_) | refine refUp a3 a2 (fun p' q' r' e' => ?_)
  conv => whnf
  try (refine And.intro (OkD.mk (by kernel_rfl)) ?_; conv => whnf)
  rw [← e] at e'
  simp only [Prod.mk.injEq] at e'
  obtain ⟨rfl, rfl, rfl⟩ := e'
  clear e
  conv => whnf
  rw [beq3]
  conv => whnf
  try (refine AW_draw tok hP ?_; conv => whnf)
  first | refine AQ_tri (fun sK QK hK => spreadSphere a1 a2 hK) (fun p2 q2 r2 e => ?_) | refine spreadSphere a1 a2 (fun p2 q2 r2 e => ?_)
  conv => whnf
  try (refine And.intro (OkD.mk (by kernel_rfl)) ?_; conv => whnf)
  try (refine AW_draw tok hP ?_; conv => whnf)
  first | refine AQ_tri (fun sK QK hK => refSphere a1 a2 hK) (fun p' q' r' e' => ?_) | refine refSphere a1 a2 (fun p' q' r' e' => ?_)
  conv => whnf
  try (refine And.intro (OkD.mk (by kernel_rfl)) ?_; conv => whnf)
  rw [← e] at e'
  simp only [Prod.mk.injEq] at e'
  obtain ⟨rfl, rfl, rfl⟩ := e'
  clear e
  conv => whnf
  rw [beq3]
  conv => whnf
  try (refine AW_draw tok hP ?_; conv => whnf)
  first | refine AQ_tri (fun sK QK hK => spreadHalf w1 w2 w3 a1 a2 hK) (fun p3 q3 r3 e => ?_) | refine spreadHalf w1 w2 w3 a1 a2 (fun p3 q3 r3 e => ?_)
  conv => whnf
  try (refine And.intro (OkD.mk (by kernel_rfl)) ?_; conv => whnf)
  try (refine AW_draw tok hP ?_; conv => whnf)
  first | refine AQ_tri (fun sK QK hK => refHalf w1 w2 w3 a1 a2 hK) (fun p' q' r' e' => ?_) | refine refHalf w1 w2 w3 a1 a2 (fun p' q' r' e' => ?_)
  conv => whnf
  try (refine And.intro (OkD.mk (by kernel_rfl)) ?_; conv => whnf)
  rw [← e] at e'
  simp only [Prod.mk.injEq] at e'
  obtain ⟨rfl, rfl, rfl⟩ := e'
  clear e
  conv => whnf
  rw [beq3]
  conv => whnf
  try (refine AW_draw tok hP ?_; conv => whnf)
  first | refine AQ_tri (fun sK QK hK => spreadCone w1 w2 w3 a1 a2 hK) (fun p4 q4 r4 e => ?_) | refine spreadCone w1 w2 w3 a1 a2 (fun p4 q4 r4 e => ?_)
  conv => whnf
  try (refine And.intro (OkD.mk (by kernel_rfl)) ?_; conv => whnf)
  try (refine AW_draw tok hP ?_; conv => whnf)
  first | refine AQ_tri (fun sK QK hK => refCone w1 w2 w3 a1 a2 hK) (fun p' q' r' e' => ?_) | refine refCone w1 w2 w3 a1 a2 (fun p' q' r' e' => ?_)
  conv => whnf
  try (refine And.intro (OkD.mk (by kernel_rfl)) ?_; conv => whnf)
  rw [← e] at e'
  simp only [Prod.mk.injEq] at e'
  obtain ⟨rfl, rfl, rfl⟩ := e'
  clear e
  conv => whnf
  rw [beq3]
  conv => whnf
  try (refine AW_draw tok hP ?_; conv => whnf)
  first | refine AQ_pure (fun sK QK hK => awake23 hK) ?_ | refine awake23 ?_
  conv => whnf
  try (refine And.intro (OkD.mk (by kernel_rfl)) ?_; conv => whnf)
