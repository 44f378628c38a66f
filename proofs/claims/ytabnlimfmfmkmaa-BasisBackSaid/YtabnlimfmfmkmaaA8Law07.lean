/- Part of the proof of a law of the seat: its functions, walked. No condition. -/
import Derived.Test.YtabnlimfmfmkmaaA8Basis2
namespace Go.AW.A8
open Go Go.AW Go.Proofs
set_option maxRecDepth 100000
set_option linter.unusedVariables false
theorem beq3 (a b c : Int) : (a == a && (b == b && (c == c && true))) = true := by simp
theorem awake07 {s : List Ob} {Q : AV → List Ob → Prop} (hq : Q (.bool true) s) : AC Try.prog 10 [] s Q := by
  refine AC_pure rfl ?_
  refine AC_body tok 0 Try.func10 rfl (by kernel_rfl) ?_
  conv => whnf
  refine basisOf (x := 0) (y := 0) (z := 1) (by decide) (by decide) (by decide) (fun o u1 u2 u3 v1 v2 v3 n1 n2 n3 h ho => ?_)
  conv => whnf
  have e1 : ofI 0 0 1 = ((0, -16384, 0), (16384, 0, 0), (0, 0, 16384)) := by decide
  rw [e1] at h
  simp only [Prod.mk.injEq] at h
  obtain ⟨⟨rfl, rfl, rfl⟩, ⟨rfl, rfl, rfl⟩, rfl, rfl, rfl⟩ := h
  obtain rfl : o = true := by rw [ho]; decide
  conv => whnf
  refine basisOf (x := 0) (y := 0) (z := 0) (by decide) (by decide) (by decide) (fun o u1 u2 u3 v1 v2 v3 n1 n2 n3 h ho => ?_)
  conv => whnf
  obtain rfl : o = false := by rw [ho]; decide
  clear h
  conv => whnf
  try (refine AW_draw tok hP ?_; conv => whnf)
  first | refine AQ_pure (r := .agg [.int .i64 0, .int .i64 0, .int .i64 16384]) (fun sK QK hK => basisMirror (by decide) (by decide) (by decide) (by decide) (by decide) (by decide) (fun u v w o h1 h2 h3 h4 => by obtain rfl : u = 0 := by { rw [h2, h1]; decide }; obtain rfl : v = 0 := by { rw [h3, h1]; decide }; obtain rfl : w = 16384 := by { rw [h4, h1]; decide }; exact hK)) ?_ | refine AC_pureR (r := .agg [.int .i64 0, .int .i64 0, .int .i64 16384]) (fun sK QK hK => basisMirror (by decide) (by decide) (by decide) (by decide) (by decide) (by decide) (fun u v w o h1 h2 h3 h4 => by obtain rfl : u = 0 := by { rw [h2, h1]; decide }; obtain rfl : v = 0 := by { rw [h3, h1]; decide }; obtain rfl : w = 16384 := by { rw [h4, h1]; decide }; exact hK)) ?_
  conv => whnf
  try (refine And.intro (OkD.mk (by kernel_rfl)) ?_; conv => whnf)
  try (refine AW_draw tok hP ?_; conv => whnf)
  first | refine AQ_pure (r := .agg [.int .i64 0, .int .i64 0, .int .i64 (-16384)]) (fun sK QK hK => basisFacing (by decide) (by decide) (by decide) (by decide) (by decide) (by decide) (fun u v w h2 h3 h4 => by obtain rfl : u = 0 := by { rw [h2]; decide }; obtain rfl : v = 0 := by { rw [h3]; decide }; obtain rfl : w = -16384 := by { rw [h4]; decide }; exact hK)) ?_ | refine AC_pureR (r := .agg [.int .i64 0, .int .i64 0, .int .i64 (-16384)]) (fun sK QK hK => basisFacing (by decide) (by decide) (by decide) (by decide) (by decide) (by decide) (fun u v w h2 h3 h4 => by obtain rfl : u = 0 := by { rw [h2]; decide }; obtain rfl : v = 0 := by { rw [h3]; decide }; obtain rfl : w = -16384 := by { rw [h4]; decide }; exact hK)) ?_
  conv => whnf
  try (refine And.intro (OkD.mk (by kernel_rfl)) ?_; conv => whnf)
  exact ⟨rfl, hq⟩
theorem lawOf {a b c d e f g h i : Int} {s : List Ob} {Q : AV → List Ob → Prop} (hq : Q (.agg [.int .i64 a, .int .i64 b, .int .i64 c, .int .i64 d, .int .i64 e, .int .i64 f, .int .i64 g, .int .i64 h, .int .i64 i]) s) : AC Try.prog 16 [.agg [.int .i64 a, .int .i64 b, .int .i64 c, .int .i64 d, .int .i64 e, .int .i64 f, .int .i64 g, .int .i64 h, .int .i64 i]] s Q := by
  refine AC_pure rfl ?_
  refine AC_body tok 3 Try.func16 rfl (by kernel_rfl) ?_
  conv => whnf
  exact ⟨rfl, hq⟩
theorem lawBasisTells (avs : List AV) (obs : List Ob) (ha : ArgC 0 [.flat (.ik .i64), .flat (.ik .i64), .flat (.ik .i64), .flat (.ik .i64), .flat (.ik .i64), .flat (.ik .i64), .flat (.ik .i64), .flat (.ik .i64), .flat (.ik .i64), .flat (.ik .i64), .flat (.ik .i64), .flat (.ik .i64), .flat (.ik .i64), .flat (.ik .i64), .flat (.ik .i64), .flat (.ik .i64), .flat (.ik .i64), .flat (.ik .i64)] avs obs) : AC Try.prog 4 (groupK [some 3, some 9, some 3, some 3] avs) obs fun r _ => r = .bool true := by
  cases ha with | int w1 ha => cases ha with | int w2 ha => cases ha with | int w3 ha =>
  cases ha with | int a1 ha => cases ha with | int a2 ha => cases ha with | int a3 ha =>
  cases ha with | int a4 ha => cases ha with | int a5 ha => cases ha with | int a6 ha =>
  cases ha with | int a7 ha => cases ha with | int a8 ha => cases ha with | int a9 ha =>
  cases ha with | int b1 ha => cases ha with | int b2 ha => cases ha with | int b3 ha =>
  cases ha with | int c1 ha => cases ha with | int c2 ha => cases ha with | int c3 ha =>
  cases ha
  rename_i p1 p2 p3 u1 u2 u3 v1 v2 v3 n1 n2 n3 x y z d1 d2 d3
  replace w1 := wf_i64 w1; replace w2 := wf_i64 w2; replace w3 := wf_i64 w3
  replace a1 := wf_i64 a1; replace a2 := wf_i64 a2; replace a3 := wf_i64 a3
  replace a4 := wf_i64 a4; replace a5 := wf_i64 a5; replace a6 := wf_i64 a6
  replace a7 := wf_i64 a7; replace a8 := wf_i64 a8; replace a9 := wf_i64 a9
  replace b1 := wf_i64 b1; replace b2 := wf_i64 b2; replace b3 := wf_i64 b3
  replace c1 := wf_i64 c1; replace c2 := wf_i64 c2; replace c3 := wf_i64 c3
  refine AC_body tok 3 Try.func4 rfl (by kernel_rfl) ?_
  conv => whnf
  refine basisOf w1 w2 w3 (fun o t1 t2 t3 t4 t5 t6 t7 t8 t9 h1 h2 => ?_)
  conv => whnf
  refine refOf w1 w2 w3 (fun o' t1' t2' t3' t4' t5' t6' t7' t8' t9' h1' h2' => ?_)
  conv => whnf
  rw [← h1] at h1'
  simp only [Prod.mk.injEq] at h1'
  obtain ⟨⟨rfl, rfl, rfl⟩, ⟨rfl, rfl, rfl⟩, rfl, rfl, rfl⟩ := h1'
  obtain rfl : o' = o := h2'.trans h2.symm
  clear h1 h2 h2'
  repeat' first
    | (refine AW_draw tok hP ?_; conv => whnf)
    | (refine And.intro (OkD.mk (by kernel_rfl)) ?_; conv => whnf)
    | (refine lawOf ?_; conv => whnf)
    | (refine AQ_pure (fun s Q h => lawOf h) ?_; conv => whnf)
    | fail
  have hT : (t1' == t1' && (t2' == t2' && (t3' == t3' && (t4' == t4' && (t5' == t5' && (t6' == t6' && (t7' == t7' && (t8' == t8' && (t9' == t9' && true))))))))) = true := by simp
  rw [hT]
  conv => whnf
  rw [beq_self_eq_true]
  conv => whnf
  repeat' first
    | (refine AW_draw tok hP ?_; conv => whnf)
    | (refine And.intro (OkD.mk (by kernel_rfl)) ?_; conv => whnf)
    | (refine lawOf ?_; conv => whnf)
    | (refine AQ_pure (fun s Q h => lawOf h) ?_; conv => whnf)
    | fail
  try (refine AW_draw tok hP ?_; conv => whnf)
  first | refine AQ_vec (fun sK QK hK => basisOutC a1 a2 a3 a4 a5 a6 a7 a8 a9 b1 b2 b3 hK) (fun q1 q2 q3 h1 h2 h3 => ?_) | refine basisOutC a1 a2 a3 a4 a5 a6 a7 a8 a9 b1 b2 b3 (fun q1 q2 q3 h1 h2 h3 => ?_)
  conv => whnf
  try (refine And.intro (OkD.mk (by kernel_rfl)) ?_; conv => whnf)
  try (refine AW_draw tok hP ?_; conv => whnf)
  first | refine AQ_vec (fun sK QK hK => refOutC hK) (fun r1 r2 r3 g1 g2 g3 => ?_) | refine refOutC (fun r1 r2 r3 g1 g2 g3 => ?_)
  conv => whnf
  try (refine And.intro (OkD.mk (by kernel_rfl)) ?_; conv => whnf)
  obtain rfl := h1.trans g1.symm
  obtain rfl := h2.trans g2.symm
  obtain rfl := h3.trans g3.symm
  clear h1 h2 h3 g1 g2 g3
  conv => whnf
  rw [beq3]
  conv => whnf
  repeat' first
    | (refine AW_draw tok hP ?_; conv => whnf)
    | (refine And.intro (OkD.mk (by kernel_rfl)) ?_; conv => whnf)
    | (refine lawOf ?_; conv => whnf)
    | (refine AQ_pure (fun s Q h => lawOf h) ?_; conv => whnf)
    | fail
  try (refine AW_draw tok hP ?_; conv => whnf)
  first | refine AQ_vec (fun sK QK hK => basisInC a1 a2 a3 a4 a5 a6 a7 a8 a9 b1 b2 b3 hK) (fun q1a q2a q3a h1 h2 h3 => ?_) | refine basisInC a1 a2 a3 a4 a5 a6 a7 a8 a9 b1 b2 b3 (fun q1a q2a q3a h1 h2 h3 => ?_)
  conv => whnf
  try (refine And.intro (OkD.mk (by kernel_rfl)) ?_; conv => whnf)
  try (refine AW_draw tok hP ?_; conv => whnf)
  first | refine AQ_vec (fun sK QK hK => refInC hK) (fun r1 r2 r3 g1 g2 g3 => ?_) | refine refInC (fun r1 r2 r3 g1 g2 g3 => ?_)
  conv => whnf
  try (refine And.intro (OkD.mk (by kernel_rfl)) ?_; conv => whnf)
  obtain rfl := h1.trans g1.symm
  obtain rfl := h2.trans g2.symm
  obtain rfl := h3.trans g3.symm
  clear h1 h2 h3 g1 g2 g3
  conv => whnf
  rw [beq3]
  conv => whnf
  repeat' first
    | (refine AW_draw tok hP ?_; conv => whnf)
    | (refine And.intro (OkD.mk (by kernel_rfl)) ?_; conv => whnf)
    | (refine lawOf ?_; conv => whnf)
    | (refine AQ_pure (fun s Q h => lawOf h) ?_; conv => whnf)
    | fail
  try (refine AW_draw tok hP ?_; conv => whnf)
  first | refine AQ_vec (fun sK QK hK => basisMirrorC c1 c2 c3 b1 b2 b3 hK) (fun q1b q2b q3b h1 h2 h3 => ?_) | refine basisMirrorC c1 c2 c3 b1 b2 b3 (fun q1b q2b q3b h1 h2 h3 => ?_)
  conv => whnf
  try (refine And.intro (OkD.mk (by kernel_rfl)) ?_; conv => whnf)
  try (refine AW_draw tok hP ?_; conv => whnf)
  first | refine AQ_vec (fun sK QK hK => refMirrorC hK) (fun r1 r2 r3 g1 g2 g3 => ?_) | refine refMirrorC (fun r1 r2 r3 g1 g2 g3 => ?_)
  conv => whnf
  try (refine And.intro (OkD.mk (by kernel_rfl)) ?_; conv => whnf)
  obtain rfl := h1.trans g1.symm
  obtain rfl := h2.trans g2.symm
  obtain rfl := h3.trans g3.symm
  clear h1 h2 h3 g1 g2 g3
  conv => whnf
  rw [beq3]
  conv => whnf
  repeat' first
    | (refine AW_draw tok hP ?_; conv => whnf)
    | (refine And.intro (OkD.mk (by kernel_rfl)) ?_; conv => whnf)
    | (refine lawOf ?_; conv => whnf)
    | (refine AQ_pure (fun s Q h => lawOf h) ?_; conv => whnf)
    | fail
  try (refine AW_draw tok hP ?_; conv => whnf)
  first | refine AQ_vec (fun sK QK hK => basisFacing w1 w2 w3 c1 c2 c3 hK) (fun q1c q2c q3c h1 h2 h3 => ?_) | refine basisFacing w1 w2 w3 c1 c2 c3 (fun q1c q2c q3c h1 h2 h3 => ?_)
  conv => whnf
  try (refine And.intro (OkD.mk (by kernel_rfl)) ?_; conv => whnf)
  try (refine AW_draw tok hP ?_; conv => whnf)
  first | refine AQ_vec (fun sK QK hK => refFacing hK) (fun r1 r2 r3 g1 g2 g3 => ?_) | refine refFacing (fun r1 r2 r3 g1 g2 g3 => ?_)
  conv => whnf
  try (refine And.intro (OkD.mk (by kernel_rfl)) ?_; conv => whnf)
  obtain rfl := h1.trans g1.symm
  obtain rfl := h2.trans g2.symm
  obtain rfl := h3.trans g3.symm
  clear h1 h2 h3 g1 g2 g3
  conv => whnf
  rw [beq3]
  conv => whnf
  try (refine AW_draw tok hP ?_; conv => whnf)
  first | refine AQ_pure (fun sK QK hK => awake07 hK) ?_ | refine awake07 ?_
  conv => whnf
  try (refine And.intro (OkD.mk (by kernel_rfl)) ?_; conv => whnf)
