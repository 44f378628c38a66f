/- Part of the proof of a law of the seat: its functions, walked. No condition. -/
import Derived.Test.YtabnlimfmfmkmaaA8Basis
namespace Go.AW.A8
open Go Go.AW Go.Proofs
set_option maxRecDepth 100000
set_option linter.unusedVariables false
theorem AQ_tri {P : Program} {f : FuncId} {args : List AV} {s : List Ob} {K : List Nat → AV → List (Nat × Ob) → List Ob → Prop} {t : Int × Int × Int} (h : ∀ (s : List Ob) (Q : AV → List Ob → Prop), (∀ u v w, (u, v, w) = t → Q (.agg [.int .i64 u, .int .i64 v, .int .i64 w]) s) → AC P f args s Q) (hk : ∀ u v w, (u, v, w) = t → K [] (.agg [.int .i64 u, .int .i64 v, .int .i64 w]) [] []) : AQ P f args s K :=
  AQ_pure (fun s Q q => h s Q fun u v w hu => by rw [← hu] at q; exact q) (hk t.1 t.2.1 t.2.2 rfl)
theorem AQ_uni {P : Program} {f : FuncId} {args : List AV} {s : List Ob} {K : List Nat → AV → List (Nat × Ob) → List Ob → Prop} {t : Int × Int × Int} {b : Bool} (h : ∀ (s : List Ob) (Q : AV → List Ob → Prop), (∀ o u v w, (u, v, w) = t → o = b → Q (.tup [.agg [.int .i64 u, .int .i64 v, .int .i64 w], .bool o]) s) → AC P f args s Q) (hk : ∀ o u v w, (u, v, w) = t → o = b → K [] (.tup [.agg [.int .i64 u, .int .i64 v, .int .i64 w], .bool o]) [] []) : AQ P f args s K :=
  AQ_pure (fun s Q q => h s Q fun o u v w hu ho => by rw [← hu, ← ho] at q; exact q) (hk b t.1 t.2.1 t.2.2 rfl rfl)
theorem basisOf {x y z : Int} (hx : I64 x) (hy : I64 y) (hz : I64 z) {s : List Ob} {Q : AV → List Ob → Prop} (h : ∀ o u1 u2 u3 v1 v2 v3 n1 n2 n3, ((u1, u2, u3), (v1, v2, v3), (n1, n2, n3)) = ofI x y z → o = okI x y z → Q (.tup [.agg [.int .i64 u1, .int .i64 u2, .int .i64 u3, .int .i64 v1, .int .i64 v2, .int .i64 v3, .int .i64 n1, .int .i64 n2, .int .i64 n3], .bool o]) s) : AC Try.prog 9 [.agg [.int .i64 x, .int .i64 y, .int .i64 z]] s Q := by
  refine AC_pure rfl ?_
  refine AC_body tok 0 Try.func9 rfl (by kernel_rfl) ?_
  conv => whnf
  refine vecUnit hx hy hz (fun o n1 n2 n3 hn ho => ?_)
  conv => whnf
  cases o
  · conv => whnf
    exact ⟨rfl, h _ _ _ _ _ _ _ _ _ _ (PB.of_no ho.symm).symm ho⟩
  conv => whnf
  have bn := PU.unit_near hx hy hz hn
  have nn := PB.near_u bn
  obtain ⟨in1, in2, in3⟩ := PB.near_I nn
  try (refine AW_draw tok hP ?_; conv => whnf)
  first | refine AQ_tri (fun sK QK hK => basisAxis nn hK) (fun e1 e2 e3 he => ?_) | refine basisAxis nn (fun e1 e2 e3 he => ?_)
  conv => whnf
  try (refine And.intro (OkD.mk (by kernel_rfl)) ?_; conv => whnf)
  have ee := PB.near_e he
  have ne := PB.near_a ee
  obtain ⟨ie1, ie2, ie3⟩ := PB.near_I ne
  try (refine AW_draw tok hP ?_; conv => whnf)
  first | refine AQ_vec (fun sK QK hK => vecCross ie1 ie2 ie3 in1 in2 in3 hK) (fun c1 c2 c3 h1 h2 h3 => ?_) | refine vecCross ie1 ie2 ie3 in1 in2 in3 (fun c1 c2 c3 h1 h2 h3 => ?_)
  conv => whnf
  try (refine And.intro (OkD.mk (by kernel_rfl)) ?_; conv => whnf)
  rw [ne, nn] at h1 h2 h3
  obtain ⟨ic1, ic2, ic3⟩ := PB.cross_i ne nn
  try (refine AW_draw tok hP ?_; conv => whnf)
  first | refine AQ_uni (fun sK QK hK => vecUnit (x := c1) (y := c2) (z := c3) (by rw [h1]; exact ic1) (by rw [h2]; exact ic2) (by rw [h3]; exact ic3) hK) (fun _ u1 u2 u3 hu _ => ?_) | refine vecUnit (x := c1) (y := c2) (z := c3) (by rw [h1]; exact ic1) (by rw [h2]; exact ic2) (by rw [h3]; exact ic3) (fun _ u1 u2 u3 hu _ => ?_)
  conv => whnf
  try (refine And.intro (OkD.mk (by kernel_rfl)) ?_; conv => whnf)
  have bu := PU.unit_near (by rw [h1]; exact ic1) (by rw [h2]; exact ic2) (by rw [h3]; exact ic3) hu
  have nu := PB.near_u bu
  obtain ⟨iu1, iu2, iu3⟩ := PB.near_I nu
  try (refine AW_draw tok hP ?_; conv => whnf)
  first | refine AQ_vec (fun sK QK hK => vecCross in1 in2 in3 iu1 iu2 iu3 hK) (fun d1 d2 d3 g1 g2 g3 => ?_) | refine vecCross in1 in2 in3 iu1 iu2 iu3 (fun d1 d2 d3 g1 g2 g3 => ?_)
  conv => whnf
  try (refine And.intro (OkD.mk (by kernel_rfl)) ?_; conv => whnf)
  rw [nn, nu] at g1 g2 g3
  obtain ⟨id1, id2, id3⟩ := PB.cross_i nn nu
  try (refine AW_draw tok hP ?_; conv => whnf)
  first | refine AQ_uni (fun sK QK hK => vecUnit (x := d1) (y := d2) (z := d3) (by rw [g1]; exact id1) (by rw [g2]; exact id2) (by rw [g3]; exact id3) hK) (fun _ v1 v2 v3 hv _ => ?_) | refine vecUnit (x := d1) (y := d2) (z := d3) (by rw [g1]; exact id1) (by rw [g2]; exact id2) (by rw [g3]; exact id3) (fun _ v1 v2 v3 hv _ => ?_)
  conv => whnf
  try (refine And.intro (OkD.mk (by kernel_rfl)) ?_; conv => whnf)
  rw [h1, h2, h3] at hu
  rw [g1, g2, g3] at hv
  exact ⟨rfl, h _ _ _ _ _ _ _ _ _ _ (PB.of_eq hn he hu hv) ho⟩
theorem refOf {x y z : Int} (hx : I64 x) (hy : I64 y) (hz : I64 z) {s : List Ob} {Q : AV → List Ob → Prop} (h : ∀ o u1 u2 u3 v1 v2 v3 n1 n2 n3, ((u1, u2, u3), (v1, v2, v3), (n1, n2, n3)) = ofI x y z → o = okI x y z → Q (.tup [.agg [.int .i64 u1, .int .i64 u2, .int .i64 u3, .int .i64 v1, .int .i64 v2, .int .i64 v3, .int .i64 n1, .int .i64 n2, .int .i64 n3], .bool o]) s) : AC Try.prog 15 [.agg [.int .i64 x, .int .i64 y, .int .i64 z]] s Q := by
  refine AC_pure rfl ?_
  refine AC_body tok 0 Try.func15 rfl (by kernel_rfl) ?_
  conv => whnf
  refine refUnit hx hy hz (fun o n1 n2 n3 hn ho => ?_)
  conv => whnf
  cases o
  · conv => whnf
    exact ⟨rfl, h _ _ _ _ _ _ _ _ _ _ (PB.of_no ho.symm).symm ho⟩
  conv => whnf
  have bn := PU.unit_near hx hy hz hn
  have nn := PB.near_u bn
  obtain ⟨in1, in2, in3⟩ := PB.near_I nn
  try (refine AW_draw tok hP ?_; conv => whnf)
  first | refine AQ_tri (fun sK QK hK => refAxis nn hK) (fun e1 e2 e3 he => ?_) | refine refAxis nn (fun e1 e2 e3 he => ?_)
  conv => whnf
  try (refine And.intro (OkD.mk (by kernel_rfl)) ?_; conv => whnf)
  have ee := PB.near_e he
  have ne := PB.near_a ee
  obtain ⟨ie1, ie2, ie3⟩ := PB.near_I ne
  try (refine AW_draw tok hP ?_; conv => whnf)
  first | refine AQ_vec (fun sK QK hK => refCross hK) (fun c1 c2 c3 h1 h2 h3 => ?_) | refine refCross (fun c1 c2 c3 h1 h2 h3 => ?_)
  conv => whnf
  try (refine And.intro (OkD.mk (by kernel_rfl)) ?_; conv => whnf)
  rw [ne, nn] at h1 h2 h3
  obtain ⟨ic1, ic2, ic3⟩ := PB.cross_i ne nn
  try (refine AW_draw tok hP ?_; conv => whnf)
  first | refine AQ_uni (fun sK QK hK => refUnit (x := c1) (y := c2) (z := c3) (by rw [h1]; exact ic1) (by rw [h2]; exact ic2) (by rw [h3]; exact ic3) hK) (fun _ u1 u2 u3 hu _ => ?_) | refine refUnit (x := c1) (y := c2) (z := c3) (by rw [h1]; exact ic1) (by rw [h2]; exact ic2) (by rw [h3]; exact ic3) (fun _ u1 u2 u3 hu _ => ?_)
  conv => whnf
  try (refine And.intro (OkD.mk (by kernel_rfl)) ?_; conv => whnf)
  have bu := PU.unit_near (by rw [h1]; exact ic1) (by rw [h2]; exact ic2) (by rw [h3]; exact ic3) hu
  have nu := PB.near_u bu
  obtain ⟨iu1, iu2, iu3⟩ := PB.near_I nu
  try (refine AW_draw tok hP ?_; conv => whnf)
  first | refine AQ_vec (fun sK QK hK => refCross hK) (fun d1 d2 d3 g1 g2 g3 => ?_) | refine refCross (fun d1 d2 d3 g1 g2 g3 => ?_)
  conv => whnf
  try (refine And.intro (OkD.mk (by kernel_rfl)) ?_; conv => whnf)
  rw [nn, nu] at g1 g2 g3
  obtain ⟨id1, id2, id3⟩ := PB.cross_i nn nu
  try (refine AW_draw tok hP ?_; conv => whnf)
  first | refine AQ_uni (fun sK QK hK => refUnit (x := d1) (y := d2) (z := d3) (by rw [g1]; exact id1) (by rw [g2]; exact id2) (by rw [g3]; exact id3) hK) (fun _ v1 v2 v3 hv _ => ?_) | refine refUnit (x := d1) (y := d2) (z := d3) (by rw [g1]; exact id1) (by rw [g2]; exact id2) (by rw [g3]; exact id3) (fun _ v1 v2 v3 hv _ => ?_)
  conv => whnf
  try (refine And.intro (OkD.mk (by kernel_rfl)) ?_; conv => whnf)
  rw [h1, h2, h3] at hu
  rw [g1, g2, g3] at hv
  exact ⟨rfl, h _ _ _ _ _ _ _ _ _ _ (PB.of_eq hn he hu hv) ho⟩
theorem basisNear4 {e : TypeId} {i : Nat} {u1 u2 u3 v1 v2 v3 n1 n2 n3 x y z : Int} (hu1 : I64 u1) (hu2 : I64 u2) (hu3 : I64 u3) (hv1 : I64 v1) (hv2 : I64 v2) (hv3 : I64 v3) (hn1 : I64 n1) (hn2 : I64 n2) (hn3 : I64 n3) (hx : I64 x) (hy : I64 y) (hz : I64 z) {s : List Ob} (hs : s[i]? = some (.row true e [.ik .i64, .ik .i64, .ik .i64] [[u1, u2, u3], [v1, v2, v3], [n1, n2, n3], [x, y, z]])) {Q : AV → List Ob → Prop} (h : ∀ v, v = nearB u1 u2 u3 v1 v2 v3 n1 n2 n3 x y z → Q (.bool v) s) : AC Try.prog 49 [.sl i 0 4 none] s Q := by
  refine AC_read (args' := [.sl 0 0 4 none]) (L := [.row true e [.ik .i64, .ik .i64, .ik .i64] [[u1, u2, u3], [v1, v2, v3], [n1, n2, n3], [x, y, z]]]) [i] (by simp) rfl rfl (by rintro (_ | i') j ob h1 h2 <;> simp at h1 h2; subst h1 h2; exact hs) ?_
  unfold nearB at h
  refine AC_body tok 12 Try.func49 rfl (by kernel_rfl) ?_
  conv => whnf
  refine vecNear hu1 hu2 hu3 (fun p hp => ?_)
  conv => whnf
  rw [← hp] at h
  cases p
  · conv => whnf
    exact ⟨rfl, rfl, h _ rfl⟩
  conv => whnf
  refine vecNear hv1 hv2 hv3 (fun p2 hp2 => ?_)
  conv => whnf
  rw [← hp2] at h
  cases p2
  · conv => whnf
    exact ⟨rfl, rfl, h _ rfl⟩
  conv => whnf
  refine vecNear hn1 hn2 hn3 (fun p3 hp3 => ?_)
  conv => whnf
  rw [← hp3] at h
  cases p3
  · conv => whnf
    exact ⟨rfl, rfl, h _ rfl⟩
  conv => whnf
  refine vecNear hx hy hz (fun p4 hp4 => ?_)
  conv => whnf
  rw [← hp4] at h
  cases p4
  · conv => whnf
    exact ⟨rfl, rfl, h _ rfl⟩
  · conv => whnf
    exact ⟨rfl, rfl, h _ rfl⟩
theorem basisOut {u1 u2 u3 v1 v2 v3 n1 n2 n3 x y z : Int} (hu1 : I64 u1) (hu2 : I64 u2) (hu3 : I64 u3) (hv1 : I64 v1) (hv2 : I64 v2) (hv3 : I64 v3) (hn1 : I64 n1) (hn2 : I64 n2) (hn3 : I64 n3) (hx : I64 x) (hy : I64 y) (hz : I64 z) {s : List Ob} {Q : AV → List Ob → Prop}
    (h : ∀ p q r b, b = nearB u1 u2 u3 v1 v2 v3 n1 n2 n3 x y z → p = outI b u1 v1 n1 x y z → q = outI b u2 v2 n2 x y z → r = outI b u3 v3 n3 x y z → Q (.agg [.int .i64 p, .int .i64 q, .int .i64 r]) s) : AC Try.prog 17 [.agg [.int .i64 u1, .int .i64 u2, .int .i64 u3, .int .i64 v1, .int .i64 v2, .int .i64 v3, .int .i64 n1, .int .i64 n2, .int .i64 n3], .agg [.int .i64 x, .int .i64 y, .int .i64 z]] s Q := by
  refine AC_pure rfl ?_
  refine AC_body tok 12 Try.func17 rfl (by kernel_rfl) ?_
  conv => whnf
  refine basisNear4 hu1 hu2 hu3 hv1 hv2 hv3 hn1 hn2 hn3 hx hy hz rfl (fun b hb => ?_)
  conv => whnf
  cases b
  · conv => whnf
    exact ⟨rfl, h _ _ _ _ hb rfl rfl rfl⟩
  conv => whnf
  obtain ⟨nu, nv, nn, nx⟩ := PB.near_B hb.symm
  obtain ⟨bu1, bu2, bu3⟩ := PV.near_iff.1 nu
  obtain ⟨bv1, bv2, bv3⟩ := PV.near_iff.1 nv
  obtain ⟨bn1, bn2, bn3⟩ := PV.near_iff.1 nn
  obtain ⟨bx, by', bz⟩ := PV.near_iff.1 nx
  have a1 := PB.mul_b bu1 bx; have a2 := PB.mul_b bu2 bx; have a3 := PB.mul_b bu3 bx
  have b1 := PB.mul_b bv1 by'; have b2 := PB.mul_b bv2 by'; have b3 := PB.mul_b bv3 by'
  have c1 := PB.mul_b bn1 bz; have c2 := PB.mul_b bn2 bz; have c3 := PB.mul_b bn3 bz
  have ea1 : Z.mul .i64 u1 x = u1 * x := Z.wrap_iid (by omega) (by omega)
  have ea2 : Z.mul .i64 u2 x = u2 * x := Z.wrap_iid (by omega) (by omega)
  have ea3 : Z.mul .i64 u3 x = u3 * x := Z.wrap_iid (by omega) (by omega)
  have eb1 : Z.mul .i64 v1 y = v1 * y := Z.wrap_iid (by omega) (by omega)
  have eb2 : Z.mul .i64 v2 y = v2 * y := Z.wrap_iid (by omega) (by omega)
  have eb3 : Z.mul .i64 v3 y = v3 * y := Z.wrap_iid (by omega) (by omega)
  have ec1 : Z.mul .i64 n1 z = n1 * z := Z.wrap_iid (by omega) (by omega)
  have ec2 : Z.mul .i64 n2 z = n2 * z := Z.wrap_iid (by omega) (by omega)
  have ec3 : Z.mul .i64 n3 z = n3 * z := Z.wrap_iid (by omega) (by omega)
  have I0 : I64 0 := by decide
  repeat' first
    | (refine AW_draw tok hP ?_; conv => whnf)
    | (refine And.intro (OkD.mk (by kernel_rfl)) ?_; conv => whnf)
    | (refine basisTimes ?_; conv => whnf)
    | (refine AQ_pure (fun s Q h => basisTimes h) ?_; conv => whnf)
    | (refine AC_body tok 12 Try.func50 rfl (by kernel_rfl) ?_; conv => whnf)
    | fail
  try (refine AW_draw tok hP ?_; conv => whnf)
  first | refine AQ_vec (fun sK QK hK => vecAdd (x := Z.mul .i64 u1 x) (y := Z.mul .i64 u2 x) (z := Z.mul .i64 u3 x) I0 I0 I0 (by rw [ea1]; unfold I64; omega) (by rw [ea2]; unfold I64; omega) (by rw [ea3]; unfold I64; omega) hK) (fun p1 p2 p3 hp1 hp2 hp3 => ?_) | refine vecAdd (x := Z.mul .i64 u1 x) (y := Z.mul .i64 u2 x) (z := Z.mul .i64 u3 x) I0 I0 I0 (by rw [ea1]; unfold I64; omega) (by rw [ea2]; unfold I64; omega) (by rw [ea3]; unfold I64; omega) (fun p1 p2 p3 hp1 hp2 hp3 => ?_)
  conv => whnf
  try (refine And.intro (OkD.mk (by kernel_rfl)) ?_; conv => whnf)
  rw [ea1, PV.plus_eq (by omega) (by omega)] at hp1
  rw [ea2, PV.plus_eq (by omega) (by omega)] at hp2
  rw [ea3, PV.plus_eq (by omega) (by omega)] at hp3
  repeat' first
    | (refine AW_draw tok hP ?_; conv => whnf)
    | (refine And.intro (OkD.mk (by kernel_rfl)) ?_; conv => whnf)
    | (refine basisTimes ?_; conv => whnf)
    | (refine AQ_pure (fun s Q h => basisTimes h) ?_; conv => whnf)
    | (refine AC_body tok 12 Try.func50 rfl (by kernel_rfl) ?_; conv => whnf)
    | fail
  try (refine AW_draw tok hP ?_; conv => whnf)
  first | refine AQ_vec (fun sK QK hK => vecAdd (a := p1) (b := p2) (c := p3) (x := Z.mul .i64 v1 y) (y := Z.mul .i64 v2 y) (z := Z.mul .i64 v3 y) (by unfold I64; omega) (by unfold I64; omega) (by unfold I64; omega) (by rw [eb1]; unfold I64; omega) (by rw [eb2]; unfold I64; omega) (by rw [eb3]; unfold I64; omega) hK) (fun q1 q2 q3 hq1 hq2 hq3 => ?_) | refine vecAdd (a := p1) (b := p2) (c := p3) (x := Z.mul .i64 v1 y) (y := Z.mul .i64 v2 y) (z := Z.mul .i64 v3 y) (by unfold I64; omega) (by unfold I64; omega) (by unfold I64; omega) (by rw [eb1]; unfold I64; omega) (by rw [eb2]; unfold I64; omega) (by rw [eb3]; unfold I64; omega) (fun q1 q2 q3 hq1 hq2 hq3 => ?_)
  conv => whnf
  try (refine And.intro (OkD.mk (by kernel_rfl)) ?_; conv => whnf)
  rw [eb1, PV.plus_eq (by omega) (by omega)] at hq1
  rw [eb2, PV.plus_eq (by omega) (by omega)] at hq2
  rw [eb3, PV.plus_eq (by omega) (by omega)] at hq3
  repeat' first
    | (refine AW_draw tok hP ?_; conv => whnf)
    | (refine And.intro (OkD.mk (by kernel_rfl)) ?_; conv => whnf)
    | (refine basisTimes ?_; conv => whnf)
    | (refine AQ_pure (fun s Q h => basisTimes h) ?_; conv => whnf)
    | (refine AC_body tok 12 Try.func50 rfl (by kernel_rfl) ?_; conv => whnf)
    | fail
  try (refine AW_draw tok hP ?_; conv => whnf)
  first | refine AQ_vec (fun sK QK hK => vecAdd (a := q1) (b := q2) (c := q3) (x := Z.mul .i64 n1 z) (y := Z.mul .i64 n2 z) (z := Z.mul .i64 n3 z) (by unfold I64; omega) (by unfold I64; omega) (by unfold I64; omega) (by rw [ec1]; unfold I64; omega) (by rw [ec2]; unfold I64; omega) (by rw [ec3]; unfold I64; omega) hK) (fun r1 r2 r3 hr1 hr2 hr3 => ?_) | refine vecAdd (a := q1) (b := q2) (c := q3) (x := Z.mul .i64 n1 z) (y := Z.mul .i64 n2 z) (z := Z.mul .i64 n3 z) (by unfold I64; omega) (by unfold I64; omega) (by unfold I64; omega) (by rw [ec1]; unfold I64; omega) (by rw [ec2]; unfold I64; omega) (by rw [ec3]; unfold I64; omega) (fun r1 r2 r3 hr1 hr2 hr3 => ?_)
  conv => whnf
  try (refine And.intro (OkD.mk (by kernel_rfl)) ?_; conv => whnf)
  rw [ec1, PV.plus_eq (by omega) (by omega)] at hr1
  rw [ec2, PV.plus_eq (by omega) (by omega)] at hr2
  rw [ec3, PV.plus_eq (by omega) (by omega)] at hr3
  conv => whnf
  refine basisDown (by unfold I64; omega) (by unfold I64; omega) (by unfold I64; omega) (fun w1 w2 w3 hw1 hw2 hw3 => ?_)
  conv => whnf
  have ed : ∀ k : Int, divI k 16384 = k / 16384 := fun k => by unfold divI; rw [if_neg (by omega)]
  exact ⟨rfl, h _ _ _ _ hb (by rw [hw1, ed, hr1, hq1, hp1, Int.zero_add]; rfl) (by rw [hw2, ed, hr2, hq2, hp2, Int.zero_add]; rfl) (by rw [hw3, ed, hr3, hq3, hp3, Int.zero_add]; rfl)⟩
theorem basisIn {u1 u2 u3 v1 v2 v3 n1 n2 n3 x y z : Int} (hu1 : I64 u1) (hu2 : I64 u2) (hu3 : I64 u3) (hv1 : I64 v1) (hv2 : I64 v2) (hv3 : I64 v3) (hn1 : I64 n1) (hn2 : I64 n2) (hn3 : I64 n3) (hx : I64 x) (hy : I64 y) (hz : I64 z) {s : List Ob} {Q : AV → List Ob → Prop}
    (h : ∀ p q r b, b = nearB u1 u2 u3 v1 v2 v3 n1 n2 n3 x y z → p = outI b u1 u2 u3 x y z → q = outI b v1 v2 v3 x y z → r = outI b n1 n2 n3 x y z → Q (.agg [.int .i64 p, .int .i64 q, .int .i64 r]) s) : AC Try.prog 19 [.agg [.int .i64 u1, .int .i64 u2, .int .i64 u3, .int .i64 v1, .int .i64 v2, .int .i64 v3, .int .i64 n1, .int .i64 n2, .int .i64 n3], .agg [.int .i64 x, .int .i64 y, .int .i64 z]] s Q := by
  refine AC_pure rfl ?_
  refine AC_body tok 12 Try.func19 rfl (by kernel_rfl) ?_
  conv => whnf
  refine basisNear4 hu1 hu2 hu3 hv1 hv2 hv3 hn1 hn2 hn3 hx hy hz rfl (fun b hb => ?_)
  conv => whnf
  cases b
  · conv => whnf
    exact ⟨rfl, h _ _ _ _ hb rfl rfl rfl⟩
  conv => whnf
  obtain ⟨nu, nv, nn, nx⟩ := PB.near_B hb.symm
  repeat' first
    | (refine AW_draw tok hP ?_; conv => whnf)
    | (refine And.intro (OkD.mk (by kernel_rfl)) ?_; conv => whnf)
    | (refine AC_body tok 12 Try.func50 rfl (by kernel_rfl) ?_; conv => whnf)
    | fail
  try (refine AW_draw tok hP ?_; conv => whnf)
  first | refine AQ_int (fun sK QK hK => vecDot hu1 hu2 hu3 hx hy hz hK) (fun d1 hd1 => ?_) | refine vecDot hu1 hu2 hu3 hx hy hz (fun d1 hd1 => ?_)
  conv => whnf
  try (refine And.intro (OkD.mk (by kernel_rfl)) ?_; conv => whnf)
  try (refine AW_draw tok hP ?_; conv => whnf)
  first | refine AQ_int (fun sK QK hK => vecDot hv1 hv2 hv3 hx hy hz hK) (fun d2 hd2 => ?_) | refine vecDot hv1 hv2 hv3 hx hy hz (fun d2 hd2 => ?_)
  conv => whnf
  try (refine And.intro (OkD.mk (by kernel_rfl)) ?_; conv => whnf)
  try (refine AW_draw tok hP ?_; conv => whnf)
  first | refine AQ_int (fun sK QK hK => vecDot hn1 hn2 hn3 hx hy hz hK) (fun d3 hd3 => ?_) | refine vecDot hn1 hn2 hn3 hx hy hz (fun d3 hd3 => ?_)
  conv => whnf
  try (refine And.intro (OkD.mk (by kernel_rfl)) ?_; conv => whnf)
  have i1 := PV.dot_i u1 u2 u3 x y z; have i2 := PV.dot_i v1 v2 v3 x y z; have i3 := PV.dot_i n1 n2 n3 x y z
  rw [← hd1] at i1; rw [← hd2] at i2; rw [← hd3] at i3
  refine basisDown (by unfold I64; omega) (by unfold I64; omega) (by unfold I64; omega) (fun w1 w2 w3 hw1 hw2 hw3 => ?_)
  conv => whnf
  have ed : ∀ k : Int, divI k 16384 = k / 16384 := fun k => by unfold divI; rw [if_neg (by omega)]
  unfold dotI at hd1 hd2 hd3
  rw [if_pos ⟨nu, nx⟩] at hd1; rw [if_pos ⟨nv, nx⟩] at hd2; rw [if_pos ⟨nn, nx⟩] at hd3
  exact ⟨rfl, h _ _ _ _ hb (by rw [hw1, ed, hd1]; rfl) (by rw [hw2, ed, hd2]; rfl) (by rw [hw3, ed, hd3]; rfl)⟩
theorem basisMirror {a b c x y z : Int} (ha : I64 a) (hb : I64 b) (hc : I64 c) (hx : I64 x) (hy : I64 y) (hz : I64 z) {s : List Ob} {Q : AV → List Ob → Prop} (h : ∀ u v w o, o = (nearI a b c && nearI x y z) → u = mirI o a x (a * x + b * y + c * z) → v = mirI o b y (a * x + b * y + c * z) → w = mirI o c z (a * x + b * y + c * z) → Q (.agg [.int .i64 u, .int .i64 v, .int .i64 w]) s) : AC Try.prog 21 [.agg [.int .i64 a, .int .i64 b, .int .i64 c], .agg [.int .i64 x, .int .i64 y, .int .i64 z]] s Q := by
  refine AC_pure rfl ?_
  refine AC_body tok 12 Try.func21 rfl (by kernel_rfl) ?_
  conv => whnf
  refine basisNear2 ha hb hc hx hy hz rfl (fun o ho => ?_)
  conv => whnf
  cases o
  · conv => whnf
    exact ⟨rfl, h _ _ _ _ ho rfl rfl rfl⟩
  conv => whnf
  have hn := ho.symm
  rw [Bool.and_eq_true] at hn
  obtain ⟨n1, n2⟩ := hn
  obtain ⟨ba, bb, bc⟩ := PV.near_iff.1 n1
  obtain ⟨bx, by', bz⟩ := PV.near_iff.1 n2
  try (refine AW_draw tok hP ?_; conv => whnf)
  first | refine AQ_int (fun sK QK hK => vecDot ha hb hc hx hy hz hK) (fun d hd => ?_) | refine vecDot ha hb hc hx hy hz (fun d hd => ?_)
  conv => whnf
  try (refine And.intro (OkD.mk (by kernel_rfl)) ?_; conv => whnf)
  have i1 := PV.dot_i a b c x y z
  rw [← hd] at i1
  unfold dotI at hd
  rw [if_pos ⟨n1, n2⟩] at hd
  rw [← hd] at h
  have ek : Z.mul .i64 2 d = 2 * d := Z.wrap_iid (by omega) (by omega)
  have m1 := PB.mir_b bx i1; have m2 := PB.mir_b by' i1; have m3 := PB.mir_b bz i1
  have e1 : Z.mul .i64 x (Z.mul .i64 2 d) = x * (2 * d) := by rw [ek]; exact Z.wrap_iid (by omega) (by omega)
  have e2 : Z.mul .i64 y (Z.mul .i64 2 d) = y * (2 * d) := by rw [ek]; exact Z.wrap_iid (by omega) (by omega)
  have e3 : Z.mul .i64 z (Z.mul .i64 2 d) = z * (2 * d) := by rw [ek]; exact Z.wrap_iid (by omega) (by omega)
  have ed : ∀ k : Int, divI k 268435456 = k / 268435456 := fun k => by unfold divI; rw [if_neg (by omega)]
  try (refine AW_draw tok hP ?_; conv => whnf)
  first | refine AQ_pure (fun sK QK hK => basisTimes hK) ?_ | refine basisTimes ?_
  conv => whnf
  try (refine And.intro (OkD.mk (by kernel_rfl)) ?_; conv => whnf)
  try (refine AW_draw tok hP ?_; conv => whnf)
  first | refine AQ_vec (fun sK QK hK => basisDown (a := Z.mul .i64 x (Z.mul .i64 2 d)) (b := Z.mul .i64 y (Z.mul .i64 2 d)) (c := Z.mul .i64 z (Z.mul .i64 2 d)) (by rw [e1]; unfold I64; omega) (by rw [e2]; unfold I64; omega) (by rw [e3]; unfold I64; omega) hK) (fun q1 q2 q3 h1 h2 h3 => ?_) | refine basisDown (a := Z.mul .i64 x (Z.mul .i64 2 d)) (b := Z.mul .i64 y (Z.mul .i64 2 d)) (c := Z.mul .i64 z (Z.mul .i64 2 d)) (by rw [e1]; unfold I64; omega) (by rw [e2]; unfold I64; omega) (by rw [e3]; unfold I64; omega) (fun q1 q2 q3 h1 h2 h3 => ?_)
  conv => whnf
  try (refine And.intro (OkD.mk (by kernel_rfl)) ?_; conv => whnf)
  rw [e1, ed] at h1; rw [e2, ed] at h2; rw [e3, ed] at h3
  try (refine AW_draw tok hP ?_; conv => whnf)
  first | refine AQ_vec (fun sK QK hK => vecSub ha hb hc (x := q1) (y := q2) (z := q3) (by unfold I64; omega) (by unfold I64; omega) (by unfold I64; omega) hK) (fun r1 r2 r3 g1 g2 g3 => ?_) | refine vecSub ha hb hc (x := q1) (y := q2) (z := q3) (by unfold I64; omega) (by unfold I64; omega) (by unfold I64; omega) (fun r1 r2 r3 g1 g2 g3 => ?_)
  conv => whnf
  try (refine And.intro (OkD.mk (by kernel_rfl)) ?_; conv => whnf)
  rw [PB.sub_i (by omega) (by omega), h1] at g1
  rw [PB.sub_i (by omega) (by omega), h2] at g2
  rw [PB.sub_i (by omega) (by omega), h3] at g3
  exact ⟨rfl, h _ _ _ _ ho g1 g2 g3⟩
theorem refMirror {a b c x y z : Int} {s : List Ob} {Q : AV → List Ob → Prop} (h : ∀ u v w o, o = (nearI a b c && nearI x y z) → u = mirI o a x (a * x + b * y + c * z) → v = mirI o b y (a * x + b * y + c * z) → w = mirI o c z (a * x + b * y + c * z) → Q (.agg [.int .i64 u, .int .i64 v, .int .i64 w]) s) : AC Try.prog 22 [.agg [.int .i64 a, .int .i64 b, .int .i64 c], .agg [.int .i64 x, .int .i64 y, .int .i64 z]] s Q := by
  refine AC_pure rfl ?_
  refine AC_body tok 12 Try.func22 rfl (by kernel_rfl) ?_
  conv => whnf
  refine refNear (fun v hv => ?_)
  conv => whnf
  rw [← hv] at h
  cases v
  · conv => whnf
    exact ⟨rfl, h _ _ _ _ rfl rfl rfl rfl⟩
  conv => whnf
  refine refNear (fun w hw => ?_)
  conv => whnf
  rw [← hw] at h
  cases w
  · conv => whnf
    exact ⟨rfl, h _ _ _ _ rfl rfl rfl rfl⟩
  conv => whnf
  try (refine AW_draw tok hP ?_; conv => whnf)
  first | refine AQ_int (fun sK QK hK => refDot6 hK) (fun d hd => ?_) | refine refDot6 (fun d hd => ?_)
  conv => whnf
  try (refine And.intro (OkD.mk (by kernel_rfl)) ?_; conv => whnf)
  conv => whnf
  have n1 := hv.symm; have n2 := hw.symm
  obtain ⟨ba, bb, bc⟩ := PV.near_iff.1 n1
  obtain ⟨bx, by', bz⟩ := PV.near_iff.1 n2
  have i1 := PV.dot_i a b c x y z
  rw [← hd] at i1
  unfold dotI at hd
  rw [if_pos ⟨n1, n2⟩] at hd
  rw [← hd] at h
  have ek : Z.mul .i64 2 d = 2 * d := Z.wrap_iid (by omega) (by omega)
  have m1 := PB.mir_b bx i1; have m2 := PB.mir_b by' i1; have m3 := PB.mir_b bz i1
  have e1 : Z.mul .i64 x (Z.mul .i64 2 d) = x * (2 * d) := by rw [ek]; exact Z.wrap_iid (by omega) (by omega)
  have e2 : Z.mul .i64 y (Z.mul .i64 2 d) = y * (2 * d) := by rw [ek]; exact Z.wrap_iid (by omega) (by omega)
  have e3 : Z.mul .i64 z (Z.mul .i64 2 d) = z * (2 * d) := by rw [ek]; exact Z.wrap_iid (by omega) (by omega)
  have ed : ∀ k : Int, divI k 268435456 = k / 268435456 := fun k => by unfold divI; rw [if_neg (by omega)]
  try (refine AW_draw tok hP ?_; conv => whnf)
  first | refine AQ_int (fun sK QK hK => refDiv (a := Z.mul .i64 x (Z.mul .i64 2 d)) (by rw [e1]; omega) (by rw [e1]; omega) hK) (fun q1 h1 => ?_) | refine refDiv (a := Z.mul .i64 x (Z.mul .i64 2 d)) (by rw [e1]; omega) (by rw [e1]; omega) (fun q1 h1 => ?_)
  conv => whnf
  try (refine And.intro (OkD.mk (by kernel_rfl)) ?_; conv => whnf)
  try (refine AW_draw tok hP ?_; conv => whnf)
  first | refine AQ_int (fun sK QK hK => refDiv (a := Z.mul .i64 y (Z.mul .i64 2 d)) (by rw [e2]; omega) (by rw [e2]; omega) hK) (fun q2 h2 => ?_) | refine refDiv (a := Z.mul .i64 y (Z.mul .i64 2 d)) (by rw [e2]; omega) (by rw [e2]; omega) (fun q2 h2 => ?_)
  conv => whnf
  try (refine And.intro (OkD.mk (by kernel_rfl)) ?_; conv => whnf)
  try (refine AW_draw tok hP ?_; conv => whnf)
  first | refine AQ_int (fun sK QK hK => refDiv (a := Z.mul .i64 z (Z.mul .i64 2 d)) (by rw [e3]; omega) (by rw [e3]; omega) hK) (fun q3 h3 => ?_) | refine refDiv (a := Z.mul .i64 z (Z.mul .i64 2 d)) (by rw [e3]; omega) (by rw [e3]; omega) (fun q3 h3 => ?_)
  conv => whnf
  try (refine And.intro (OkD.mk (by kernel_rfl)) ?_; conv => whnf)
  rw [e1, ed] at h1; rw [e2, ed] at h2; rw [e3, ed] at h3
  have s1 : Z.sub .i64 a q1 = a - q1 := Z.wrap_iid (by omega) (by omega)
  have s2 : Z.sub .i64 b q2 = b - q2 := Z.wrap_iid (by omega) (by omega)
  have s3 : Z.sub .i64 c q3 = c - q3 := Z.wrap_iid (by omega) (by omega)
  exact ⟨rfl, h _ _ _ _ rfl (by rw [s1, h1]; rfl) (by rw [s2, h2]; rfl) (by rw [s3, h3]; rfl)⟩
theorem refFacing {a b c x y z : Int} {s : List Ob} {Q : AV → List Ob → Prop} (h : ∀ u v w, u = faceI a b c x y z a → v = faceI a b c x y z b → w = faceI a b c x y z c → Q (.agg [.int .i64 u, .int .i64 v, .int .i64 w]) s) : AC Try.prog 24 [.agg [.int .i64 a, .int .i64 b, .int .i64 c], .agg [.int .i64 x, .int .i64 y, .int .i64 z]] s Q := by
  refine AC_pure rfl ?_
  refine AC_body tok 12 Try.func24 rfl (by kernel_rfl) ?_
  conv => whnf
  unfold faceI at h
  refine refNear (fun v hv => ?_)
  conv => whnf
  cases v
  · rw [← hv] at h
    conv => whnf
    exact ⟨rfl, h _ _ _ rfl rfl rfl⟩
  rw [← hv] at h
  conv => whnf
  refine refNear (fun w hw => ?_)
  conv => whnf
  cases w
  · rw [← hw] at h
    conv => whnf
    exact ⟨rfl, h _ _ _ rfl rfl rfl⟩
  rw [← hw] at h
  conv => whnf
  refine refDot6 (fun d hd => ?_)
  conv => whnf
  rw [← hd] at h
  have hg : true = true ∧ true = true := ⟨rfl, rfl⟩
  simp only at h
  obtain ⟨na, nb, nc⟩ := PV.near_iff.1 hw.symm
  generalize hB : decide ((_ : Int) > 0) = bB
  replace hB : decide (d > 0) = bB := hB
  by_cases g : d > 0
  · rw [decide_eq_true g] at hB; subst hB
    conv => whnf
    have e : ∀ k : Int, -1048576 ≤ k ∧ k ≤ 1048576 → Z.neg .i64 k = -k := fun k hk => by rw [show Z.neg .i64 k = 0 - k from Z.wrap_iid (by omega) (by omega)]; omega
    simp only [if_pos g] at h
    exact ⟨rfl, (by rw [e a na, e b nb, e c nc]; exact h _ _ _ rfl rfl rfl)⟩
  · rw [decide_eq_false g] at hB; subst hB
    conv => whnf
    simp only [if_neg g] at h
    exact ⟨rfl, h _ _ _ rfl rfl rfl⟩
theorem refNear7 {u1 u2 u3 v1 v2 v3 n1 n2 n3 : Int} {s : List Ob} {Q : AV → List Ob → Prop} (h : ∀ v, v = (nearI u1 u2 u3 && (nearI v1 v2 v3 && nearI n1 n2 n3)) → Q (.bool v) s) : AC Try.prog 54 [.agg [.int .i64 u1, .int .i64 u2, .int .i64 u3, .int .i64 v1, .int .i64 v2, .int .i64 v3, .int .i64 n1, .int .i64 n2, .int .i64 n3]] s Q := by
  refine AC_pure rfl ?_
  refine AC_body tok 12 Try.func54 rfl (by kernel_rfl) ?_
  conv => whnf
  refine refNear (fun v hv => ?_)
  conv => whnf
  rw [← hv] at h
  cases v
  · conv => whnf
    exact ⟨rfl, h _ rfl⟩
  conv => whnf
  refine refNear (fun w hw => ?_)
  conv => whnf
  rw [← hw] at h
  cases w
  · conv => whnf
    exact ⟨rfl, h _ rfl⟩
  conv => whnf
  refine refNear (fun p hp => ?_)
  conv => whnf
  rw [← hp] at h
  conv => whnf
  exact ⟨rfl, h _ rfl⟩
theorem refOut {u1 u2 u3 v1 v2 v3 n1 n2 n3 x y z : Int} {s : List Ob} {Q : AV → List Ob → Prop}
    (h : ∀ p q r b, b = nearB u1 u2 u3 v1 v2 v3 n1 n2 n3 x y z → p = outI b u1 v1 n1 x y z → q = outI b u2 v2 n2 x y z → r = outI b u3 v3 n3 x y z → Q (.agg [.int .i64 p, .int .i64 q, .int .i64 r]) s) : AC Try.prog 18 [.agg [.int .i64 u1, .int .i64 u2, .int .i64 u3, .int .i64 v1, .int .i64 v2, .int .i64 v3, .int .i64 n1, .int .i64 n2, .int .i64 n3], .agg [.int .i64 x, .int .i64 y, .int .i64 z]] s Q := by
  refine AC_pure rfl ?_
  refine AC_body tok 12 Try.func18 rfl (by kernel_rfl) ?_
  conv => whnf
  unfold nearB at h
  have assoc : ∀ a b c d : Bool, (a && (b && (c && d))) = ((a && (b && c)) && d) := by decide
  rw [assoc] at h
  refine refNear7 (fun v hv => ?_)
  conv => whnf
  rw [← hv] at h
  cases v
  · conv => whnf
    exact ⟨rfl, h _ _ _ _ rfl rfl rfl rfl⟩
  conv => whnf
  refine refNear (fun w hw => ?_)
  conv => whnf
  rw [← hw] at h
  cases w
  · conv => whnf
    exact ⟨rfl, h _ _ _ _ rfl rfl rfl rfl⟩
  conv => whnf
  have hv' := hv.symm
  rw [Bool.and_eq_true, Bool.and_eq_true] at hv'
  obtain ⟨nu, nv, nn⟩ := hv'
  obtain ⟨bu1, bu2, bu3⟩ := PV.near_iff.1 nu
  obtain ⟨bv1, bv2, bv3⟩ := PV.near_iff.1 nv
  obtain ⟨bn1, bn2, bn3⟩ := PV.near_iff.1 nn
  have ed : ∀ k : Int, divI k 16384 = k / 16384 := fun k => by unfold divI; rw [if_neg (by omega)]
  have f1 : dotI u1 v1 n1 x y z = u1 * x + v1 * y + n1 * z := by unfold dotI; exact if_pos ⟨PV.near_iff.2 ⟨bu1, bv1, bn1⟩, hw.symm⟩
  have f2 : dotI u2 v2 n2 x y z = u2 * x + v2 * y + n2 * z := by unfold dotI; exact if_pos ⟨PV.near_iff.2 ⟨bu2, bv2, bn2⟩, hw.symm⟩
  have f3 : dotI u3 v3 n3 x y z = u3 * x + v3 * y + n3 * z := by unfold dotI; exact if_pos ⟨PV.near_iff.2 ⟨bu3, bv3, bn3⟩, hw.symm⟩
  have i1 := PV.dot_i u1 v1 n1 x y z; have i2 := PV.dot_i u2 v2 n2 x y z; have i3 := PV.dot_i u3 v3 n3 x y z
  try (refine AW_draw tok hP ?_; conv => whnf)
  first | refine AQ_int (fun sK QK hK => refDot6 hK) (fun d1 h1 => ?_) | refine refDot6 (fun d1 h1 => ?_)
  conv => whnf
  try (refine And.intro (OkD.mk (by kernel_rfl)) ?_; conv => whnf)
  try (refine AW_draw tok hP ?_; conv => whnf)
  first | refine AQ_int (fun sK QK hK => refDot6 hK) (fun d2 h2 => ?_) | refine refDot6 (fun d2 h2 => ?_)
  conv => whnf
  try (refine And.intro (OkD.mk (by kernel_rfl)) ?_; conv => whnf)
  try (refine AW_draw tok hP ?_; conv => whnf)
  first | refine AQ_int (fun sK QK hK => refDot6 hK) (fun d3 h3 => ?_) | refine refDot6 (fun d3 h3 => ?_)
  conv => whnf
  try (refine And.intro (OkD.mk (by kernel_rfl)) ?_; conv => whnf)
  try (refine AW_draw tok hP ?_; conv => whnf)
  first | refine AQ_int (fun sK QK hK => refDiv (a := d1) (by omega) (by omega) hK) (fun q1 g1 => ?_) | refine refDiv (a := d1) (by omega) (by omega) (fun q1 g1 => ?_)
  conv => whnf
  try (refine And.intro (OkD.mk (by kernel_rfl)) ?_; conv => whnf)
  try (refine AW_draw tok hP ?_; conv => whnf)
  first | refine AQ_int (fun sK QK hK => refDiv (a := d2) (by omega) (by omega) hK) (fun q2 g2 => ?_) | refine refDiv (a := d2) (by omega) (by omega) (fun q2 g2 => ?_)
  conv => whnf
  try (refine And.intro (OkD.mk (by kernel_rfl)) ?_; conv => whnf)
  try (refine AW_draw tok hP ?_; conv => whnf)
  first | refine AQ_int (fun sK QK hK => refDiv (a := d3) (by omega) (by omega) hK) (fun q3 g3 => ?_) | refine refDiv (a := d3) (by omega) (by omega) (fun q3 g3 => ?_)
  conv => whnf
  try (refine And.intro (OkD.mk (by kernel_rfl)) ?_; conv => whnf)
  exact ⟨rfl, h _ _ _ _ rfl (by rw [g1, ed, h1, f1]; rfl) (by rw [g2, ed, h2, f2]; rfl) (by rw [g3, ed, h3, f3]; rfl)⟩
theorem refIn {u1 u2 u3 v1 v2 v3 n1 n2 n3 x y z : Int} {s : List Ob} {Q : AV → List Ob → Prop}
    (h : ∀ p q r b, b = nearB u1 u2 u3 v1 v2 v3 n1 n2 n3 x y z → p = outI b u1 u2 u3 x y z → q = outI b v1 v2 v3 x y z → r = outI b n1 n2 n3 x y z → Q (.agg [.int .i64 p, .int .i64 q, .int .i64 r]) s) : AC Try.prog 20 [.agg [.int .i64 u1, .int .i64 u2, .int .i64 u3, .int .i64 v1, .int .i64 v2, .int .i64 v3, .int .i64 n1, .int .i64 n2, .int .i64 n3], .agg [.int .i64 x, .int .i64 y, .int .i64 z]] s Q := by
  refine AC_pure rfl ?_
  refine AC_body tok 12 Try.func20 rfl (by kernel_rfl) ?_
  conv => whnf
  unfold nearB at h
  have assoc : ∀ a b c d : Bool, (a && (b && (c && d))) = ((a && (b && c)) && d) := by decide
  rw [assoc] at h
  refine refNear7 (fun v hv => ?_)
  conv => whnf
  rw [← hv] at h
  cases v
  · conv => whnf
    exact ⟨rfl, h _ _ _ _ rfl rfl rfl rfl⟩
  conv => whnf
  refine refNear (fun w hw => ?_)
  conv => whnf
  rw [← hw] at h
  cases w
  · conv => whnf
    exact ⟨rfl, h _ _ _ _ rfl rfl rfl rfl⟩
  conv => whnf
  have hv' := hv.symm
  rw [Bool.and_eq_true, Bool.and_eq_true] at hv'
  obtain ⟨nu, nv, nn⟩ := hv'
  have ed : ∀ k : Int, divI k 16384 = k / 16384 := fun k => by unfold divI; rw [if_neg (by omega)]
  have f1 : dotI x y z u1 u2 u3 = u1 * x + u2 * y + u3 * z := by unfold dotI; rw [if_pos ⟨hw.symm, nu⟩, Int.mul_comm x, Int.mul_comm y, Int.mul_comm z]
  have f2 : dotI x y z v1 v2 v3 = v1 * x + v2 * y + v3 * z := by unfold dotI; rw [if_pos ⟨hw.symm, nv⟩, Int.mul_comm x, Int.mul_comm y, Int.mul_comm z]
  have f3 : dotI x y z n1 n2 n3 = n1 * x + n2 * y + n3 * z := by unfold dotI; rw [if_pos ⟨hw.symm, nn⟩, Int.mul_comm x, Int.mul_comm y, Int.mul_comm z]
  have i1 := PV.dot_i x y z u1 u2 u3; have i2 := PV.dot_i x y z v1 v2 v3; have i3 := PV.dot_i x y z n1 n2 n3
  try (refine AW_draw tok hP ?_; conv => whnf)
  first | refine AQ_int (fun sK QK hK => refDot6 hK) (fun d1 h1 => ?_) | refine refDot6 (fun d1 h1 => ?_)
  conv => whnf
  try (refine And.intro (OkD.mk (by kernel_rfl)) ?_; conv => whnf)
  try (refine AW_draw tok hP ?_; conv => whnf)
  first | refine AQ_int (fun sK QK hK => refDiv (a := d1) (by omega) (by omega) hK) (fun q1 g1 => ?_) | refine refDiv (a := d1) (by omega) (by omega) (fun q1 g1 => ?_)
  conv => whnf
  try (refine And.intro (OkD.mk (by kernel_rfl)) ?_; conv => whnf)
  try (refine AW_draw tok hP ?_; conv => whnf)
  first | refine AQ_int (fun sK QK hK => refDot6 hK) (fun d2 h2 => ?_) | refine refDot6 (fun d2 h2 => ?_)
  conv => whnf
  try (refine And.intro (OkD.mk (by kernel_rfl)) ?_; conv => whnf)
  try (refine AW_draw tok hP ?_; conv => whnf)
  first | refine AQ_int (fun sK QK hK => refDiv (a := d2) (by omega) (by omega) hK) (fun q2 g2 => ?_) | refine refDiv (a := d2) (by omega) (by omega) (fun q2 g2 => ?_)
  conv => whnf
  try (refine And.intro (OkD.mk (by kernel_rfl)) ?_; conv => whnf)
  try (refine AW_draw tok hP ?_; conv => whnf)
  first | refine AQ_int (fun sK QK hK => refDot6 hK) (fun d3 h3 => ?_) | refine refDot6 (fun d3 h3 => ?_)
  conv => whnf
  try (refine And.intro (OkD.mk (by kernel_rfl)) ?_; conv => whnf)
  try (refine AW_draw tok hP ?_; conv => whnf)
  first | refine AQ_int (fun sK QK hK => refDiv (a := d3) (by omega) (by omega) hK) (fun q3 g3 => ?_) | refine refDiv (a := d3) (by omega) (by omega) (fun q3 g3 => ?_)
  conv => whnf
  try (refine And.intro (OkD.mk (by kernel_rfl)) ?_; conv => whnf)
  exact ⟨rfl, h _ _ _ _ rfl (by rw [g1, ed, h1, f1]; rfl) (by rw [g2, ed, h2, f2]; rfl) (by rw [g3, ed, h3, f3]; rfl)⟩
theorem basisOutC {u1 u2 u3 v1 v2 v3 n1 n2 n3 x y z : Int} (hu1 : I64 u1) (hu2 : I64 u2) (hu3 : I64 u3) (hv1 : I64 v1) (hv2 : I64 v2) (hv3 : I64 v3) (hn1 : I64 n1) (hn2 : I64 n2) (hn3 : I64 n3) (hx : I64 x) (hy : I64 y) (hz : I64 z) {s : List Ob} {Q : AV → List Ob → Prop}
    (h : ∀ p q r, p = outI (nearB u1 u2 u3 v1 v2 v3 n1 n2 n3 x y z) u1 v1 n1 x y z → q = outI (nearB u1 u2 u3 v1 v2 v3 n1 n2 n3 x y z) u2 v2 n2 x y z → r = outI (nearB u1 u2 u3 v1 v2 v3 n1 n2 n3 x y z) u3 v3 n3 x y z → Q (.agg [.int .i64 p, .int .i64 q, .int .i64 r]) s) : AC Try.prog 17 [.agg [.int .i64 u1, .int .i64 u2, .int .i64 u3, .int .i64 v1, .int .i64 v2, .int .i64 v3, .int .i64 n1, .int .i64 n2, .int .i64 n3], .agg [.int .i64 x, .int .i64 y, .int .i64 z]] s Q :=
  basisOut hu1 hu2 hu3 hv1 hv2 hv3 hn1 hn2 hn3 hx hy hz (fun p q r b hb h1 h2 h3 => h p q r (by rw [h1, hb]) (by rw [h2, hb]) (by rw [h3, hb]))
theorem basisInC {u1 u2 u3 v1 v2 v3 n1 n2 n3 x y z : Int} (hu1 : I64 u1) (hu2 : I64 u2) (hu3 : I64 u3) (hv1 : I64 v1) (hv2 : I64 v2) (hv3 : I64 v3) (hn1 : I64 n1) (hn2 : I64 n2) (hn3 : I64 n3) (hx : I64 x) (hy : I64 y) (hz : I64 z) {s : List Ob} {Q : AV → List Ob → Prop}
    (h : ∀ p q r, p = outI (nearB u1 u2 u3 v1 v2 v3 n1 n2 n3 x y z) u1 u2 u3 x y z → q = outI (nearB u1 u2 u3 v1 v2 v3 n1 n2 n3 x y z) v1 v2 v3 x y z → r = outI (nearB u1 u2 u3 v1 v2 v3 n1 n2 n3 x y z) n1 n2 n3 x y z → Q (.agg [.int .i64 p, .int .i64 q, .int .i64 r]) s) : AC Try.prog 19 [.agg [.int .i64 u1, .int .i64 u2, .int .i64 u3, .int .i64 v1, .int .i64 v2, .int .i64 v3, .int .i64 n1, .int .i64 n2, .int .i64 n3], .agg [.int .i64 x, .int .i64 y, .int .i64 z]] s Q :=
  basisIn hu1 hu2 hu3 hv1 hv2 hv3 hn1 hn2 hn3 hx hy hz (fun p q r b hb h1 h2 h3 => h p q r (by rw [h1, hb]) (by rw [h2, hb]) (by rw [h3, hb]))
theorem refOutC {u1 u2 u3 v1 v2 v3 n1 n2 n3 x y z : Int}  {s : List Ob} {Q : AV → List Ob → Prop}
    (h : ∀ p q r, p = outI (nearB u1 u2 u3 v1 v2 v3 n1 n2 n3 x y z) u1 v1 n1 x y z → q = outI (nearB u1 u2 u3 v1 v2 v3 n1 n2 n3 x y z) u2 v2 n2 x y z → r = outI (nearB u1 u2 u3 v1 v2 v3 n1 n2 n3 x y z) u3 v3 n3 x y z → Q (.agg [.int .i64 p, .int .i64 q, .int .i64 r]) s) : AC Try.prog 18 [.agg [.int .i64 u1, .int .i64 u2, .int .i64 u3, .int .i64 v1, .int .i64 v2, .int .i64 v3, .int .i64 n1, .int .i64 n2, .int .i64 n3], .agg [.int .i64 x, .int .i64 y, .int .i64 z]] s Q :=
  refOut  (fun p q r b hb h1 h2 h3 => h p q r (by rw [h1, hb]) (by rw [h2, hb]) (by rw [h3, hb]))
theorem refInC {u1 u2 u3 v1 v2 v3 n1 n2 n3 x y z : Int}  {s : List Ob} {Q : AV → List Ob → Prop}
    (h : ∀ p q r, p = outI (nearB u1 u2 u3 v1 v2 v3 n1 n2 n3 x y z) u1 u2 u3 x y z → q = outI (nearB u1 u2 u3 v1 v2 v3 n1 n2 n3 x y z) v1 v2 v3 x y z → r = outI (nearB u1 u2 u3 v1 v2 v3 n1 n2 n3 x y z) n1 n2 n3 x y z → Q (.agg [.int .i64 p, .int .i64 q, .int .i64 r]) s) : AC Try.prog 20 [.agg [.int .i64 u1, .int .i64 u2, .int .i64 u3, .int .i64 v1, .int .i64 v2, .int .i64 v3, .int .i64 n1, .int .i64 n2, .int .i64 n3], .agg [.int .i64 x, .int .i64 y, .int .i64 z]] s Q :=
  refIn  (fun p q r b hb h1 h2 h3 => h p q r (by rw [h1, hb]) (by rw [h2, hb]) (by rw [h3, hb]))
theorem basisMirrorC {a b c x y z : Int} (ha : I64 a) (hb : I64 b) (hc : I64 c) (hx : I64 x) (hy : I64 y) (hz : I64 z) {s : List Ob} {Q : AV → List Ob → Prop} (h : ∀ u v w, u = mirI (nearI a b c && nearI x y z) a x (a * x + b * y + c * z) → v = mirI (nearI a b c && nearI x y z) b y (a * x + b * y + c * z) → w = mirI (nearI a b c && nearI x y z) c z (a * x + b * y + c * z) → Q (.agg [.int .i64 u, .int .i64 v, .int .i64 w]) s) : AC Try.prog 21 [.agg [.int .i64 a, .int .i64 b, .int .i64 c], .agg [.int .i64 x, .int .i64 y, .int .i64 z]] s Q :=
  basisMirror ha hb hc hx hy hz (fun u v w o ho h1 h2 h3 => h u v w (by rw [h1, ho]) (by rw [h2, ho]) (by rw [h3, ho]))
theorem refMirrorC {a b c x y z : Int}  {s : List Ob} {Q : AV → List Ob → Prop} (h : ∀ u v w, u = mirI (nearI a b c && nearI x y z) a x (a * x + b * y + c * z) → v = mirI (nearI a b c && nearI x y z) b y (a * x + b * y + c * z) → w = mirI (nearI a b c && nearI x y z) c z (a * x + b * y + c * z) → Q (.agg [.int .i64 u, .int .i64 v, .int .i64 w]) s) : AC Try.prog 22 [.agg [.int .i64 a, .int .i64 b, .int .i64 c], .agg [.int .i64 x, .int .i64 y, .int .i64 z]] s Q :=
  refMirror  (fun u v w o ho h1 h2 h3 => h u v w (by rw [h1, ho]) (by rw [h2, ho]) (by rw [h3, ho]))
