/- Part of the proof of a law of the seat: its functions, walked. No condition. -/
import Derived.Test.YtabnlimfmfmkmaaA8Basis2
import Derived.Test.YtabnlimfmfmkmaaA8TrigRef
import Derived.Test.YtabnlimfmfmkmaaPSpread
namespace Go.AW.A8
open Go Go.AW Go.Proofs
set_option maxRecDepth 100000
set_option linter.unusedVariables false
theorem spreadLegs {q : Int} (h0 : 0 ≤ q) (h1 : q ≤ 268435456) {s : List Ob} {Q : AV → List Ob → Prop} (h : ∀ v, v = legsI q → Q (.int .i64 v) s) : AC Try.prog 61 [.int .i64 q] s Q := by
  refine AC_pure rfl ?_
  refine AC_body tok 3 Try.func61 rfl (by kernel_rfl) ?_
  conv => whnf
  have e1 : Z.sub .i64 268435456 q = 268435456 - q := Z.wrap_iid (by omega) (by omega)
  have e2 : IntKind.u64.wrap (Z.sub .i64 268435456 q) = 268435456 - q := by rw [e1]; exact Z.wrap_uid (by omega) (by omega)
  rw [e2]
  refine numRoot (by omega) (by omega) (fun v hv => ?_)
  conv => whnf
  exact ⟨rfl, h _ hv⟩
theorem spreadRing {r k : Int} (hk : I64 k) {s : List Ob} {Q : AV → List Ob → Prop} (h : ∀ u v, u = ringC r k → v = ringS r k → Q (.tup [.int .i64 u, .int .i64 v]) s) : AC Try.prog 30 [.int .i64 r, .int .i64 k] s Q := by
  refine AC_pure rfl ?_
  refine AC_body tok 3 Try.func30 rfl (by kernel_rfl) ?_
  conv => whnf
  have no : ¬ (0 ≤ r ∧ r ≤ 16384) → Q (.tup [.int .i64 0, .int .i64 0]) s := fun g => h _ _ (by unfold ringC; rw [if_neg g]) (by unfold ringS; rw [if_neg g])
  generalize hB : decide ((_ : Int) < 0) = bB
  replace hB : decide (r < 0) = bB := hB
  by_cases g1 : r < 0
  · rw [decide_eq_true g1] at hB; subst hB
    conv => whnf
    exact ⟨rfl, no (by omega)⟩
  rw [decide_eq_false g1] at hB; subst hB
  conv => whnf
  generalize hB : decide ((_ : Int) > 16384) = bB
  replace hB : decide (r > 16384) = bB := hB
  by_cases g2 : r > 16384
  · rw [decide_eq_true g2] at hB; subst hB
    conv => whnf
    exact ⟨rfl, no (by omega)⟩
  rw [decide_eq_false g2] at hB; subst hB
  conv => whnf
  unfold ringC ringS at h
  rw [if_pos ⟨by omega, by omega⟩, if_pos ⟨by omega, by omega⟩] at h
  try (refine AW_draw tok hP ?_; conv => whnf)
  first | refine AQ_two (fun sK QK hK => trigBoth hk hK) (fun c sn hc hs => ?_) | refine trigBoth hk (fun c sn hc hs => ?_)
  conv => whnf
  try (refine And.intro (OkD.mk (by kernel_rfl)) ?_; conv => whnf)
  have b1 := PT.cos_le k; have b2 := PT.sin_le k
  rw [← hc] at b1 h; rw [← hs] at b2 h
  have m1 := PS.mul_b b1 (r := r) (by omega); have m2 := PS.mul_b b2 (r := r) (by omega)
  have e1 : Z.mul .i64 c r = c * r := Z.wrap_iid (by omega) (by omega)
  have e2 : Z.mul .i64 sn r = sn * r := Z.wrap_iid (by omega) (by omega)
  have ed : ∀ k : Int, divI k 16384 = k / 16384 := fun k => by unfold divI; rw [if_neg (by omega)]
  try (refine AW_draw tok hP ?_; conv => whnf)
  first | refine AQ_int (fun sK QK hK => numDiv (a := Z.mul .i64 c r) (by rw [e1]; omega) (by rw [e1]; omega) hK) (fun q1 h1 => ?_) | refine numDiv (a := Z.mul .i64 c r) (by rw [e1]; omega) (by rw [e1]; omega) (fun q1 h1 => ?_)
  conv => whnf
  try (refine And.intro (OkD.mk (by kernel_rfl)) ?_; conv => whnf)
  try (refine AW_draw tok hP ?_; conv => whnf)
  first | refine AQ_int (fun sK QK hK => numDiv (a := Z.mul .i64 sn r) (by rw [e2]; omega) (by rw [e2]; omega) hK) (fun q2 h2 => ?_) | refine numDiv (a := Z.mul .i64 sn r) (by rw [e2]; omega) (by rw [e2]; omega) (fun q2 h2 => ?_)
  conv => whnf
  try (refine And.intro (OkD.mk (by kernel_rfl)) ?_; conv => whnf)
  exact ⟨rfl, h _ _ (by rw [h1, ed, e1]) (by rw [h2, ed, e2])⟩
theorem refRing {r k : Int} (hk : I64 k) {s : List Ob} {Q : AV → List Ob → Prop} (h : ∀ u v, u = ringC r k → v = ringS r k → Q (.tup [.int .i64 u, .int .i64 v]) s) : AC Try.prog 31 [.int .i64 r, .int .i64 k] s Q := by
  refine AC_pure rfl ?_
  refine AC_body tok 3 Try.func31 rfl (by kernel_rfl) ?_
  conv => whnf
  have no : ¬ (0 ≤ r ∧ r ≤ 16384) → Q (.tup [.int .i64 0, .int .i64 0]) s := fun g => h _ _ (by unfold ringC; rw [if_neg g]) (by unfold ringS; rw [if_neg g])
  generalize hB : decide ((_ : Int) < 0) = bB
  replace hB : decide (r < 0) = bB := hB
  by_cases g1 : r < 0
  · rw [decide_eq_true g1] at hB; subst hB
    conv => whnf
    exact ⟨rfl, no (by omega)⟩
  rw [decide_eq_false g1] at hB; subst hB
  conv => whnf
  generalize hB : decide ((_ : Int) > 16384) = bB
  replace hB : decide (r > 16384) = bB := hB
  by_cases g2 : r > 16384
  · rw [decide_eq_true g2] at hB; subst hB
    conv => whnf
    exact ⟨rfl, no (by omega)⟩
  rw [decide_eq_false g2] at hB; subst hB
  conv => whnf
  unfold ringC ringS at h
  rw [if_pos ⟨by omega, by omega⟩, if_pos ⟨by omega, by omega⟩] at h
  have b1 := PT.cos_le k; have b2 := PT.sin_le k
  have m1 := PS.mul_b b1 (r := r) (by omega); have m2 := PS.mul_b b2 (r := r) (by omega)
  have ed : ∀ k : Int, divI k 16384 = k / 16384 := fun k => by unfold divI; rw [if_neg (by omega)]
  try (refine AW_draw tok hP ?_; conv => whnf)
  first | refine AQ_int (fun sK QK hK => refCos hk hK) (fun c hc => ?_) | refine refCos hk (fun c hc => ?_)
  conv => whnf
  try (refine And.intro (OkD.mk (by kernel_rfl)) ?_; conv => whnf)
  rw [← hc] at m1 h
  have e1 : Z.mul .i64 c r = c * r := Z.wrap_iid (by omega) (by omega)
  try (refine AW_draw tok hP ?_; conv => whnf)
  first | refine AQ_int (fun sK QK hK => refDiv (a := Z.mul .i64 c r) (by rw [e1]; omega) (by rw [e1]; omega) hK) (fun q1 h1 => ?_) | refine refDiv (a := Z.mul .i64 c r) (by rw [e1]; omega) (by rw [e1]; omega) (fun q1 h1 => ?_)
  conv => whnf
  try (refine And.intro (OkD.mk (by kernel_rfl)) ?_; conv => whnf)
  try (refine AW_draw tok hP ?_; conv => whnf)
  first | refine AQ_int (fun sK QK hK => refSin hk hK) (fun sn hs => ?_) | refine refSin hk (fun sn hs => ?_)
  conv => whnf
  try (refine And.intro (OkD.mk (by kernel_rfl)) ?_; conv => whnf)
  rw [← hs] at m2 h
  have e2 : Z.mul .i64 sn r = sn * r := Z.wrap_iid (by omega) (by omega)
  try (refine AW_draw tok hP ?_; conv => whnf)
  first | refine AQ_int (fun sK QK hK => refDiv (a := Z.mul .i64 sn r) (by rw [e2]; omega) (by rw [e2]; omega) hK) (fun q2 h2 => ?_) | refine refDiv (a := Z.mul .i64 sn r) (by rw [e2]; omega) (by rw [e2]; omega) (fun q2 h2 => ?_)
  conv => whnf
  try (refine And.intro (OkD.mk (by kernel_rfl)) ?_; conv => whnf)
  exact ⟨rfl, h _ _ (by rw [h1, ed, e1]) (by rw [h2, ed, e2])⟩
theorem spreadDisc {u k : Int} (hu : I64 u) (hk : I64 k) {s : List Ob} {Q : AV → List Ob → Prop} (h : ∀ x y, x = ringC (discR u) k → y = ringS (discR u) k → Q (.tup [.int .i64 x, .int .i64 y]) s) : AC Try.prog 27 [.int .i64 u, .int .i64 k] s Q := by
  refine AC_pure rfl ?_
  refine AC_body tok 3 Try.func27 rfl (by kernel_rfl) ?_
  conv => whnf
  try (refine AW_draw tok hP ?_; conv => whnf)
  first | refine AQ_int (fun sK QK hK => numMod hu.1 hu.2 (by omega) hK) (fun m hm => ?_) | refine numMod hu.1 hu.2 (by omega) (fun m hm => ?_)
  conv => whnf
  try (refine And.intro (OkD.mk (by kernel_rfl)) ?_; conv => whnf)
  rw [PT.mod_w] at hm
  have e1 : Z.mul .i64 m 4096 = m * 4096 := Z.wrap_iid (by omega) (by omega)
  have e2 : IntKind.u64.wrap (Z.mul .i64 m 4096) = m * 4096 := by rw [e1]; exact Z.wrap_uid (by omega) (by omega)
  rw [e2]
  try (refine AW_draw tok hP ?_; conv => whnf)
  first | refine AQ_int (fun sK QK hK => numRoot (by omega) (by omega) hK) (fun r hr => ?_) | refine numRoot (by omega) (by omega) (fun r hr => ?_)
  conv => whnf
  try (refine And.intro (OkD.mk (by kernel_rfl)) ?_; conv => whnf)
  replace hr : r = discR u := by rw [hr, hm]; rfl
  try (refine AW_draw tok hP ?_; conv => whnf)
  first | refine AQ_two (fun sK QK hK => spreadRing hk hK) (fun c sn hc hs => ?_) | refine spreadRing hk (fun c sn hc hs => ?_)
  conv => whnf
  try (refine And.intro (OkD.mk (by kernel_rfl)) ?_; conv => whnf)
  exact ⟨rfl, h _ _ (by rw [hc, hr]) (by rw [hs, hr])⟩
theorem refDisc {u k : Int} (hu : I64 u) (hk : I64 k) {s : List Ob} {Q : AV → List Ob → Prop} (h : ∀ x y, x = ringC (discR u) k → y = ringS (discR u) k → Q (.tup [.int .i64 x, .int .i64 y]) s) : AC Try.prog 32 [.int .i64 u, .int .i64 k] s Q := by
  refine AC_pure rfl ?_
  refine AC_body tok 3 Try.func32 rfl (by kernel_rfl) ?_
  conv => whnf
  try (refine AW_draw tok hP ?_; conv => whnf)
  first | refine AQ_int (fun sK QK hK => refMod hu.1 hu.2 (by omega) hK) (fun m hm => ?_) | refine refMod hu.1 hu.2 (by omega) (fun m hm => ?_)
  conv => whnf
  try (refine And.intro (OkD.mk (by kernel_rfl)) ?_; conv => whnf)
  rw [PT.mod_w] at hm
  have e1 : Z.mul .i64 m 4096 = m * 4096 := Z.wrap_iid (by omega) (by omega)
  have e2 : IntKind.u64.wrap (Z.mul .i64 m 4096) = m * 4096 := by rw [e1]; exact Z.wrap_uid (by omega) (by omega)
  rw [e2]
  try (refine AW_draw tok hP ?_; conv => whnf)
  first | refine AQ_int (fun sK QK hK => refRoot (by omega) (by omega) hK) (fun r hr => ?_) | refine refRoot (by omega) (by omega) (fun r hr => ?_)
  conv => whnf
  try (refine And.intro (OkD.mk (by kernel_rfl)) ?_; conv => whnf)
  replace hr : r = discR u := by rw [hr, hm]; rfl
  try (refine AW_draw tok hP ?_; conv => whnf)
  first | refine AQ_two (fun sK QK hK => refRing hk hK) (fun c sn hc hs => ?_) | refine refRing hk (fun c sn hc hs => ?_)
  conv => whnf
  try (refine And.intro (OkD.mk (by kernel_rfl)) ?_; conv => whnf)
  exact ⟨rfl, h _ _ (by rw [hc, hr]) (by rw [hs, hr])⟩
theorem spreadUp {z k : Int} (hz : I64 z) (hk : I64 k) {s : List Ob} {Q : AV → List Ob → Prop} (h : ∀ u v w, (u, v, w) = upI z k → Q (.agg [.int .i64 u, .int .i64 v, .int .i64 w]) s) : AC Try.prog 28 [.int .i64 z, .int .i64 k] s Q := by
  refine AC_pure rfl ?_
  refine AC_body tok 3 Try.func28 rfl (by kernel_rfl) ?_
  conv => whnf
  unfold upI at h
  generalize hB : decide ((_ : Int) < -16384) = bB
  replace hB : decide (z < -16384) = bB := hB
  by_cases g1 : z < -16384
  · rw [decide_eq_true g1] at hB; subst hB
    conv => whnf
    exact ⟨rfl, h _ _ _ (by rw [if_neg (by omega)])⟩
  rw [decide_eq_false g1] at hB; subst hB
  conv => whnf
  generalize hB : decide ((_ : Int) > 16384) = bB
  replace hB : decide (z > 16384) = bB := hB
  by_cases g2 : z > 16384
  · rw [decide_eq_true g2] at hB; subst hB
    conv => whnf
    exact ⟨rfl, h _ _ _ (by rw [if_neg (by omega)])⟩
  rw [decide_eq_false g2] at hB; subst hB
  conv => whnf
  rw [if_pos ⟨by omega, by omega⟩] at h
  have b := PS.sq_b (z := z) ⟨by omega, by omega⟩
  have e1 : Z.mul .i64 z z = z * z := Z.wrap_iid (by omega) (by omega)
  refine spreadLegs (q := Z.mul .i64 z z) (by rw [e1]; omega) (by rw [e1]; omega) (fun l hl => ?_)
  conv => whnf
  rw [e1] at hl
  rw [← hl] at h
  refine spreadRing hk (fun c sn hc hs => ?_)
  conv => whnf
  rw [← hc, ← hs] at h
  exact ⟨rfl, h _ _ _ rfl⟩
theorem refUp {z k : Int} (hz : I64 z) (hk : I64 k) {s : List Ob} {Q : AV → List Ob → Prop} (h : ∀ u v w, (u, v, w) = upI z k → Q (.agg [.int .i64 u, .int .i64 v, .int .i64 w]) s) : AC Try.prog 33 [.int .i64 z, .int .i64 k] s Q := by
  refine AC_pure rfl ?_
  refine AC_body tok 3 Try.func33 rfl (by kernel_rfl) ?_
  conv => whnf
  unfold upI at h
  generalize hB : decide ((_ : Int) < -16384) = bB
  replace hB : decide (z < -16384) = bB := hB
  by_cases g1 : z < -16384
  · rw [decide_eq_true g1] at hB; subst hB
    conv => whnf
    exact ⟨rfl, h _ _ _ (by rw [if_neg (by omega)])⟩
  rw [decide_eq_false g1] at hB; subst hB
  conv => whnf
  generalize hB : decide ((_ : Int) > 16384) = bB
  replace hB : decide (z > 16384) = bB := hB
  by_cases g2 : z > 16384
  · rw [decide_eq_true g2] at hB; subst hB
    conv => whnf
    exact ⟨rfl, h _ _ _ (by rw [if_neg (by omega)])⟩
  rw [decide_eq_false g2] at hB; subst hB
  conv => whnf
  rw [if_pos ⟨by omega, by omega⟩] at h
  have b := PS.sq_b (z := z) ⟨by omega, by omega⟩
  have e1 : Z.mul .i64 z z = z * z := Z.wrap_iid (by omega) (by omega)
  have e2 : Z.sub .i64 268435456 (Z.mul .i64 z z) = 268435456 - z * z := by rw [e1]; exact Z.wrap_iid (by omega) (by omega)
  have e3 : IntKind.u64.wrap (Z.sub .i64 268435456 (Z.mul .i64 z z)) = 268435456 - z * z := by rw [e2]; exact Z.wrap_uid (by omega) (by omega)
  rw [e3]
  refine refRoot (by omega) (by omega) (fun l hl => ?_)
  conv => whnf
  replace hl : l = legsI (z * z) := hl
  rw [← hl] at h
  refine refRing hk (fun c sn hc hs => ?_)
  conv => whnf
  rw [← hc, ← hs] at h
  exact ⟨rfl, h _ _ _ rfl⟩
theorem spreadSphere {u k : Int} (hu : I64 u) (hk : I64 k) {s : List Ob} {Q : AV → List Ob → Prop} (h : ∀ x y z, (x, y, z) = sphI u k → Q (.agg [.int .i64 x, .int .i64 y, .int .i64 z]) s) : AC Try.prog 26 [.int .i64 u, .int .i64 k] s Q := by
  refine AC_pure rfl ?_
  refine AC_body tok 3 Try.func26 rfl (by kernel_rfl) ?_
  conv => whnf
  try (refine AW_draw tok hP ?_; conv => whnf)
  first | refine AQ_int (fun sK QK hK => numMod hu.1 hu.2 (by omega) hK) (fun m hm => ?_) | refine numMod hu.1 hu.2 (by omega) (fun m hm => ?_)
  conv => whnf
  try (refine And.intro (OkD.mk (by kernel_rfl)) ?_; conv => whnf)
  rw [PT.mod_w] at hm
  have e1 : Z.shr .i64 m 1 = m / 2 := by rw [Z.shr_eq 1 rfl]; rfl
  have e2 : Z.sub .i64 16384 (Z.shr .i64 m 1) = 16384 - u % 65536 / 2 := by rw [e1, hm]; exact Z.wrap_iid (by omega) (by omega)
  rw [e2]
  refine spreadUp (by unfold I64; omega) hk (fun a b c e => ?_)
  conv => whnf
  exact ⟨rfl, h _ _ _ e⟩
theorem refSphere {u k : Int} (hu : I64 u) (hk : I64 k) {s : List Ob} {Q : AV → List Ob → Prop} (h : ∀ x y z, (x, y, z) = sphI u k → Q (.agg [.int .i64 x, .int .i64 y, .int .i64 z]) s) : AC Try.prog 34 [.int .i64 u, .int .i64 k] s Q := by
  refine AC_pure rfl ?_
  refine AC_body tok 3 Try.func34 rfl (by kernel_rfl) ?_
  conv => whnf
  try (refine AW_draw tok hP ?_; conv => whnf)
  first | refine AQ_int (fun sK QK hK => refMod hu.1 hu.2 (by omega) hK) (fun m hm => ?_) | refine refMod hu.1 hu.2 (by omega) (fun m hm => ?_)
  conv => whnf
  try (refine And.intro (OkD.mk (by kernel_rfl)) ?_; conv => whnf)
  rw [PT.mod_w] at hm
  try (refine AW_draw tok hP ?_; conv => whnf)
  first | refine AQ_int (fun sK QK hK => refDiv (by omega) (by omega) hK) (fun d hd => ?_) | refine refDiv (by omega) (by omega) (fun d hd => ?_)
  conv => whnf
  try (refine And.intro (OkD.mk (by kernel_rfl)) ?_; conv => whnf)
  have e1 : d = m / 2 := by rw [hd]; unfold divI; rw [if_neg (by omega)]
  have e2 : Z.sub .i64 16384 d = 16384 - u % 65536 / 2 := by rw [e1, hm]; exact Z.wrap_iid (by omega) (by omega)
  rw [e2]
  refine refUp (by unfold I64; omega) hk (fun a b c e => ?_)
  conv => whnf
  exact ⟨rfl, h _ _ _ e⟩
theorem refAbout {x y z a b c : Int} (hx : I64 x) (hy : I64 y) (hz : I64 z) (ha : -16384 ≤ a ∧ a ≤ 16384) (hb : -16384 ≤ b ∧ b ≤ 16384) (hc : -16384 ≤ c ∧ c ≤ 16384) {s : List Ob} {Q : AV → List Ob → Prop} (h : ∀ u v w, (u, v, w) = aboutI x y z (a, b, c) → Q (.agg [.int .i64 u, .int .i64 v, .int .i64 w]) s) : AC Try.prog 69 [.agg [.int .i64 x, .int .i64 y, .int .i64 z], .agg [.int .i64 a, .int .i64 b, .int .i64 c]] s Q := by
  refine AC_pure rfl ?_
  refine AC_body tok 3 Try.func69 rfl (by kernel_rfl) ?_
  conv => whnf
  unfold aboutI at h
  refine refOf hx hy hz (fun o u1 u2 u3 v1 v2 v3 n1 n2 n3 h1 h2 => ?_)
  conv => whnf
  rw [← h1, ← h2] at h
  cases o
  · conv => whnf
    exact ⟨rfl, h _ _ _ rfl⟩
  conv => whnf
  obtain ⟨bu, bv, bn⟩ := PB.of_near hx hy hz h1
  have nb : nearB u1 u2 u3 v1 v2 v3 n1 n2 n3 a b c = true := by
    unfold nearB
    rw [PB.near_u bu, PB.near_u bv, PB.near_u bn, PB.near_u ⟨ha, hb, hc⟩]; rfl
  have hq := PS.out_b bu bv bn ha hb hc
  try (refine AW_draw tok hP ?_; conv => whnf)
  first | refine AQ_vec (fun sK QK hK => refOutC hK) (fun o1 o2 o3 g1 g2 g3 => ?_) | refine refOutC (fun o1 o2 o3 g1 g2 g3 => ?_)
  conv => whnf
  try (refine And.intro (OkD.mk (by kernel_rfl)) ?_; conv => whnf)
  rw [nb] at g1 g2 g3
  rw [← g1, ← g2, ← g3] at hq
  refine refUnit hq.1 hq.2.1 hq.2.2 (fun o p q b e _ => ?_)
  conv => whnf
  exact ⟨rfl, h _ _ _ (by rw [e, g1, g2, g3]; rfl)⟩
/-- a call that reads some objects -/
theorem AQ_rd {P : Program} {f : FuncId} {args : List AV} {s : List Ob} {K : List Nat → AV → List (Nat × Ob) → List Ob → Prop} (C : List Nat) {r : AV} (h : ∀ (s' : List Ob) (Q : AV → List Ob → Prop), (∀ i ∈ C, s'[i]? = s[i]?) → Q r s' → AC P f args s' Q) (hk : K C r [] []) : AQ P f args s K :=
  ⟨C, r, [], [], fun s' _ hC _ => h s' _ hC ⟨rfl, by simp [setsL]⟩, hk⟩
theorem spreadHalf1 {i j : Nat} {u k a b c : Int} (e : (a, b, c) = halfV u k) (hij : i ≠ j) (hu : I64 u) (hk : I64 k) {s : List Ob} (hi : s[i]? = some (.cells 0 [.int .i64 u])) (hj : s[j]? = some (.cells 0 [.int .i64 k])) {Q : AV → List Ob → Prop} (h : Q (.agg [.int .i64 a, .int .i64 b, .int .i64 c]) s) : AC Try.prog 68 [.ptr i 0 0, .ptr j 0 0] s Q := by
  refine AC_read (args' := [.ptr 0 0 0, .ptr 1 0 0]) (L := [.cells 0 [.int .i64 u], .cells 0 [.int .i64 k]]) [i, j] (by simp [hij]) rfl rfl (by rintro (_ | _ | i') a ob h1 h2 <;> simp at h1 h2 <;> subst h1 h2 <;> assumption) ?_
  refine AC_body tok 3 Try.func68 rfl (by kernel_rfl) ?_
  conv => whnf
  have e1 : Z.mul .i64 (u % 65536) 4096 = u % 65536 * 4096 := Z.wrap_iid (by omega) (by omega)
  unfold halfV at e
  simp only [Prod.mk.injEq] at e
  refine numMod hu.1 hu.2 (by omega) (fun m hm => ?_)
  conv => whnf
  rw [PT.mod_w] at hm
  rw [← hm] at e e1
  refine spreadLegs (q := Z.mul .i64 m 4096) (by rw [e1]; omega) (by rw [e1]; omega) (fun l hl => ?_)
  conv => whnf
  rw [e1] at hl
  refine spreadDisc hu hk (fun p q hp hq => ?_)
  conv => whnf
  obtain ⟨g1, g2, g3⟩ := e
  obtain rfl := g1.trans hp.symm
  obtain rfl := g2.trans hq.symm
  obtain rfl := g3.trans hl.symm
  exact ⟨rfl, rfl, h⟩
theorem spreadHalf {x y z u k : Int} (hx : I64 x) (hy : I64 y) (hz : I64 z) (hu : I64 u) (hk : I64 k) {s : List Ob} {Q : AV → List Ob → Prop} (h : ∀ p q b, (p, q, b) = aboutI x y z (halfV u k) → Q (.agg [.int .i64 p, .int .i64 q, .int .i64 b]) s) : AC Try.prog 35 [.agg [.int .i64 x, .int .i64 y, .int .i64 z], .int .i64 u, .int .i64 k] s Q := by
  refine AC_pure rfl ?_
  refine AC_body tok 3 Try.func35 rfl (by kernel_rfl) ?_
  conv => whnf
  unfold aboutI at h
  refine AC_body tok 3 Try.func67 rfl (by kernel_rfl) ?_
  conv => whnf
  refine basisOf hx hy hz (fun o u1 u2 u3 v1 v2 v3 n1 n2 n3 h1 h2 => ?_)
  conv => whnf
  rw [← h1, ← h2] at h
  cases o
  · conv => whnf
    exact ⟨rfl, h _ _ _ rfl⟩
  conv => whnf
  obtain ⟨a, b, c, e⟩ : ∃ a b c, (a, b, c) = halfV u k := ⟨_, _, _, rfl⟩
  obtain ⟨ha, hb, hc⟩ := PS.half_near e
  rw [← e] at h
  obtain ⟨bu, bv, bn⟩ := PB.of_near hx hy hz h1
  have nb : nearB u1 u2 u3 v1 v2 v3 n1 n2 n3 a b c = true := by
    unfold nearB
    rw [PB.near_u bu, PB.near_u bv, PB.near_u bn, PB.near_u ⟨ha, hb, hc⟩]; rfl
  have hq := PS.out_b bu bv bn ha hb hc
  obtain ⟨iu1, iu2, iu3⟩ := PB.near_I (PB.near_u bu)
  obtain ⟨iv1, iv2, iv3⟩ := PB.near_I (PB.near_u bv)
  obtain ⟨in1, in2, in3⟩ := PB.near_I (PB.near_u bn)
  obtain ⟨ia, ib, ic⟩ := PB.near_I (PB.near_u ⟨ha, hb, hc⟩)
  try (refine AW_draw tok hP ?_; conv => whnf)
  refine AQ_rd [1, 2] (fun s' Q hC h => spreadHalf1 e (by decide) hu hk ((hC 1 (by decide)).trans rfl) ((hC 2 (by decide)).trans rfl) h) ?_
  conv => whnf
  try (refine AW_draw tok hP ?_; conv => whnf)
  first | refine AQ_vec (fun sK QK hK => basisOutC iu1 iu2 iu3 iv1 iv2 iv3 in1 in2 in3 ia ib ic hK) (fun o1 o2 o3 g1 g2 g3 => ?_) | refine basisOutC iu1 iu2 iu3 iv1 iv2 iv3 in1 in2 in3 ia ib ic (fun o1 o2 o3 g1 g2 g3 => ?_)
  conv => whnf
  try (refine And.intro (OkD.mk (by kernel_rfl)) ?_; conv => whnf)
  rw [nb] at g1 g2 g3
  rw [← g1, ← g2, ← g3] at hq
  try (refine AW_draw tok hP ?_; conv => whnf)
  first | refine AQ_uni (fun sK QK hK => vecUnit hq.1 hq.2.1 hq.2.2 hK) (fun _ p q b e' _ => ?_) | refine vecUnit hq.1 hq.2.1 hq.2.2 (fun _ p q b e' _ => ?_)
  conv => whnf
  try (refine And.intro (OkD.mk (by kernel_rfl)) ?_; conv => whnf)
  exact ⟨rfl, h _ _ _ (by rw [e', g1, g2, g3]; rfl)⟩
theorem refHalf {x y z u k : Int} (hx : I64 x) (hy : I64 y) (hz : I64 z) (hu : I64 u) (hk : I64 k) {s : List Ob} {Q : AV → List Ob → Prop} (h : ∀ p q b, (p, q, b) = aboutI x y z (halfV u k) → Q (.agg [.int .i64 p, .int .i64 q, .int .i64 b]) s) : AC Try.prog 36 [.agg [.int .i64 x, .int .i64 y, .int .i64 z], .int .i64 u, .int .i64 k] s Q := by
  refine AC_pure rfl ?_
  refine AC_body tok 3 Try.func36 rfl (by kernel_rfl) ?_
  conv => whnf
  try (refine AW_draw tok hP ?_; conv => whnf)
  first | refine AQ_two (fun sK QK hK => refDisc hu hk hK) (fun p q hp hq => ?_) | refine refDisc hu hk (fun p q hp hq => ?_)
  conv => whnf
  try (refine And.intro (OkD.mk (by kernel_rfl)) ?_; conv => whnf)
  have bp := PS.ring_b (discR u) k
  rw [← hp, ← hq] at bp
  try (refine AW_draw tok hP ?_; conv => whnf)
  first | refine AQ_int (fun sK QK hK => refMod hu.1 hu.2 (by omega) hK) (fun m hm => ?_) | refine refMod hu.1 hu.2 (by omega) (fun m hm => ?_)
  conv => whnf
  try (refine And.intro (OkD.mk (by kernel_rfl)) ?_; conv => whnf)
  rw [PT.mod_w] at hm
  have e1 : Z.mul .i64 m 4096 = m * 4096 := Z.wrap_iid (by omega) (by omega)
  have e2 : Z.sub .i64 268435456 (Z.mul .i64 m 4096) = 268435456 - m * 4096 := by rw [e1]; exact Z.wrap_iid (by omega) (by omega)
  have e3 : IntKind.u64.wrap (Z.sub .i64 268435456 (Z.mul .i64 m 4096)) = 268435456 - m * 4096 := by rw [e2]; exact Z.wrap_uid (by omega) (by omega)
  try (refine AW_draw tok hP ?_; conv => whnf)
  first | refine AQ_int (fun sK QK hK => refRoot (x := IntKind.u64.wrap (Z.sub .i64 268435456 (Z.mul .i64 m 4096))) (by rw [e3]; omega) (by rw [e3]; omega) hK) (fun l hl => ?_) | refine refRoot (x := IntKind.u64.wrap (Z.sub .i64 268435456 (Z.mul .i64 m 4096))) (by rw [e3]; omega) (by rw [e3]; omega) (fun l hl => ?_)
  conv => whnf
  try (refine And.intro (OkD.mk (by kernel_rfl)) ?_; conv => whnf)
  rw [e3] at hl
  replace hl : l = legsI (m * 4096) := hl
  have bl := PS.legs_le (q := m * 4096) (by omega) (by omega)
  rw [← hl] at bl
  have e : (p, q, l) = halfV u k := by unfold halfV; rw [hp, hq, hl, hm]
  try (refine AW_draw tok hP ?_; conv => whnf)
  first | refine AQ_tri (fun sK QK hK => refAbout hx hy hz bp.1 bp.2 ⟨by omega, by omega⟩ hK) (fun a b c ha => ?_) | refine refAbout hx hy hz bp.1 bp.2 ⟨by omega, by omega⟩ (fun a b c ha => ?_)
  conv => whnf
  try (refine And.intro (OkD.mk (by kernel_rfl)) ?_; conv => whnf)
  exact ⟨rfl, h _ _ _ (by rw [ha, e])⟩
theorem spreadCone1 {i j l : Nat} {t u k a b c : Int} (ht : 0 ≤ t ∧ t ≤ 16384) (e : (a, b, c) = upI (coneZ t u) k) (hij : [i, j, l].Nodup) (hu : I64 u) (hk : I64 k) {s : List Ob} (hi : s[i]? = some (.cells 0 [.int .i64 u])) (hj : s[j]? = some (.cells 0 [.int .i64 t])) (hl : s[l]? = some (.cells 0 [.int .i64 k])) {Q : AV → List Ob → Prop} (h : Q (.agg [.int .i64 a, .int .i64 b, .int .i64 c]) s) : AC Try.prog 70 [.ptr i 0 0, .ptr j 0 0, .ptr l 0 0] s Q := by
  refine AC_read (args' := [.ptr 0 0 0, .ptr 1 0 0, .ptr 2 0 0]) (L := [.cells 0 [.int .i64 u], .cells 0 [.int .i64 t], .cells 0 [.int .i64 k]]) [i, j, l] hij rfl rfl (by rintro (_ | _ | _ | i') a ob h1 h2 <;> simp at h1 h2 <;> subst h1 h2 <;> assumption) ?_
  refine AC_body tok 3 Try.func70 rfl (by kernel_rfl) ?_
  conv => whnf
  have cb := PS.cone_b (u := u) ht
  try (refine AW_draw tok hP ?_; conv => whnf)
  first | refine AQ_int (fun sK QK hK => numMod hu.1 hu.2 (by omega) hK) (fun m hm => ?_) | refine numMod hu.1 hu.2 (by omega) (fun m hm => ?_)
  conv => whnf
  try (refine And.intro (OkD.mk (by kernel_rfl)) ?_; conv => whnf)
  rw [PT.mod_w] at hm
  rw [← hm] at cb
  have e1 : Z.sub .i64 16384 t = 16384 - t := Z.wrap_iid (by omega) (by omega)
  have e2 : Z.mul .i64 m (Z.sub .i64 16384 t) = m * (16384 - t) := by rw [e1]; exact Z.wrap_iid (by omega) (by omega)
  have e3 : Z.quo .i64 (Z.mul .i64 m (Z.sub .i64 16384 t)) 65536 = m * (16384 - t) / 65536 := by rw [e2, quo_pos (by omega) (by omega) (by omega)]
  have e4 : Z.sub .i64 16384 (Z.quo .i64 (Z.mul .i64 m (Z.sub .i64 16384 t)) 65536) = coneZ t u := by
    rw [e3]; unfold coneZ; rw [← hm]; exact Z.wrap_iid (by omega) (by omega)
  try (refine AW_draw tok hP ?_; conv => whnf)
  first | refine AQ_tri (fun sK QK hK => spreadUp (z := Z.sub .i64 16384 (Z.quo .i64 (Z.mul .i64 m (Z.sub .i64 16384 t)) 65536)) (by rw [e4]; unfold coneZ I64; rw [← hm]; omega) hk hK) (fun a' b' c' e' => ?_) | refine spreadUp (z := Z.sub .i64 16384 (Z.quo .i64 (Z.mul .i64 m (Z.sub .i64 16384 t)) 65536)) (by rw [e4]; unfold coneZ I64; rw [← hm]; omega) hk (fun a' b' c' e' => ?_)
  conv => whnf
  try (refine And.intro (OkD.mk (by kernel_rfl)) ?_; conv => whnf)
  rw [e4, ← e] at e'
  simp only [Prod.mk.injEq] at e'
  obtain ⟨rfl, rfl, rfl⟩ := e'
  exact ⟨rfl, rfl, h⟩
theorem spreadCone {x y z t u k : Int} (hx : I64 x) (hy : I64 y) (hz : I64 z) (hu : I64 u) (hk : I64 k) {s : List Ob} {Q : AV → List Ob → Prop} (h : ∀ p q b, (p, q, b) = coneI x y z t u k → Q (.agg [.int .i64 p, .int .i64 q, .int .i64 b]) s) : AC Try.prog 37 [.agg [.int .i64 x, .int .i64 y, .int .i64 z], .int .i64 t, .int .i64 u, .int .i64 k] s Q := by
  refine AC_pure rfl ?_
  refine AC_body tok 3 Try.func37 rfl (by kernel_rfl) ?_
  conv => whnf
  unfold coneI at h
  generalize hB : decide ((_ : Int) < 0) = bB
  replace hB : decide (t < 0) = bB := hB
  by_cases g1 : t < 0
  · rw [decide_eq_true g1] at hB; subst hB
    conv => whnf
    exact ⟨rfl, h _ _ _ (by rw [if_neg (by omega)])⟩
  rw [decide_eq_false g1] at hB; subst hB
  conv => whnf
  generalize hB : decide ((_ : Int) > 16384) = bB
  replace hB : decide (t > 16384) = bB := hB
  by_cases g2 : t > 16384
  · rw [decide_eq_true g2] at hB; subst hB
    conv => whnf
    exact ⟨rfl, h _ _ _ (by rw [if_neg (by omega)])⟩
  rw [decide_eq_false g2] at hB; subst hB
  conv => whnf
  have ht : 0 ≤ t ∧ t ≤ 16384 := ⟨by omega, by omega⟩
  rw [if_pos ht] at h
  unfold aboutI at h
  refine AC_body tok 3 Try.func67 rfl (by kernel_rfl) ?_
  conv => whnf
  refine basisOf hx hy hz (fun o u1 u2 u3 v1 v2 v3 n1 n2 n3 h1 h2 => ?_)
  conv => whnf
  rw [← h1, ← h2] at h
  cases o
  · conv => whnf
    exact ⟨rfl, h _ _ _ rfl⟩
  conv => whnf
  obtain ⟨a, b, c, e⟩ : ∃ a b c, (a, b, c) = upI (coneZ t u) k := ⟨_, _, _, rfl⟩
  obtain ⟨ha, hb, hc⟩ := PS.up_near e
  rw [← e] at h
  obtain ⟨bu, bv, bn⟩ := PB.of_near hx hy hz h1
  have nb : nearB u1 u2 u3 v1 v2 v3 n1 n2 n3 a b c = true := by
    unfold nearB
    rw [PB.near_u bu, PB.near_u bv, PB.near_u bn, PB.near_u ⟨ha, hb, hc⟩]; rfl
  have hq := PS.out_b bu bv bn ha hb hc
  obtain ⟨iu1, iu2, iu3⟩ := PB.near_I (PB.near_u bu)
  obtain ⟨iv1, iv2, iv3⟩ := PB.near_I (PB.near_u bv)
  obtain ⟨in1, in2, in3⟩ := PB.near_I (PB.near_u bn)
  obtain ⟨ia, ib, ic⟩ := PB.near_I (PB.near_u ⟨ha, hb, hc⟩)
  try (refine AW_draw tok hP ?_; conv => whnf)
  refine AQ_rd [2, 1, 3] (fun s' Q hC h => spreadCone1 ht e (by decide) hu hk ((hC 2 (by decide)).trans rfl) ((hC 1 (by decide)).trans rfl) ((hC 3 (by decide)).trans rfl) h) ?_
  conv => whnf
  try (refine AW_draw tok hP ?_; conv => whnf)
  first | refine AQ_vec (fun sK QK hK => basisOutC iu1 iu2 iu3 iv1 iv2 iv3 in1 in2 in3 ia ib ic hK) (fun o1 o2 o3 g1 g2 g3 => ?_) | refine basisOutC iu1 iu2 iu3 iv1 iv2 iv3 in1 in2 in3 ia ib ic (fun o1 o2 o3 g1 g2 g3 => ?_)
  conv => whnf
  try (refine And.intro (OkD.mk (by kernel_rfl)) ?_; conv => whnf)
  rw [nb] at g1 g2 g3
  rw [← g1, ← g2, ← g3] at hq
  try (refine AW_draw tok hP ?_; conv => whnf)
  first | refine AQ_uni (fun sK QK hK => vecUnit hq.1 hq.2.1 hq.2.2 hK) (fun _ p q b e' _ => ?_) | refine vecUnit hq.1 hq.2.1 hq.2.2 (fun _ p q b e' _ => ?_)
  conv => whnf
  try (refine And.intro (OkD.mk (by kernel_rfl)) ?_; conv => whnf)
  exact ⟨rfl, h _ _ _ (by rw [e', g1, g2, g3]; rfl)⟩
theorem refCone {x y z t u k : Int} (hx : I64 x) (hy : I64 y) (hz : I64 z) (hu : I64 u) (hk : I64 k) {s : List Ob} {Q : AV → List Ob → Prop} (h : ∀ p q b, (p, q, b) = coneI x y z t u k → Q (.agg [.int .i64 p, .int .i64 q, .int .i64 b]) s) : AC Try.prog 38 [.agg [.int .i64 x, .int .i64 y, .int .i64 z], .int .i64 t, .int .i64 u, .int .i64 k] s Q := by
  refine AC_pure rfl ?_
  refine AC_body tok 3 Try.func38 rfl (by kernel_rfl) ?_
  conv => whnf
  unfold coneI at h
  generalize hB : decide ((_ : Int) < 0) = bB
  replace hB : decide (t < 0) = bB := hB
  by_cases g1 : t < 0
  · rw [decide_eq_true g1] at hB; subst hB
    conv => whnf
    exact ⟨rfl, h _ _ _ (by rw [if_neg (by omega)])⟩
  rw [decide_eq_false g1] at hB; subst hB
  conv => whnf
  generalize hB : decide ((_ : Int) > 16384) = bB
  replace hB : decide (t > 16384) = bB := hB
  by_cases g2 : t > 16384
  · rw [decide_eq_true g2] at hB; subst hB
    conv => whnf
    exact ⟨rfl, h _ _ _ (by rw [if_neg (by omega)])⟩
  rw [decide_eq_false g2] at hB; subst hB
  conv => whnf
  have ht : 0 ≤ t ∧ t ≤ 16384 := ⟨by omega, by omega⟩
  rw [if_pos ht] at h
  have cb := PS.cone_b (u := u) ht
  try (refine AW_draw tok hP ?_; conv => whnf)
  first | refine AQ_int (fun sK QK hK => refMod hu.1 hu.2 (by omega) hK) (fun m hm => ?_) | refine refMod hu.1 hu.2 (by omega) (fun m hm => ?_)
  conv => whnf
  try (refine And.intro (OkD.mk (by kernel_rfl)) ?_; conv => whnf)
  rw [PT.mod_w] at hm
  rw [← hm] at cb
  have e1 : Z.sub .i64 16384 t = 16384 - t := Z.wrap_iid (by omega) (by omega)
  have e2 : Z.mul .i64 m (Z.sub .i64 16384 t) = m * (16384 - t) := by rw [e1]; exact Z.wrap_iid (by omega) (by omega)
  try (refine AW_draw tok hP ?_; conv => whnf)
  first | refine AQ_int (fun sK QK hK => refDiv (a := Z.mul .i64 m (Z.sub .i64 16384 t)) (by rw [e2]; omega) (by rw [e2]; omega) hK) (fun d hd => ?_) | refine refDiv (a := Z.mul .i64 m (Z.sub .i64 16384 t)) (by rw [e2]; omega) (by rw [e2]; omega) (fun d hd => ?_)
  conv => whnf
  try (refine And.intro (OkD.mk (by kernel_rfl)) ?_; conv => whnf)
  have e3 : d = m * (16384 - t) / 65536 := by rw [hd, e2]; unfold divI; rw [if_neg (by omega)]
  have e4 : Z.sub .i64 16384 d = coneZ t u := by
    rw [e3]; unfold coneZ; rw [← hm]; exact Z.wrap_iid (by omega) (by omega)
  try (refine AW_draw tok hP ?_; conv => whnf)
  first | refine AQ_tri (fun sK QK hK => refUp (z := Z.sub .i64 16384 d) (by rw [e4]; unfold coneZ I64; rw [← hm]; omega) hk hK) (fun a b c e => ?_) | refine refUp (z := Z.sub .i64 16384 d) (by rw [e4]; unfold coneZ I64; rw [← hm]; omega) hk (fun a b c e => ?_)
  conv => whnf
  try (refine And.intro (OkD.mk (by kernel_rfl)) ?_; conv => whnf)
  rw [e4] at e
  obtain ⟨ha, hb, hc⟩ := PS.up_near e
  try (refine AW_draw tok hP ?_; conv => whnf)
  first | refine AQ_tri (fun sK QK hK => refAbout hx hy hz ha hb hc hK) (fun p q r hp => ?_) | refine refAbout hx hy hz ha hb hc (fun p q r hp => ?_)
  conv => whnf
  try (refine And.intro (OkD.mk (by kernel_rfl)) ?_; conv => whnf)
  exact ⟨rfl, h _ _ _ (by rw [hp, e])⟩
