/- Part of the proof of a law of the seat: its functions, walked. No condition. -/
import Derived.Test.YtgajnkfaelecaaaA9Unit
import Derived.Test.YtgajnkfaelecaaaPBasis
namespace Go.AW.A9
open Go Go.AW Go.Proofs
set_option maxRecDepth 100000
set_option linter.unusedVariables false
theorem vecSub1 {n : Int} (hn : I64 n) {s : List Ob} {Q : AV → List Ob → Prop} (h : Q (.int .i64 (timesI n (-1))) s) : AC Try.prog 58 [.int .i64 n] s Q := by
  refine AC_pure rfl ?_
  refine AC_body tok 3 Try.func58 rfl (by kernel_rfl) ?_
  conv => whnf
  refine numTimes hn.1 hn.2 (by omega) (by omega) (fun v hv => ?_)
  conv => whnf
  exact ⟨rfl, (by rw [hv]; exact h)⟩
theorem vecSub {a b c x y z : Int} (ha : I64 a) (hb : I64 b) (hc : I64 c) (hx : I64 x) (hy : I64 y) (hz : I64 z) {s : List Ob} {Q : AV → List Ob → Prop} (h : ∀ u v w, u = plusI a (timesI x (-1)) → v = plusI b (timesI y (-1)) → w = plusI c (timesI z (-1)) → Q (.agg [.int .i64 u, .int .i64 v, .int .i64 w]) s) : AC Try.prog 30 [.agg [.int .i64 a, .int .i64 b, .int .i64 c], .agg [.int .i64 x, .int .i64 y, .int .i64 z]] s Q := by
  refine AC_pure rfl ?_
  refine AC_body tok 12 Try.func30 rfl (by kernel_rfl) ?_
  conv => whnf
  try (refine AW_draw tok hP ?_; conv => whnf)
  first | refine AQ_pure (fun sK QK hK => vecOf hK) ?_ | refine vecOf ?_
  conv => whnf
  try (refine And.intro (OkD.mk (by kernel_rfl)) ?_; conv => whnf)
  try (refine AW_draw tok hP ?_; conv => whnf)
  first | refine AQ_pure (fun sK QK hK => vecEach (fun _ => rfl) (fun _ _ h => vecSub1 hx h) (fun _ _ h => vecSub1 hy h) (fun _ _ h => vecSub1 hz h) hK) ?_ | refine vecEach (fun _ => rfl) (fun _ _ h => vecSub1 hx h) (fun _ _ h => vecSub1 hy h) (fun _ _ h => vecSub1 hz h) ?_
  conv => whnf
  try (refine And.intro (OkD.mk (by kernel_rfl)) ?_; conv => whnf)
  try (refine AW_draw tok hP ?_; conv => whnf)
  first | refine AQ_pure (fun sK QK hK => vecVec hK) ?_ | refine vecVec ?_
  conv => whnf
  try (refine And.intro (OkD.mk (by kernel_rfl)) ?_; conv => whnf)
  try (refine AW_draw tok hP ?_; conv => whnf)
  first | refine AQ_vec (fun sK QK hK => vecAdd ha hb hc (PB.times_i _ _) (PB.times_i _ _) (PB.times_i _ _) hK) (fun u v w h1 h2 h3 => ?_) | refine vecAdd ha hb hc (PB.times_i _ _) (PB.times_i _ _) (PB.times_i _ _) (fun u v w h1 h2 h3 => ?_)
  conv => whnf
  try (refine And.intro (OkD.mk (by kernel_rfl)) ?_; conv => whnf)
  exact ⟨rfl, h _ _ _ h1 h2 h3⟩
theorem vecCross {a b c x y z : Int} (ha : I64 a) (hb : I64 b) (hc : I64 c) (hx : I64 x) (hy : I64 y) (hz : I64 z) {s : List Ob} {Q : AV → List Ob → Prop} (h : ∀ u v w, u = crossI (nearI a b c && nearI x y z) (b * z - c * y) → v = crossI (nearI a b c && nearI x y z) (c * x - a * z) → w = crossI (nearI a b c && nearI x y z) (a * y - b * x) → Q (.agg [.int .i64 u, .int .i64 v, .int .i64 w]) s) : AC Try.prog 31 [.agg [.int .i64 a, .int .i64 b, .int .i64 c], .agg [.int .i64 x, .int .i64 y, .int .i64 z]] s Q := by
  refine AC_pure rfl ?_
  refine AC_body tok 12 Try.func31 rfl (by kernel_rfl) ?_
  conv => whnf
  refine vecNear2 ha hb hc hx hy hz rfl (fun v hv => ?_)
  conv => whnf
  rw [← hv] at h
  cases v
  · conv => whnf
    exact ⟨rfl, h _ _ _ rfl rfl rfl⟩
  conv => whnf
  rw [eq_comm, Bool.and_eq_true] at hv
  obtain ⟨⟨p1, p2⟩, ⟨p3, p4⟩, p5, p6⟩ := PV.dot_le (x := x) (y := y) (z := z) hv.1 hv.2
  obtain ⟨⟨q1, q2⟩, ⟨q3, q4⟩, q5, q6⟩ := PV.dot_le (x := y) (y := z) (z := x) hv.1 (by have := hv.2; rw [PV.near_iff] at this ⊢; omega)
  obtain ⟨⟨r1, r2⟩, ⟨r3, r4⟩, r5, r6⟩ := PV.dot_le (x := z) (y := x) (z := y) hv.1 (by have := hv.2; rw [PV.near_iff] at this ⊢; omega)
  try (refine AW_draw tok hP ?_; conv => whnf)
  first | refine AQ_pure (fun sK QK hK => vecOf hK) ?_ | refine vecOf ?_
  conv => whnf
  try (refine And.intro (OkD.mk (by kernel_rfl)) ?_; conv => whnf)
  try (refine AW_draw tok hP ?_; conv => whnf)
  first | refine AQ_pure (fun sK QK hK => vecOf hK) ?_ | refine vecOf ?_
  conv => whnf
  try (refine And.intro (OkD.mk (by kernel_rfl)) ?_; conv => whnf)
  try (refine AW_draw tok hP ?_; conv => whnf)
  refine ⟨⟨by kernel_rfl⟩, ?_⟩
  conv => whnf
  try (refine AW_draw tok hP ?_; conv => whnf)
  refine ⟨⟨by kernel_rfl⟩, ?_⟩
  conv => whnf
  try (refine AW_draw tok hP ?_; conv => whnf)
  refine ⟨⟨by kernel_rfl⟩, ?_⟩
  conv => whnf
  refine vecVec ?_
  conv => whnf
  have e1 : Z.mul .i64 b z = b * z := Z.wrap_iid (by omega) (by omega)
  have e2 : Z.mul .i64 c y = c * y := Z.wrap_iid (by omega) (by omega)
  have e3 : Z.mul .i64 c x = c * x := Z.wrap_iid (by omega) (by omega)
  have e4 : Z.mul .i64 a z = a * z := Z.wrap_iid (by omega) (by omega)
  have e5 : Z.mul .i64 a y = a * y := Z.wrap_iid (by omega) (by omega)
  have e6 : Z.mul .i64 b x = b * x := Z.wrap_iid (by omega) (by omega)
  have f1 : Z.sub .i64 (b * z) (c * y) = b * z - c * y := Z.wrap_iid (by omega) (by omega)
  have f2 : Z.sub .i64 (c * x) (a * z) = c * x - a * z := Z.wrap_iid (by omega) (by omega)
  have f3 : Z.sub .i64 (a * y) (b * x) = a * y - b * x := Z.wrap_iid (by omega) (by omega)
  exact ⟨rfl, (by rw [e1, e2, e3, e4, e5, e6, f1, f2, f3]; exact h _ _ _ rfl rfl rfl)⟩
theorem refCross {a b c x y z : Int} {s : List Ob} {Q : AV → List Ob → Prop} (h : ∀ u v w, u = crossI (nearI a b c && nearI x y z) (b * z - c * y) → v = crossI (nearI a b c && nearI x y z) (c * x - a * z) → w = crossI (nearI a b c && nearI x y z) (a * y - b * x) → Q (.agg [.int .i64 u, .int .i64 v, .int .i64 w]) s) : AC Try.prog 27 [.agg [.int .i64 a, .int .i64 b, .int .i64 c], .agg [.int .i64 x, .int .i64 y, .int .i64 z]] s Q := by
  refine AC_pure rfl ?_
  refine AC_body tok 12 Try.func27 rfl (by kernel_rfl) ?_
  conv => whnf
  refine refNear (fun v hv => ?_)
  conv => whnf
  rw [← hv] at h
  cases v
  · conv => whnf
    exact ⟨rfl, h _ _ _ rfl rfl rfl⟩
  conv => whnf
  refine refNear (fun w hw => ?_)
  conv => whnf
  rw [← hw] at h
  cases w
  · conv => whnf
    exact ⟨rfl, h _ _ _ rfl rfl rfl⟩
  conv => whnf
  obtain ⟨⟨q1, q2⟩, ⟨q3, q4⟩, q5, q6⟩ := PV.dot_le (x := y) (y := z) (z := x) hv.symm (by have := hw.symm; rw [PV.near_iff] at this ⊢; omega)
  obtain ⟨⟨r1, r2⟩, ⟨r3, r4⟩, r5, r6⟩ := PV.dot_le (x := z) (y := x) (z := y) hv.symm (by have := hw.symm; rw [PV.near_iff] at this ⊢; omega)
  have e1 : Z.mul .i64 b z = b * z := Z.wrap_iid (by omega) (by omega)
  have e2 : Z.mul .i64 c y = c * y := Z.wrap_iid (by omega) (by omega)
  have e3 : Z.mul .i64 c x = c * x := Z.wrap_iid (by omega) (by omega)
  have e4 : Z.mul .i64 a z = a * z := Z.wrap_iid (by omega) (by omega)
  have e5 : Z.mul .i64 a y = a * y := Z.wrap_iid (by omega) (by omega)
  have e6 : Z.mul .i64 b x = b * x := Z.wrap_iid (by omega) (by omega)
  have f1 : Z.sub .i64 (b * z) (c * y) = b * z - c * y := Z.wrap_iid (by omega) (by omega)
  have f2 : Z.sub .i64 (c * x) (a * z) = c * x - a * z := Z.wrap_iid (by omega) (by omega)
  have f3 : Z.sub .i64 (a * y) (b * x) = a * y - b * x := Z.wrap_iid (by omega) (by omega)
  exact ⟨rfl, (by rw [e1, e2, e3, e4, e5, e6, f1, f2, f3]; exact h _ _ _ rfl rfl rfl)⟩
