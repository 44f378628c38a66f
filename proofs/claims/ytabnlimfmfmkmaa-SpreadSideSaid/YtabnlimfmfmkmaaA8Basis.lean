/- Part of the proof of a law of the seat: its functions, walked. No condition. -/
import Derived.Test.YtabnlimfmfmkmaaA8Unit
import Derived.Test.YtabnlimfmfmkmaaPBasis
namespace Go.AW.A8
open Go Go.AW Go.Proofs
set_option maxRecDepth 100000
set_option linter.unusedVariables false
theorem vecSub1 {n : Int} (hn : I64 n) {s : List Ob} {Q : AV → List Ob → Prop} (h : Q (.int .i64 (timesI n (-1))) s) : AC Try.prog 85 [.int .i64 n] s Q := by
  refine AC_pure rfl ?_
  refine AC_body tok 3 Try.func85 rfl (by kernel_rfl) ?_
  conv => whnf
  refine numTimes hn.1 hn.2 (by omega) (by omega) (fun v hv => ?_)
  conv => whnf
  exact ⟨rfl, (by rw [hv]; exact h)⟩
theorem vecSub {a b c x y z : Int} (ha : I64 a) (hb : I64 b) (hc : I64 c) (hx : I64 x) (hy : I64 y) (hz : I64 z) {s : List Ob} {Q : AV → List Ob → Prop} (h : ∀ u v w, u = plusI a (timesI x (-1)) → v = plusI b (timesI y (-1)) → w = plusI c (timesI z (-1)) → Q (.agg [.int .i64 u, .int .i64 v, .int .i64 w]) s) : AC Try.prog 57 [.agg [.int .i64 a, .int .i64 b, .int .i64 c], .agg [.int .i64 x, .int .i64 y, .int .i64 z]] s Q := by
  refine AC_pure rfl ?_
  refine AC_body tok 12 Try.func57 rfl (by kernel_rfl) ?_
  conv => whnf
  try (refine AW_draw tok hP ?_; conv => whnf)
  first | refine AQ_pure (fun sK QK hK => vecOf hK) ?_ | refine vecOf ?_
  conv => whnf
  try (refine And.intro (OkD.mk (by kernel_rfl)) ?_; conv => whnf)
  try (refine AW_draw tok hP ?_; conv => whnf)
  first | refine AQ_pure (fun sK QK hK => vecEach (fun _ => rfl) (fun _ _ h => vecSub1 hx h) (fun _ _ h => vecSub1 hy h) (fun _ _ h => vecSub1 hz h) hK) ?_ | refine vecEach (fun _ => rfl) (fun _ _ h => vecSub1 hx h) (fun _ _ h => vecSub1 hy h) (fun _ _ h => vecSub1 hz h) ?_
  conv => whnf
  try (refine And.intro (OkD.mk (by kernel_rfl)) ?_; conv => whnf)
  try (refine AW_draw tok hP ?_; conv => whnf)
  first | refine AQ_pure (fun sK QK hK => vecVec hK) ?_ | refine vecVec ?_
  conv => whnf
  try (refine And.intro (OkD.mk (by kernel_rfl)) ?_; conv => whnf)
  try (refine AW_draw tok hP ?_; conv => whnf)
  first | refine AQ_vec (fun sK QK hK => vecAdd ha hb hc (PB.times_i _ _) (PB.times_i _ _) (PB.times_i _ _) hK) (fun u v w h1 h2 h3 => ?_) | refine vecAdd ha hb hc (PB.times_i _ _) (PB.times_i _ _) (PB.times_i _ _) (fun u v w h1 h2 h3 => ?_)
  conv => whnf
  try (refine And.intro (OkD.mk (by kernel_rfl)) ?_; conv => whnf)
  exact ⟨rfl, h _ _ _ h1 h2 h3⟩
theorem vecCross {a b c x y z : Int} (ha : I64 a) (hb : I64 b) (hc : I64 c) (hx : I64 x) (hy : I64 y) (hz : I64 z) {s : List Ob} {Q : AV → List Ob → Prop} (h : ∀ u v w, u = crossI (nearI a b c && nearI x y z) (b * z - c * y) → v = crossI (nearI a b c && nearI x y z) (c * x - a * z) → w = crossI (nearI a b c && nearI x y z) (a * y - b * x) → Q (.agg [.int .i64 u, .int .i64 v, .int .i64 w]) s) : AC Try.prog 40 [.agg [.int .i64 a, .int .i64 b, .int .i64 c], .agg [.int .i64 x, .int .i64 y, .int .i64 z]] s Q := by
  refine AC_pure rfl ?_
  refine AC_body tok 12 Try.func40 rfl (by kernel_rfl) ?_
  conv => whnf
  refine vecNear2 ha hb hc hx hy hz rfl (fun v hv => ?_)
  conv => whnf
  rw [← hv] at h
  cases v
  · conv => whnf
    exact ⟨rfl, h _ _ _ rfl rfl rfl⟩
  conv => whnf
  rw [eq_comm, Bool.and_eq_true] at hv
  obtain ⟨⟨p1, p2⟩, ⟨p3, p4⟩, p5, p6⟩ := PV.dot_le (x := x) (y := y) (z := z) hv.1 hv.2
  obtain ⟨⟨q1, q2⟩, ⟨q3, q4⟩, q5, q6⟩ := PV.dot_le (x := y) (y := z) (z := x) hv.1 (by have := hv.2; rw [PV.near_iff] at this ⊢; omega)
  obtain ⟨⟨r1, r2⟩, ⟨r3, r4⟩, r5, r6⟩ := PV.dot_le (x := z) (y := x) (z := y) hv.1 (by have := hv.2; rw [PV.near_iff] at this ⊢; omega)
  try (refine AW_draw tok hP ?_; conv => whnf)
  first | refine AQ_pure (fun sK QK hK => vecOf hK) ?_ | refine vecOf ?_
  conv => whnf
  try (refine And.intro (OkD.mk (by kernel_rfl)) ?_; conv => whnf)
  try (refine AW_draw tok hP ?_; conv => whnf)
  first | refine AQ_pure (fun sK QK hK => vecOf hK) ?_ | refine vecOf ?_
  conv => whnf
  try (refine And.intro (OkD.mk (by kernel_rfl)) ?_; conv => whnf)
  try (refine AW_draw tok hP ?_; conv => whnf)
  refine ⟨⟨by kernel_rfl⟩, ?_⟩
  conv => whnf
  try (refine AW_draw tok hP ?_; conv => whnf)
  refine ⟨⟨by kernel_rfl⟩, ?_⟩
  conv => whnf
  try (refine AW_draw tok hP ?_; conv => whnf)
  refine ⟨⟨by kernel_rfl⟩, ?_⟩
  conv => whnf
  refine vecVec ?_
  conv => whnf
  have e1 : Z.mul .i64 b z = b * z := Z.wrap_iid (by omega) (by omega)
  have e2 : Z.mul .i64 c y = c * y := Z.wrap_iid (by omega) (by omega)
  have e3 : Z.mul .i64 c x = c * x := Z.wrap_iid (by omega) (by omega)
  have e4 : Z.mul .i64 a z = a * z := Z.wrap_iid (by omega) (by omega)
  have e5 : Z.mul .i64 a y = a * y := Z.wrap_iid (by omega) (by omega)
  have e6 : Z.mul .i64 b x = b * x := Z.wrap_iid (by omega) (by omega)
  have f1 : Z.sub .i64 (b * z) (c * y) = b * z - c * y := Z.wrap_iid (by omega) (by omega)
  have f2 : Z.sub .i64 (c * x) (a * z) = c * x - a * z := Z.wrap_iid (by omega) (by omega)
  have f3 : Z.sub .i64 (a * y) (b * x) = a * y - b * x := Z.wrap_iid (by omega) (by omega)
  exact ⟨rfl, (by rw [e1, e2, e3, e4, e5, e6, f1, f2, f3]; exact h _ _ _ rfl rfl rfl)⟩
theorem refCross {a b c x y z : Int} {s : List Ob} {Q : AV → List Ob → Prop} (h : ∀ u v w, u = crossI (nearI a b c && nearI x y z) (b * z - c * y) → v = crossI (nearI a b c && nearI x y z) (c * x - a * z) → w = crossI (nearI a b c && nearI x y z) (a * y - b * x) → Q (.agg [.int .i64 u, .int .i64 v, .int .i64 w]) s) : AC Try.prog 47 [.agg [.int .i64 a, .int .i64 b, .int .i64 c], .agg [.int .i64 x, .int .i64 y, .int .i64 z]] s Q := by
  refine AC_pure rfl ?_
  refine AC_body tok 12 Try.func47 rfl (by kernel_rfl) ?_
  conv => whnf
  refine refNear (fun v hv => ?_)
  conv => whnf
  rw [← hv] at h
  cases v
  · conv => whnf
    exact ⟨rfl, h _ _ _ rfl rfl rfl⟩
  conv => whnf
  refine refNear (fun w hw => ?_)
  conv => whnf
  rw [← hw] at h
  cases w
  · conv => whnf
    exact ⟨rfl, h _ _ _ rfl rfl rfl⟩
  conv => whnf
  obtain ⟨⟨q1, q2⟩, ⟨q3, q4⟩, q5, q6⟩ := PV.dot_le (x := y) (y := z) (z := x) hv.symm (by have := hw.symm; rw [PV.near_iff] at this ⊢; omega)
  obtain ⟨⟨r1, r2⟩, ⟨r3, r4⟩, r5, r6⟩ := PV.dot_le (x := z) (y := x) (z := y) hv.symm (by have := hw.symm; rw [PV.near_iff] at this ⊢; omega)
  have e1 : Z.mul .i64 b z = b * z := Z.wrap_iid (by omega) (by omega)
  have e2 : Z.mul .i64 c y = c * y := Z.wrap_iid (by omega) (by omega)
  have e3 : Z.mul .i64 c x = c * x := Z.wrap_iid (by omega) (by omega)
  have e4 : Z.mul .i64 a z = a * z := Z.wrap_iid (by omega) (by omega)
  have e5 : Z.mul .i64 a y = a * y := Z.wrap_iid (by omega) (by omega)
  have e6 : Z.mul .i64 b x = b * x := Z.wrap_iid (by omega) (by omega)
  have f1 : Z.sub .i64 (b * z) (c * y) = b * z - c * y := Z.wrap_iid (by omega) (by omega)
  have f2 : Z.sub .i64 (c * x) (a * z) = c * x - a * z := Z.wrap_iid (by omega) (by omega)
  have f3 : Z.sub .i64 (a * y) (b * x) = a * y - b * x := Z.wrap_iid (by omega) (by omega)
  exact ⟨rfl, (by rw [e1, e2, e3, e4, e5, e6, f1, f2, f3]; exact h _ _ _ rfl rfl rfl)⟩
theorem basisReach {a b c x y z : Int} (h1 : nearI a b c = true) (h2 : nearI x y z = true) {s : List Ob} {Q : AV → List Ob → Prop} (h : ∀ v, v = absI (a * x + b * y + c * z) → Q (.int .i64 v) s) : AC Try.prog 80 [.agg [.int .i64 a, .int .i64 b, .int .i64 c], .agg [.int .i64 x, .int .i64 y, .int .i64 z]] s Q := by
  refine AC_pure rfl ?_
  refine AC_body tok 3 Try.func80 rfl (by kernel_rfl) ?_
  conv => whnf
  obtain ⟨ha, hb, hc⟩ := PB.near_I h1
  obtain ⟨hx, hy, hz⟩ := PB.near_I h2
  refine vecDot ha hb hc hx hy hz (fun u hu => ?_)
  conv => whnf
  have u0 := PV.dot_i a b c x y z
  rw [← hu] at u0
  unfold dotI at hu
  rw [if_pos ⟨h1, h2⟩] at hu
  exact ⟨rfl, h _ (by rw [← hu]; exact PB.abs_mm (by omega) (by omega))⟩
theorem basisAxis {a b c : Int} (hn : nearI a b c = true) {s : List Ob} {Q : AV → List Ob → Prop} (h : ∀ u v w, (u, v, w) = axisI a b c → Q (.agg [.int .i64 u, .int .i64 v, .int .i64 w]) s) : AC Try.prog 41 [.agg [.int .i64 a, .int .i64 b, .int .i64 c]] s Q := by
  refine AC_pure rfl ?_
  refine AC_body tok 12 Try.func41 rfl (by kernel_rfl) ?_
  conv => whnf
  have hx : ∀ (s : List Ob) (Q : AV → List Ob → Prop), (∀ v, v = absI a → Q (.int .i64 v) s) → AC Try.prog 80 [.agg [.int .i64 a, .int .i64 b, .int .i64 c], .agg [.int .i64 1, .int .i64 0, .int .i64 0]] s Q := fun s Q h => basisReach hn PB.near_x (fun v hv => h v (by rw [hv]; congr 1; omega))
  have hy : ∀ (s : List Ob) (Q : AV → List Ob → Prop), (∀ v, v = absI b → Q (.int .i64 v) s) → AC Try.prog 80 [.agg [.int .i64 a, .int .i64 b, .int .i64 c], .agg [.int .i64 0, .int .i64 1, .int .i64 0]] s Q := fun s Q h => basisReach hn PB.near_y (fun v hv => h v (by rw [hv]; congr 1; omega))
  have hz : ∀ (s : List Ob) (Q : AV → List Ob → Prop), (∀ v, v = absI c → Q (.int .i64 v) s) → AC Try.prog 80 [.agg [.int .i64 a, .int .i64 b, .int .i64 c], .agg [.int .i64 0, .int .i64 0, .int .i64 1]] s Q := fun s Q h => basisReach hn PB.near_z (fun v hv => h v (by rw [hv]; congr 1; omega))
  unfold axisI at h
  try (refine AW_draw tok hP ?_; conv => whnf)
  first | refine AQ_int (fun sK QK hK => hx _ _ hK) (fun v1 h1 => ?_) | refine hx _ _ (fun v1 h1 => ?_)
  conv => whnf
  try (refine And.intro (OkD.mk (by kernel_rfl)) ?_; conv => whnf)
  try (refine AW_draw tok hP ?_; conv => whnf)
  first | refine AQ_int (fun sK QK hK => hx _ _ hK) (fun v2 h2 => ?_) | refine hx _ _ (fun v2 h2 => ?_)
  conv => whnf
  try (refine And.intro (OkD.mk (by kernel_rfl)) ?_; conv => whnf)
  conv => whnf
  rw [decide_eq_false (show ¬ v1 < v2 by omega)]
  conv => whnf
  try (refine AW_draw tok hP ?_; conv => whnf)
  first | refine AQ_int (fun sK QK hK => hy _ _ hK) (fun v3 h3 => ?_) | refine hy _ _ (fun v3 h3 => ?_)
  conv => whnf
  try (refine And.intro (OkD.mk (by kernel_rfl)) ?_; conv => whnf)
  try (refine AW_draw tok hP ?_; conv => whnf)
  first | refine AQ_int (fun sK QK hK => hx _ _ hK) (fun v4 h4 => ?_) | refine hx _ _ (fun v4 h4 => ?_)
  conv => whnf
  try (refine And.intro (OkD.mk (by kernel_rfl)) ?_; conv => whnf)
  subst h1 h2 h3 h4
  conv => whnf
  by_cases g1 : absI b < absI a
  · rw [decide_eq_true g1]
    conv => whnf
    try (refine AW_draw tok hP ?_; conv => whnf)
    first | refine AQ_int (fun sK QK hK => hz _ _ hK) (fun v5 h5 => ?_) | refine hz _ _ (fun v5 h5 => ?_)
    conv => whnf
    try (refine And.intro (OkD.mk (by kernel_rfl)) ?_; conv => whnf)
    try (refine AW_draw tok hP ?_; conv => whnf)
    first | refine AQ_int (fun sK QK hK => hy _ _ hK) (fun v6 h6 => ?_) | refine hy _ _ (fun v6 h6 => ?_)
    conv => whnf
    try (refine And.intro (OkD.mk (by kernel_rfl)) ?_; conv => whnf)
    subst h5 h6
    conv => whnf
    by_cases g2 : absI c < absI b
    · rw [decide_eq_true g2]
      conv => whnf
      exact ⟨rfl, h _ _ _ (by rw [if_neg (by omega), if_neg (by omega)])⟩
    · rw [decide_eq_false g2]
      conv => whnf
      exact ⟨rfl, h _ _ _ (by rw [if_neg (by omega), if_pos (by omega)])⟩
  · rw [decide_eq_false g1]
    conv => whnf
    try (refine AW_draw tok hP ?_; conv => whnf)
    first | refine AQ_int (fun sK QK hK => hz _ _ hK) (fun v5 h5 => ?_) | refine hz _ _ (fun v5 h5 => ?_)
    conv => whnf
    try (refine And.intro (OkD.mk (by kernel_rfl)) ?_; conv => whnf)
    try (refine AW_draw tok hP ?_; conv => whnf)
    first | refine AQ_int (fun sK QK hK => hx _ _ hK) (fun v6 h6 => ?_) | refine hx _ _ (fun v6 h6 => ?_)
    conv => whnf
    try (refine And.intro (OkD.mk (by kernel_rfl)) ?_; conv => whnf)
    subst h5 h6
    conv => whnf
    by_cases g2 : absI c < absI a
    · rw [decide_eq_true g2]
      conv => whnf
      exact ⟨rfl, h _ _ _ (by rw [if_neg (by omega), if_neg (by omega)])⟩
    · rw [decide_eq_false g2]
      conv => whnf
      exact ⟨rfl, h _ _ _ (by rw [if_pos (by omega)])⟩
theorem refSize7 {n : Int} (h0 : -9223372036854775807 ≤ n) (h1 : n ≤ 9223372036854775807) {s : List Ob} {Q : AV → List Ob → Prop} (h : ∀ v, v = absI n → Q (.int .i64 v) s) : AC Try.prog 81 [.int .i64 n] s Q := by
  refine AC_pure rfl ?_
  refine AC_body tok 3 Try.func81 rfl (by kernel_rfl) ?_
  conv => whnf
  exact ⟨rfl, h _ (PB.abs_mm h0 h1)⟩
theorem refAxis {a b c : Int} (hn : nearI a b c = true) {s : List Ob} {Q : AV → List Ob → Prop} (h : ∀ u v w, (u, v, w) = axisI a b c → Q (.agg [.int .i64 u, .int .i64 v, .int .i64 w]) s) : AC Try.prog 48 [.agg [.int .i64 a, .int .i64 b, .int .i64 c]] s Q := by
  refine AC_pure rfl ?_
  refine AC_body tok 12 Try.func48 rfl (by kernel_rfl) ?_
  conv => whnf
  obtain ⟨ha, hb, hc⟩ := PV.near_iff.1 hn
  unfold axisI at h
  try (refine AW_draw tok hP ?_; conv => whnf)
  first | refine AQ_int (fun sK QK hK => refSize7 (n := a) (by omega) (by omega) hK) (fun v1 h1 => ?_) | refine refSize7 (n := a) (by omega) (by omega) (fun v1 h1 => ?_)
  conv => whnf
  try (refine And.intro (OkD.mk (by kernel_rfl)) ?_; conv => whnf)
  try (refine AW_draw tok hP ?_; conv => whnf)
  first | refine AQ_int (fun sK QK hK => refSize7 (n := b) (by omega) (by omega) hK) (fun v2 h2 => ?_) | refine refSize7 (n := b) (by omega) (by omega) (fun v2 h2 => ?_)
  conv => whnf
  try (refine And.intro (OkD.mk (by kernel_rfl)) ?_; conv => whnf)
  try (refine AW_draw tok hP ?_; conv => whnf)
  first | refine AQ_int (fun sK QK hK => refSize7 (n := c) (by omega) (by omega) hK) (fun v3 h3 => ?_) | refine refSize7 (n := c) (by omega) (by omega) (fun v3 h3 => ?_)
  conv => whnf
  try (refine And.intro (OkD.mk (by kernel_rfl)) ?_; conv => whnf)
  rw [← h1, ← h2, ← h3] at h
  by_cases g1 : v1 ≤ v2
  · rw [decide_eq_true g1]
    conv => whnf
    by_cases g2 : v1 ≤ v3
    · rw [decide_eq_true g2]
      conv => whnf
      exact ⟨rfl, h _ _ _ (by rw [if_pos ⟨g1, g2⟩])⟩
    · rw [decide_eq_false g2]
      conv => whnf
      by_cases g3 : v2 ≤ v3
      · omega
      · rw [decide_eq_false g3]
        conv => whnf
        exact ⟨rfl, h _ _ _ (by rw [if_neg (by omega), if_neg g3])⟩
  · rw [decide_eq_false g1]
    conv => whnf
    by_cases g2 : v2 ≤ v3
    · rw [decide_eq_true g2]
      conv => whnf
      exact ⟨rfl, h _ _ _ (by rw [if_neg (by omega), if_pos g2])⟩
    · rw [decide_eq_false g2]
      conv => whnf
      exact ⟨rfl, h _ _ _ (by rw [if_neg (by omega), if_neg g2])⟩
theorem basisDown {a b c n : Int} (ha : I64 a) (hb : I64 b) (hc : I64 c) {s : List Ob} {Q : AV → List Ob → Prop} (h : ∀ u v w, u = divI a n → v = divI b n → w = divI c n → Q (.agg [.int .i64 u, .int .i64 v, .int .i64 w]) s) : AC Try.prog 53 [.agg [.int .i64 a, .int .i64 b, .int .i64 c], .int .i64 n] s Q := by
  refine AC_pure rfl ?_
  refine AC_body tok 3 Try.func53 rfl (by kernel_rfl) ?_
  conv => whnf
  try (refine AW_draw tok hP ?_; conv => whnf)
  first | refine AQ_int (fun sK QK hK => numDiv ha.1 ha.2 hK) (fun u hu => ?_) | refine numDiv ha.1 ha.2 (fun u hu => ?_)
  conv => whnf
  try (refine And.intro (OkD.mk (by kernel_rfl)) ?_; conv => whnf)
  try (refine AW_draw tok hP ?_; conv => whnf)
  first | refine AQ_int (fun sK QK hK => numDiv hb.1 hb.2 hK) (fun v hv => ?_) | refine numDiv hb.1 hb.2 (fun v hv => ?_)
  conv => whnf
  try (refine And.intro (OkD.mk (by kernel_rfl)) ?_; conv => whnf)
  try (refine AW_draw tok hP ?_; conv => whnf)
  first | refine AQ_int (fun sK QK hK => numDiv hc.1 hc.2 hK) (fun w hw => ?_) | refine numDiv hc.1 hc.2 (fun w hw => ?_)
  conv => whnf
  try (refine And.intro (OkD.mk (by kernel_rfl)) ?_; conv => whnf)
  exact ⟨rfl, h _ _ _ hu hv hw⟩
theorem basisTimes {a b c n : Int} {s : List Ob} {Q : AV → List Ob → Prop} (h : Q (.agg [.int .i64 (Z.mul .i64 a n), .int .i64 (Z.mul .i64 b n), .int .i64 (Z.mul .i64 c n)]) s) : AC Try.prog 52 [.agg [.int .i64 a, .int .i64 b, .int .i64 c], .int .i64 n] s Q := by
  refine AC_pure rfl ?_
  refine AC_body tok 3 Try.func52 rfl (by kernel_rfl) ?_
  conv => whnf
  exact ⟨rfl, h⟩
theorem basisNear2 {e : TypeId} {i : Nat} {a b c x y z : Int} (ha : I64 a) (hb : I64 b) (hc : I64 c) (hx : I64 x) (hy : I64 y) (hz : I64 z) {s : List Ob} (hs : s[i]? = some (.row true e [.ik .i64, .ik .i64, .ik .i64] [[a, b, c], [x, y, z]])) {Q : AV → List Ob → Prop} (h : ∀ v, v = (nearI a b c && nearI x y z) → Q (.bool v) s) : AC Try.prog 49 [.sl i 0 2 none] s Q := by
  refine AC_read (args' := [.sl 0 0 2 none]) (L := [.row true e [.ik .i64, .ik .i64, .ik .i64] [[a, b, c], [x, y, z]]]) [i] (by simp) rfl rfl (by rintro (_ | i') j ob h1 h2 <;> simp at h1 h2; subst h1 h2; exact hs) ?_
  refine AC_body tok 12 Try.func49 rfl (by kernel_rfl) ?_
  conv => whnf
  refine vecNear ha hb hc (fun v hv => ?_)
  conv => whnf
  rw [← hv] at h
  cases v
  · conv => whnf
    exact ⟨rfl, rfl, h _ rfl⟩
  conv => whnf
  refine vecNear hx hy hz (fun w hw => ?_)
  conv => whnf
  rw [← hw] at h
  cases w
  · conv => whnf
    exact ⟨rfl, rfl, h _ rfl⟩
  · conv => whnf
    exact ⟨rfl, rfl, h _ rfl⟩
theorem basisFacing {a b c x y z : Int} (ha : I64 a) (hb : I64 b) (hc : I64 c) (hx : I64 x) (hy : I64 y) (hz : I64 z) {s : List Ob} {Q : AV → List Ob → Prop} (h : ∀ u v w, u = faceI a b c x y z a → v = faceI a b c x y z b → w = faceI a b c x y z c → Q (.agg [.int .i64 u, .int .i64 v, .int .i64 w]) s) : AC Try.prog 23 [.agg [.int .i64 a, .int .i64 b, .int .i64 c], .agg [.int .i64 x, .int .i64 y, .int .i64 z]] s Q := by
  refine AC_pure rfl ?_
  refine AC_body tok 3 Try.func23 rfl (by kernel_rfl) ?_
  conv => whnf
  unfold faceI at h
  refine basisNear2 hx hy hz ha hb hc rfl (fun v hv => ?_)
  conv => whnf
  cases v
  · have hg : ¬ (nearI x y z = true ∧ nearI a b c = true) := by rw [← Bool.and_eq_true, ← hv]; simp
    simp only [if_neg hg] at h
    conv => whnf
    exact ⟨rfl, h _ _ _ rfl rfl rfl⟩
  have hg : nearI x y z = true ∧ nearI a b c = true := by rw [← Bool.and_eq_true, ← hv]
  simp only [if_pos hg] at h
  conv => whnf
  refine vecDot ha hb hc hx hy hz (fun d hd => ?_)
  conv => whnf
  rw [← hd] at h
  generalize hB : decide ((_ : Int) > 0) = bB
  replace hB : decide (d > 0) = bB := hB
  by_cases g : d > 0
  · rw [decide_eq_true g] at hB; subst hB
    conv => whnf
    simp only [if_pos g] at h
    refine basisTimes ?_
    conv => whnf
    have e : ∀ k : Int, -1048576 ≤ k ∧ k ≤ 1048576 → Z.mul .i64 k (-1) = -k := fun k hk => by rw [show Z.mul .i64 k (-1) = k * (-1) from Z.wrap_iid (by omega) (by omega)]; omega
    obtain ⟨na, nb, nc⟩ := PV.near_iff.1 hg.2
    exact ⟨rfl, (by rw [e a na, e b nb, e c nc]; exact h _ _ _ rfl rfl rfl)⟩
  · rw [decide_eq_false g] at hB; subst hB
    conv => whnf
    simp only [if_neg g] at h
    exact ⟨rfl, h _ _ _ rfl rfl rfl⟩
