/- Part of the proof of a law of the seat: its functions, walked. No condition. -/
import Derived.Test.YtmihhfiefhgaiaaA5PoseL
import Derived.Test.YtmihhfiefhgaiaaA5TrigRef
namespace Go.AW.A5
open Go Go.AW Go.Proofs
set_option maxRecDepth 100000
set_option linter.unusedVariables false
theorem refDot {a b c x y z : Int} {s : List Ob} {Q : AV → List Ob → Prop} (h : ∀ u, u = dotI a b c x y z → Q (.int .i64 u) s) : AC Try.prog 81 [.agg [.int .i64 a, .int .i64 b, .int .i64 c], .agg [.int .i64 x, .int .i64 y, .int .i64 z]] s Q := by
  refine AC_pure rfl ?_
  refine AC_body tok 3 Try.func81 rfl (by kernel_rfl) ?_
  conv => whnf
  refine refNear (fun v hv => ?_)
  cases v
  · conv => whnf
    exact ⟨rfl, h _ (by unfold dotI; rw [if_neg (by rw [← hv]; simp)])⟩
  conv => whnf
  refine refNear (fun w hw => ?_)
  cases w
  · conv => whnf
    exact ⟨rfl, h _ (by unfold dotI; rw [if_neg (by rw [← hw]; simp)])⟩
  conv => whnf
  refine ⟨rfl, h _ ?_⟩
  obtain ⟨⟨p1, p2⟩, ⟨q1, q2⟩, r1, r2⟩ := PV.dot_le hv.symm hw.symm
  unfold dotI; rw [if_pos ⟨hv.symm, hw.symm⟩]
  have e1 : Z.mul .i64 a x = a * x := Z.wrap_iid (by omega) (by omega)
  have e2 : Z.mul .i64 b y = b * y := Z.wrap_iid (by omega) (by omega)
  have e3 : Z.mul .i64 c z = c * z := Z.wrap_iid (by omega) (by omega)
  rw [e1, e2, e3]
  have f2 : Z.add .i64 (a * x) (b * y) = a * x + b * y := Z.wrap_iid (by omega) (by omega)
  rw [f2]
  exact Z.wrap_iid (by omega) (by omega)
theorem refRow {a b c x y z : Int} {s : List Ob} {Q : AV → List Ob → Prop} (h : ∀ u, u = divI (dotI a b c x y z) 16384 → Q (.int .i64 u) s) : AC Try.prog 61 [.agg [.int .i64 a, .int .i64 b, .int .i64 c], .agg [.int .i64 x, .int .i64 y, .int .i64 z]] s Q := by
  refine AC_pure rfl ?_
  refine AC_body tok 3 Try.func61 rfl (by kernel_rfl) ?_
  conv => whnf
  refine refDot (fun u hu => ?_)
  have := PV.dot_i a b c x y z
  conv => whnf
  refine refDiv (by omega) (by omega) (fun v hv => ?_)
  conv => whnf
  exact ⟨rfl, h _ (by rw [hv, hu])⟩
theorem refRightP {a b c d e f g i j p q r : Int} {s : List Ob} {Q : AV → List Ob → Prop} (h : ∀ v, v = (nearI a b c && (nearI d e f && (nearI g i j && nearI p q r))) → Q (.bool v) s) : AC Try.prog 18 [.agg [.int .i64 a, .int .i64 b, .int .i64 c, .int .i64 d, .int .i64 e, .int .i64 f, .int .i64 g, .int .i64 i, .int .i64 j, .int .i64 p, .int .i64 q, .int .i64 r]] s Q := by
  refine AC_pure rfl ?_
  refine AC_body tok 3 Try.func18 rfl (by kernel_rfl) ?_
  conv => whnf
  refine refNear (fun v1 h1 => ?_)
  cases v1
  · conv => whnf
    exact ⟨rfl, h _ (by rw [← h1]; rfl)⟩
  conv => whnf
  refine refNear (fun v2 h2 => ?_)
  cases v2
  · conv => whnf
    exact ⟨rfl, h _ (by rw [← h1, ← h2]; rfl)⟩
  conv => whnf
  refine refNear (fun v3 h3 => ?_)
  cases v3
  · conv => whnf
    exact ⟨rfl, h _ (by rw [← h1, ← h2, ← h3]; rfl)⟩
  conv => whnf
  refine refNear (fun v4 h4 => ?_)
  cases v4 <;> conv => whnf
  all_goals exact ⟨rfl, h _ (by rw [← h1, ← h2, ← h3, ← h4]; rfl)⟩
theorem refNone0 {n : Int} {s : List Ob} {Q : AV → List Ob → Prop} (h : Q (SA n) s) : AC Try.prog 56 [.int .i64 n] s Q := by
  refine AC_pure rfl ?_
  refine AC_body tok 3 Try.func56 rfl (by kernel_rfl) ?_
  conv => whnf
  exact ⟨rfl, h⟩
theorem refPNone {s : List Ob} {Q : AV → List Ob → Prop} (h : Q (SA 16384) s) : AC Try.prog 19 [] s Q := by
  refine AC_pure rfl ?_
  refine AC_body tok 3 Try.func19 rfl (by kernel_rfl) ?_
  conv => whnf
  refine refNone0 ?_
  conv => whnf
  exact ⟨rfl, h⟩
theorem refPTurned {axis n : Int} (hn : I64 n) {s : List Ob} {Q : AV → List Ob → Prop} (h : Q (turnA axis (cosI n) (sinI n)) s) : AC Try.prog 20 [.int .i64 axis, .int .i64 n] s Q := by
  refine AC_pure rfl ?_
  refine AC_body tok 3 Try.func20 rfl (by kernel_rfl) ?_
  conv => whnf
  refine refPNone ?_
  conv => whnf
  refine refCos hn (fun c hc => ?_)
  conv => whnf
  refine refSin hn (fun sn hs => ?_)
  rw [← hc, ← hs] at h
  have sb := PT.sin_le n
  have e1 : Z.neg .i64 sn = -sn := by rw [show Z.neg .i64 sn = 0 - sn from Z.wrap_iid (by omega) (by omega)]; omega
  conv => whnf
  by_cases g0 : axis = 0
  · subst g0
    unfold turnA at h; rw [if_pos rfl] at h
    rw [← e1] at h
    conv => whnf
    exact ⟨rfl, h⟩
  by_cases g1 : axis = 1
  · subst g1
    unfold turnA at h; rw [if_neg (by omega), if_pos rfl] at h
    rw [← e1] at h
    conv => whnf
    exact ⟨rfl, h⟩
  by_cases g2 : axis = 2
  · subst g2
    unfold turnA at h; rw [if_neg (by omega), if_neg (by omega), if_pos rfl] at h
    rw [← e1] at h
    conv => whnf
    exact ⟨rfl, h⟩
  unfold turnA at h; rw [if_neg g0, if_neg g1, if_neg g2] at h
  rw [show (axis == 0) = false by rw [beq_eq_false_iff_ne]; exact g0]
  conv => whnf
  rw [show (axis == 1) = false by rw [beq_eq_false_iff_ne]; exact g1]
  conv => whnf
  rw [show (axis == 2) = false by rw [beq_eq_false_iff_ne]; exact g2]
  conv => whnf
  exact ⟨rfl, h⟩
theorem refPSized {n d : Int} {s : List Ob} {Q : AV → List Ob → Prop} (h : ∀ v, v = (if n < 1 ∨ d < 1 ∨ n > 64 ∨ d > 64 then 16384 else 16384 * n / d) → Q (SA v) s) : AC Try.prog 21 [.int .i64 n, .int .i64 d] s Q := by
  refine AC_pure rfl ?_
  refine AC_body tok 3 Try.func21 rfl (by kernel_rfl) ?_
  conv => whnf
  by_cases k : n < 1 ∨ d < 1 ∨ n > 64 ∨ d > 64
  · have h := h _ (by rw [if_pos k])
    by_cases k0 : n < 1
    · rw [decide_eq_true k0]
      conv => whnf
      refine refPNone ?_
      conv => whnf
      exact ⟨rfl, h⟩
    rw [decide_eq_false k0]
    conv => whnf
    by_cases k1 : d < 1
    · rw [decide_eq_true k1]
      conv => whnf
      refine refPNone ?_
      conv => whnf
      exact ⟨rfl, h⟩
    rw [decide_eq_false k1]
    conv => whnf
    by_cases k2 : n > 64
    · rw [decide_eq_true k2]
      conv => whnf
      refine refPNone ?_
      conv => whnf
      exact ⟨rfl, h⟩
    rw [decide_eq_false k2]
    conv => whnf
    rw [decide_eq_true (show d > 64 by omega)]
    conv => whnf
    refine refPNone ?_
    conv => whnf
    exact ⟨rfl, h⟩
  rw [decide_eq_false (show ¬ n < 1 by omega)]
  conv => whnf
  rw [decide_eq_false (show ¬ d < 1 by omega)]
  conv => whnf
  rw [decide_eq_false (show ¬ n > 64 by omega)]
  conv => whnf
  rw [decide_eq_false (show ¬ d > 64 by omega)]
  conv => whnf
  have e1 : Z.mul .i64 16384 n = 16384 * n := Z.wrap_iid (by omega) (by omega)
  refine refDiv (by rw [e1]; omega) (by rw [e1]; omega) (fun v hv => ?_)
  conv => whnf
  refine refNone0 ?_
  conv => whnf
  exact ⟨rfl, h _ (by rw [if_neg k, hv, e1]; unfold divI; rw [if_neg (by omega)])⟩
theorem refPMoved {x y z : Int} {s : List Ob} {Q : AV → List Ob → Prop} (h : ∀ u v w, (nearI x y z = true → u = x ∧ v = y ∧ w = z) → (nearI x y z = false → u = 0 ∧ v = 0 ∧ w = 0) → Q (.agg [.int .i64 16384, .int .i64 0, .int .i64 0, .int .i64 0, .int .i64 16384, .int .i64 0, .int .i64 0, .int .i64 0, .int .i64 16384, .int .i64 u, .int .i64 v, .int .i64 w]) s) : AC Try.prog 25 [.agg [.int .i64 x, .int .i64 y, .int .i64 z]] s Q := by
  refine AC_pure rfl ?_
  refine AC_body tok 3 Try.func25 rfl (by kernel_rfl) ?_
  conv => whnf
  refine refPNone ?_
  conv => whnf
  refine refNear (fun v hv => ?_)
  cases v
  · conv => whnf
    exact ⟨rfl, h _ _ _ (fun k => by rw [← hv] at k; cases k) (fun _ => ⟨rfl, rfl, rfl⟩)⟩
  · conv => whnf
    exact ⟨rfl, h _ _ _ (fun _ => ⟨rfl, rfl, rfl⟩) (fun k => by rw [← hv] at k; cases k)⟩
theorem refPPut {a b c d e f g i j p q r x y z : Int} {s : List Ob} {Q : AV → List Ob → Prop}
    (h : ∀ u v w, ((nearI a b c && (nearI d e f && (nearI g i j && nearI p q r))) && nearI x y z) = true → u = (a * x + b * y + c * z) / 16384 + p → v = (d * x + e * y + f * z) / 16384 + q → w = (g * x + i * y + j * z) / 16384 + r → Q (.agg [.int .i64 u, .int .i64 v, .int .i64 w]) s) (h0 : ((nearI a b c && (nearI d e f && (nearI g i j && nearI p q r))) && nearI x y z) = false → Q (.agg [.int .i64 0, .int .i64 0, .int .i64 0]) s) :
    AC Try.prog 24 [.agg [.int .i64 a, .int .i64 b, .int .i64 c, .int .i64 d, .int .i64 e, .int .i64 f, .int .i64 g, .int .i64 i, .int .i64 j, .int .i64 p, .int .i64 q, .int .i64 r], .agg [.int .i64 x, .int .i64 y, .int .i64 z]] s Q := by
  refine AC_pure rfl ?_
  refine AC_body tok 3 Try.func24 rfl (by kernel_rfl) ?_
  conv => whnf
  refine refRightP (fun v hv => ?_)
  rw [← hv] at h h0
  cases v
  · conv => whnf
    exact ⟨rfl, h0 rfl⟩
  conv => whnf
  refine refNear (fun w hw => ?_)
  rw [← hw] at h h0
  cases w
  · conv => whnf
    exact ⟨rfl, h0 rfl⟩
  conv => whnf
  have hv' := hv.symm
  rw [Bool.and_eq_true, Bool.and_eq_true, Bool.and_eq_true] at hv'
  obtain ⟨n1, n2, n3, n4⟩ := hv'
  have b1 := PV.dd_i a b c x y z
  have b2 := PV.dd_i d e f x y z
  have b3 := PV.dd_i g i j x y z
  have b4 := PV.near_iff.1 n4
  refine AW_draw tok hP ?_
  conv => whnf
  refine AQ_pure (fun s Q h => refRow (fun v hv => by rw [hv]; exact h)) ?_
  conv => whnf
  refine AQ_pure (fun s Q h => refRow (fun v hv => by rw [hv]; exact h)) ?_
  conv => whnf
  refine AQ_pure (fun s Q h => refRow (fun v hv => by rw [hv]; exact h)) ?_
  conv => whnf
  refine ⟨⟨by kernel_rfl⟩, ?_⟩
  conv => whnf
  refine ⟨rfl, h _ _ _ rfl ?_ ?_ ?_⟩
  · rw [show Z.add .i64 _ p = _ from Z.wrap_iid (by omega) (by omega), PV.dd_eq n1 hw.symm]
  · rw [show Z.add .i64 _ q = _ from Z.wrap_iid (by omega) (by omega), PV.dd_eq n2 hw.symm]
  · rw [show Z.add .i64 _ r = _ from Z.wrap_iid (by omega) (by omega), PV.dd_eq n3 hw.symm]
theorem refPRows {x y z a b c d e f g i j p q r : Int} {s : List Ob} {Q : AV → List Ob → Prop} (h : ∀ u v w, u = divI (dotI x y z a d g) 16384 → v = divI (dotI x y z b e i) 16384 → w = divI (dotI x y z c f j) 16384 → Q (.agg [.int .i64 u, .int .i64 v, .int .i64 w]) s) :
    AC Try.prog 60 [.agg [.int .i64 x, .int .i64 y, .int .i64 z], .agg [.int .i64 a, .int .i64 b, .int .i64 c, .int .i64 d, .int .i64 e, .int .i64 f, .int .i64 g, .int .i64 i, .int .i64 j, .int .i64 p, .int .i64 q, .int .i64 r]] s Q := by
  refine AC_pure rfl ?_
  refine AC_body tok 3 Try.func60 rfl (by kernel_rfl) ?_
  conv => whnf
  refine refRow (fun u hu => ?_)
  conv => whnf
  refine refRow (fun v hv => ?_)
  conv => whnf
  refine refRow (fun w hw => ?_)
  conv => whnf
  exact ⟨rfl, h _ _ _ hu hv hw⟩
theorem refPThen {a b c d e f g i j p q r a' b' c' d' e' f' g' i' j' p' q' r' : Int} {s : List Ob} {Q : AV → List Ob → Prop}
    (h0 : ((nearI a b c && (nearI d e f && (nearI g i j && nearI p q r))) && (nearI a' b' c' && (nearI d' e' f' && (nearI g' i' j' && nearI p' q' r')))) = false → Q (.agg [.int .i64 0, .int .i64 0, .int .i64 0, .int .i64 0, .int .i64 0, .int .i64 0, .int .i64 0, .int .i64 0, .int .i64 0, .int .i64 0, .int .i64 0, .int .i64 0]) s)
    (h : ((nearI a b c && (nearI d e f && (nearI g i j && nearI p q r))) && (nearI a' b' c' && (nearI d' e' f' && (nearI g' i' j' && nearI p' q' r')))) = true → ∀ m00 m01 m02 m10 m11 m12 m20 m21 m22 u v w, m00 = (a' * a + b' * d + c' * g) / 16384 → m01 = (a' * b + b' * e + c' * i) / 16384 → m02 = (a' * c + b' * f + c' * j) / 16384 → m10 = (d' * a + e' * d + f' * g) / 16384 → m11 = (d' * b + e' * e + f' * i) / 16384 → m12 = (d' * c + e' * f + f' * j) / 16384 → m20 = (g' * a + i' * d + j' * g) / 16384 → m21 = (g' * b + i' * e + j' * i) / 16384 → m22 = (g' * c + i' * f + j' * j) / 16384 → u = (a' * p + b' * q + c' * r) / 16384 + p' → v = (d' * p + e' * q + f' * r) / 16384 + q' → w = (g' * p + i' * q + j' * r) / 16384 + r' → Q (.agg [.int .i64 m00, .int .i64 m01, .int .i64 m02, .int .i64 m10, .int .i64 m11, .int .i64 m12, .int .i64 m20, .int .i64 m21, .int .i64 m22, .int .i64 u, .int .i64 v, .int .i64 w]) s) :
    AC Try.prog 22 [.agg [.int .i64 a, .int .i64 b, .int .i64 c, .int .i64 d, .int .i64 e, .int .i64 f, .int .i64 g, .int .i64 i, .int .i64 j, .int .i64 p, .int .i64 q, .int .i64 r], .agg [.int .i64 a', .int .i64 b', .int .i64 c', .int .i64 d', .int .i64 e', .int .i64 f', .int .i64 g', .int .i64 i', .int .i64 j', .int .i64 p', .int .i64 q', .int .i64 r']] s Q := by
  refine AC_pure rfl ?_
  refine AC_body tok 3 Try.func22 rfl (by kernel_rfl) ?_
  conv => whnf
  refine refRightP (fun v1 h1 => ?_)
  cases v1
  · conv => whnf
    exact ⟨rfl, h0 (by rw [← h1]; rfl)⟩
  conv => whnf
  refine refRightP (fun v2 h2 => ?_)
  cases v2
  · conv => whnf
    exact ⟨rfl, h0 (by rw [← h1, ← h2]; rfl)⟩
  conv => whnf
  have h1' := h1.symm; have h2' := h2.symm
  rw [Bool.and_eq_true, Bool.and_eq_true, Bool.and_eq_true] at h1' h2'
  obtain ⟨n1, n2, n3, n4⟩ := h1'
  obtain ⟨k1, k2, k3, k4⟩ := h2'
  have cc1 : nearI a d g = true := by rw [PV.near_iff] at *; omega
  have cc2 : nearI b e i = true := by rw [PV.near_iff] at *; omega
  have cc3 : nearI c f j = true := by rw [PV.near_iff] at *; omega
  refine AW_draw tok hP ?_
  conv => whnf
  refine AQ_pure (fun s Q h => refPRows (fun u v w hu hv hw => by rw [hu, hv, hw]; exact h)) ?_
  conv => whnf
  refine AQ_pure (fun s Q h => refPRows (fun u v w hu hv hw => by rw [hu, hv, hw]; exact h)) ?_
  conv => whnf
  refine AQ_pure (fun s Q h => refPRows (fun u v w hu hv hw => by rw [hu, hv, hw]; exact h)) ?_
  conv => whnf
  refine AQ_pure (fun s Q h => refPPut (fun u v w _ hu hv hw => by rw [hu, hv, hw]; exact h) (fun k => by rw [← h2, n4] at k; cases k)) ?_
  conv => whnf
  refine ⟨⟨by kernel_rfl⟩, ?_⟩
  conv => whnf
  exact ⟨rfl, h (by rw [← h1, ← h2]; rfl) _ _ _ _ _ _ _ _ _ _ _ _ (PV.dd_eq k1 cc1) (PV.dd_eq k1 cc2) (PV.dd_eq k1 cc3) (PV.dd_eq k2 cc1) (PV.dd_eq k2 cc2) (PV.dd_eq k2 cc3) (PV.dd_eq k3 cc1) (PV.dd_eq k3 cc2) (PV.dd_eq k3 cc3) rfl rfl rfl⟩
