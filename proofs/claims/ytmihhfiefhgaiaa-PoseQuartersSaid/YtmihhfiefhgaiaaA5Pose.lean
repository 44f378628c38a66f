/- Part of the proof of a law of the seat: its functions, walked. No condition. -/
import Derived.Test.YtmihhfiefhgaiaaA5Vec
import Derived.Test.YtmihhfiefhgaiaaA5Trig
namespace Go.AW.A5
open Go Go.AW Go.Proofs
set_option maxRecDepth 100000
set_option linter.unusedVariables false
theorem poseRow {x y z : Int} {s : List Ob} {Q : AV → List Ob → Prop} (h : Q (.agg [.int .i64 x, .int .i64 y, .int .i64 z]) s) : AC Try.prog 52 [.agg [.int .i64 x, .int .i64 y, .int .i64 z]] s Q := by
  refine AC_pure rfl ?_
  refine AC_body tok 3 Try.func52 rfl (by kernel_rfl) ?_
  conv => whnf
  exact ⟨rfl, h⟩
theorem posePose {a b c d e f g i j : Int} {s : List Ob} {Q : AV → List Ob → Prop} (h : Q (.agg [.int .i64 a, .int .i64 b, .int .i64 c, .int .i64 d, .int .i64 e, .int .i64 f, .int .i64 g, .int .i64 i, .int .i64 j, .int .i64 0, .int .i64 0, .int .i64 0]) s) : AC Try.prog 48 [.agg [.int .i64 a, .int .i64 b, .int .i64 c, .int .i64 d, .int .i64 e, .int .i64 f, .int .i64 g, .int .i64 i, .int .i64 j]] s Q := by
  refine AC_pure rfl ?_
  refine AC_body tok 3 Try.func48 rfl (by kernel_rfl) ?_
  conv => whnf
  refine AW_draw tok hP ?_
  conv => whnf
  refine AQ_pure (fun s Q h => poseRow h) ?_
  conv => whnf
  refine AQ_pure (fun s Q h => poseRow h) ?_
  conv => whnf
  refine AQ_pure (fun s Q h => poseRow h) ?_
  conv => whnf
  refine ⟨⟨by kernel_rfl⟩, ?_⟩
  conv => whnf
  exact ⟨rfl, h⟩
theorem poseOf {a b c d e f g i j x y z : Int} {s : List Ob} {Q : AV → List Ob → Prop} (h : Q (.agg [.int .i64 a, .int .i64 b, .int .i64 c, .int .i64 d, .int .i64 e, .int .i64 f, .int .i64 g, .int .i64 i, .int .i64 j]) s) : AC Try.prog 49 [.agg [.int .i64 a, .int .i64 b, .int .i64 c, .int .i64 d, .int .i64 e, .int .i64 f, .int .i64 g, .int .i64 i, .int .i64 j, .int .i64 x, .int .i64 y, .int .i64 z]] s Q := by
  refine AC_pure rfl ?_
  refine AC_body tok 20 Try.func49 rfl (by kernel_rfl) ?_
  conv => whnf
  exact ⟨rfl, h⟩
theorem poseSized {n : Int} {s : List Ob} {Q : AV → List Ob → Prop} (h : Q (.agg [.int .i64 n, .int .i64 0, .int .i64 0, .int .i64 0, .int .i64 n, .int .i64 0, .int .i64 0, .int .i64 0, .int .i64 n]) s) : AC Try.prog 47 [.int .i64 n] s Q := by
  refine AC_pure rfl ?_
  refine AC_body tok 20 Try.func47 rfl (by kernel_rfl) ?_
  conv => whnf
  exact ⟨rfl, h⟩
/-- the pose of a size -/
abbrev SA (n : Int) : AV := .agg [.int .i64 n, .int .i64 0, .int .i64 0, .int .i64 0, .int .i64 n, .int .i64 0, .int .i64 0, .int .i64 0, .int .i64 n, .int .i64 0, .int .i64 0, .int .i64 0]
theorem poseNone {s : List Ob} {Q : AV → List Ob → Prop} (h : Q (SA 16384) s) : AC Try.prog 10 [] s Q := by
  refine AC_pure rfl ?_
  refine AC_body tok 3 Try.func10 rfl (by kernel_rfl) ?_
  conv => whnf
  refine poseSized ?_
  conv => whnf
  refine posePose ?_
  conv => whnf
  exact ⟨rfl, h⟩
theorem poseRight {a b c d e f g i j x y z : Int} (ha : I64 a) (hb : I64 b) (hc : I64 c) (hd : I64 d) (he : I64 e) (hf : I64 f) (hg : I64 g) (hi : I64 i) (hj : I64 j) (hx : I64 x) (hy : I64 y) (hz : I64 z) {s : List Ob} {Q : AV → List Ob → Prop} (h : ∀ v, v = (nearI a b c && (nearI d e f && (nearI g i j && nearI x y z))) → Q (.bool v) s) : AC Try.prog 16 [.agg [.int .i64 a, .int .i64 b, .int .i64 c, .int .i64 d, .int .i64 e, .int .i64 f, .int .i64 g, .int .i64 i, .int .i64 j, .int .i64 x, .int .i64 y, .int .i64 z]] s Q := by
  refine AC_pure rfl ?_
  refine AC_body tok 20 Try.func16 rfl (by kernel_rfl) ?_
  conv => whnf
  refine vecNear ha hb hc (fun v1 h1 => ?_)
  cases v1
  · conv => whnf
    exact ⟨rfl, h _ (by rw [← h1]; rfl)⟩
  conv => whnf
  refine vecNear hd he hf (fun v2 h2 => ?_)
  cases v2
  · conv => whnf
    exact ⟨rfl, h _ (by rw [← h1, ← h2]; rfl)⟩
  conv => whnf
  refine vecNear hg hi hj (fun v3 h3 => ?_)
  cases v3
  · conv => whnf
    exact ⟨rfl, h _ (by rw [← h1, ← h2, ← h3]; rfl)⟩
  conv => whnf
  refine vecNear hx hy hz (fun v4 h4 => ?_)
  cases v4 <;> conv => whnf
  all_goals exact ⟨rfl, h _ (by rw [← h1, ← h2, ← h3, ← h4]; rfl)⟩
/-- the pose of a turn -/
def turnA (axis c s : Int) : AV :=
  if axis = 0 then .agg [.int .i64 16384, .int .i64 0, .int .i64 0, .int .i64 0, .int .i64 c, .int .i64 (-s), .int .i64 0, .int .i64 s, .int .i64 c, .int .i64 0, .int .i64 0, .int .i64 0]
  else if axis = 1 then .agg [.int .i64 c, .int .i64 0, .int .i64 s, .int .i64 0, .int .i64 16384, .int .i64 0, .int .i64 (-s), .int .i64 0, .int .i64 c, .int .i64 0, .int .i64 0, .int .i64 0]
  else if axis = 2 then .agg [.int .i64 c, .int .i64 (-s), .int .i64 0, .int .i64 s, .int .i64 c, .int .i64 0, .int .i64 0, .int .i64 0, .int .i64 16384, .int .i64 0, .int .i64 0, .int .i64 0]
  else SA 16384
theorem poseTurned {axis n : Int} (hn : I64 n) {s : List Ob} {Q : AV → List Ob → Prop} (h : Q (turnA axis (cosI n) (sinI n)) s) : AC Try.prog 8 [.int .i64 axis, .int .i64 n] s Q := by
  refine AC_pure rfl ?_
  refine AC_body tok 3 Try.func8 rfl (by kernel_rfl) ?_
  conv => whnf
  by_cases g0 : axis = 0
  · subst g0
    unfold turnA at h; rw [if_pos rfl] at h
    conv => whnf
    refine trigBoth hn (fun c sn hc hs => ?_)
    rw [← hc, ← hs] at h
    have sb := PT.sin_le n
    have e1 : Z.neg .i64 sn = -sn := by rw [show Z.neg .i64 sn = 0 - sn from Z.wrap_iid (by omega) (by omega)]; omega
    rw [← e1] at h
    conv => whnf
    refine poseSized ?_
    conv => whnf
    refine AW_draw tok hP ?_
    conv => whnf
    refine ⟨⟨by kernel_rfl⟩, ?_⟩
    conv => whnf
    refine AW_draw tok hP ?_
    conv => whnf
    refine ⟨⟨by kernel_rfl⟩, ?_⟩
    conv => whnf
    refine posePose ?_
    conv => whnf
    exact ⟨rfl, h⟩
  by_cases g1 : axis = 1
  · subst g1
    unfold turnA at h; rw [if_neg (by omega), if_pos rfl] at h
    conv => whnf
    refine trigBoth hn (fun c sn hc hs => ?_)
    rw [← hc, ← hs] at h
    have sb := PT.sin_le n
    have e1 : Z.neg .i64 sn = -sn := by rw [show Z.neg .i64 sn = 0 - sn from Z.wrap_iid (by omega) (by omega)]; omega
    rw [← e1] at h
    conv => whnf
    refine poseSized ?_
    conv => whnf
    refine AW_draw tok hP ?_
    conv => whnf
    refine ⟨⟨by kernel_rfl⟩, ?_⟩
    conv => whnf
    refine AW_draw tok hP ?_
    conv => whnf
    refine ⟨⟨by kernel_rfl⟩, ?_⟩
    conv => whnf
    refine posePose ?_
    conv => whnf
    exact ⟨rfl, h⟩
  by_cases g2 : axis = 2
  · subst g2
    unfold turnA at h; rw [if_neg (by omega), if_neg (by omega), if_pos rfl] at h
    conv => whnf
    refine trigBoth hn (fun c sn hc hs => ?_)
    rw [← hc, ← hs] at h
    have sb := PT.sin_le n
    have e1 : Z.neg .i64 sn = -sn := by rw [show Z.neg .i64 sn = 0 - sn from Z.wrap_iid (by omega) (by omega)]; omega
    rw [← e1] at h
    conv => whnf
    refine poseSized ?_
    conv => whnf
    refine AW_draw tok hP ?_
    conv => whnf
    refine ⟨⟨by kernel_rfl⟩, ?_⟩
    conv => whnf
    refine AW_draw tok hP ?_
    conv => whnf
    refine ⟨⟨by kernel_rfl⟩, ?_⟩
    conv => whnf
    refine posePose ?_
    conv => whnf
    exact ⟨rfl, h⟩
  unfold turnA at h; rw [if_neg g0, if_neg g1, if_neg g2] at h
  by_cases k : axis < 0
  · rw [decide_eq_true k]
    conv => whnf
    refine poseNone ?_
    conv => whnf
    exact ⟨rfl, h⟩
  rw [decide_eq_false k]
  conv => whnf
  rw [decide_eq_true (show axis > 2 by omega)]
  conv => whnf
  refine poseNone ?_
  conv => whnf
  exact ⟨rfl, h⟩
theorem poseSz {n d : Int} {s : List Ob} {Q : AV → List Ob → Prop} (h : ∀ v, v = (if n < 1 ∨ d < 1 ∨ n > 64 ∨ d > 64 then 16384 else 16384 * n / d) → Q (SA v) s) : AC Try.prog 14 [.int .i64 n, .int .i64 d] s Q := by
  refine AC_pure rfl ?_
  refine AC_body tok 3 Try.func14 rfl (by kernel_rfl) ?_
  conv => whnf
  have m := mn_spec n d
  have m2 := mx_spec n d
  by_cases k : n < 1 ∨ d < 1 ∨ n > 64 ∨ d > 64
  · have h := h _ (by rw [if_pos k])
    by_cases k1 : mmI false n d < 1
    · rw [decide_eq_true k1]
      conv => whnf
      refine poseNone ?_
      conv => whnf
      exact ⟨rfl, h⟩
    rw [decide_eq_false k1]
    conv => whnf
    rw [decide_eq_true (show mmI true n d > 64 by omega)]
    conv => whnf
    refine poseNone ?_
    conv => whnf
    exact ⟨rfl, h⟩
  rw [decide_eq_false (show ¬ mmI false n d < 1 by omega)]
  conv => whnf
  rw [decide_eq_false (show ¬ mmI true n d > 64 by omega)]
  conv => whnf
  refine nzI (show d ≠ 0 by omega) ?_
  conv => whnf
  have e1 : Z.mul .i64 16384 n = 16384 * n := Z.wrap_iid (by omega) (by omega)
  have h := h _ rfl
  rw [if_neg k, ← quo_pos (by omega) (by omega) (by omega), ← e1] at h
  refine poseSized ?_
  conv => whnf
  refine posePose ?_
  conv => whnf
  exact ⟨rfl, h⟩
theorem poseMoved {x y z : Int} (hx : I64 x) (hy : I64 y) (hz : I64 z) {s : List Ob} {Q : AV → List Ob → Prop} (h : ∀ u v w, (nearI x y z = true → u = x ∧ v = y ∧ w = z) → (nearI x y z = false → u = 0 ∧ v = 0 ∧ w = 0) → Q (.agg [.int .i64 16384, .int .i64 0, .int .i64 0, .int .i64 0, .int .i64 16384, .int .i64 0, .int .i64 0, .int .i64 0, .int .i64 16384, .int .i64 u, .int .i64 v, .int .i64 w]) s) : AC Try.prog 15 [.agg [.int .i64 x, .int .i64 y, .int .i64 z]] s Q := by
  refine AC_pure rfl ?_
  refine AC_body tok 3 Try.func15 rfl (by kernel_rfl) ?_
  conv => whnf
  refine poseNone ?_
  conv => whnf
  refine vecNear hx hy hz (fun v hv => ?_)
  cases v
  · conv => whnf
    exact ⟨rfl, h _ _ _ (fun k => by rw [← hv] at k; cases k) (fun _ => ⟨rfl, rfl, rfl⟩)⟩
  · conv => whnf
    exact ⟨rfl, h _ _ _ (fun _ => ⟨rfl, rfl, rfl⟩) (fun k => by rw [← hv] at k; cases k)⟩
theorem poseBy {a b c d e f g i j x y z : Int} (ha : I64 a) (hb : I64 b) (hc : I64 c) (hd : I64 d) (he : I64 e) (hf : I64 f) (hg : I64 g) (hi : I64 i) (hj : I64 j) (hx : I64 x) (hy : I64 y) (hz : I64 z) {s : List Ob} {Q : AV → List Ob → Prop} (h : ∀ u v w, u = divI (dotI a b c x y z) 16384 → v = divI (dotI d e f x y z) 16384 → w = divI (dotI g i j x y z) 16384 → Q (.agg [.int .i64 u, .int .i64 v, .int .i64 w]) s) : AC Try.prog 51 [.agg [.int .i64 a, .int .i64 b, .int .i64 c, .int .i64 d, .int .i64 e, .int .i64 f, .int .i64 g, .int .i64 i, .int .i64 j], .agg [.int .i64 x, .int .i64 y, .int .i64 z]] s Q := by
  refine AC_pure rfl ?_
  refine AC_body tok 20 Try.func51 rfl (by kernel_rfl) ?_
  conv => whnf
  refine AW_draw tok hP ?_
  conv => whnf
  refine AQ_pure (fun s Q h => poseRow h) ?_
  conv => whnf
  refine AQ_pure (fun s Q h => vecDot ha hb hc hx hy hz (fun v hv => by rw [hv]; exact h)) ?_
  conv => whnf
  refine AQ_pure (fun s Q h => numDiv (by have := PV.dot_i a b c x y z; omega) (by have := PV.dot_i a b c x y z; omega) (fun v hv => by rw [hv]; exact h)) ?_
  conv => whnf
  refine ⟨⟨by kernel_rfl⟩, ?_⟩
  conv => whnf
  refine AW_draw tok hP ?_
  conv => whnf
  refine AQ_pure (fun s Q h => poseRow h) ?_
  conv => whnf
  refine AQ_pure (fun s Q h => vecDot hd he hf hx hy hz (fun v hv => by rw [hv]; exact h)) ?_
  conv => whnf
  refine AQ_pure (fun s Q h => numDiv (by have := PV.dot_i d e f x y z; omega) (by have := PV.dot_i d e f x y z; omega) (fun v hv => by rw [hv]; exact h)) ?_
  conv => whnf
  refine ⟨⟨by kernel_rfl⟩, ?_⟩
  conv => whnf
  refine AW_draw tok hP ?_
  conv => whnf
  refine AQ_pure (fun s Q h => poseRow h) ?_
  conv => whnf
  refine AQ_pure (fun s Q h => vecDot hg hi hj hx hy hz (fun v hv => by rw [hv]; exact h)) ?_
  conv => whnf
  refine AQ_pure (fun s Q h => numDiv (by have := PV.dot_i g i j x y z; omega) (by have := PV.dot_i g i j x y z; omega) (fun v hv => by rw [hv]; exact h)) ?_
  conv => whnf
  refine ⟨⟨by kernel_rfl⟩, ?_⟩
  conv => whnf
  exact ⟨rfl, h _ _ _ rfl rfl rfl⟩
theorem poseOver {a b c d e f g i j : Int} {s : List Ob} {Q : AV → List Ob → Prop} (h : Q (.agg [.int .i64 a, .int .i64 d, .int .i64 g, .int .i64 b, .int .i64 e, .int .i64 i, .int .i64 c, .int .i64 f, .int .i64 j]) s) : AC Try.prog 50 [.agg [.int .i64 a, .int .i64 b, .int .i64 c, .int .i64 d, .int .i64 e, .int .i64 f, .int .i64 g, .int .i64 i, .int .i64 j]] s Q := by
  refine AC_pure rfl ?_
  refine AC_body tok 20 Try.func50 rfl (by kernel_rfl) ?_
  conv => whnf
  exact ⟨rfl, h⟩
theorem posePut {a b c d e f g i j p q r x y z : Int} (ha : I64 a) (hb : I64 b) (hc : I64 c) (hd : I64 d) (he : I64 e) (hf : I64 f) (hg : I64 g) (hi : I64 i) (hj : I64 j) (hp : I64 p) (hq : I64 q) (hr : I64 r) (hx : I64 x) (hy : I64 y) (hz : I64 z) {s : List Ob} {Q : AV → List Ob → Prop}
    (h : ∀ u v w, ((nearI a b c && (nearI d e f && (nearI g i j && nearI p q r)) && nearI x y z) = true → u = (a * x + b * y + c * z) / 16384 + p ∧ v = (d * x + e * y + f * z) / 16384 + q ∧ w = (g * x + i * y + j * z) / 16384 + r) → ((nearI a b c && (nearI d e f && (nearI g i j && nearI p q r)) && nearI x y z) = false → u = 0 ∧ v = 0 ∧ w = 0) → Q (.agg [.int .i64 u, .int .i64 v, .int .i64 w]) s) :
    AC Try.prog 12 [.agg [.int .i64 a, .int .i64 b, .int .i64 c, .int .i64 d, .int .i64 e, .int .i64 f, .int .i64 g, .int .i64 i, .int .i64 j, .int .i64 p, .int .i64 q, .int .i64 r], .agg [.int .i64 x, .int .i64 y, .int .i64 z]] s Q := by
  refine AC_pure rfl ?_
  refine AC_body tok 3 Try.func12 rfl (by kernel_rfl) ?_
  conv => whnf
  refine poseRight ha hb hc hd he hf hg hi hj hp hq hr (fun v hv => ?_)
  rw [← hv] at h
  cases v
  · conv => whnf
    exact ⟨rfl, h _ _ _ (fun k => by cases k) (fun _ => ⟨rfl, rfl, rfl⟩)⟩
  conv => whnf
  refine vecNear hx hy hz (fun w hw => ?_)
  rw [← hw] at h
  cases w
  · conv => whnf
    exact ⟨rfl, h _ _ _ (fun k => by cases k) (fun _ => ⟨rfl, rfl, rfl⟩)⟩
  conv => whnf
  have hv' := hv.symm
  rw [Bool.and_eq_true, Bool.and_eq_true, Bool.and_eq_true] at hv'
  obtain ⟨n1, n2, n3, n4⟩ := hv'
  refine AW_draw tok hP ?_
  conv => whnf
  refine AQ_pure (fun s Q h => poseOf h) ?_
  conv => whnf
  refine AQ_pure (fun s Q h => poseBy ha hb hc hd he hf hg hi hj hx hy hz (fun u v w hu hv hw => by rw [hu, hv, hw]; exact h)) ?_
  conv => whnf
  refine AQ_pure (fun s Q h => poseRow h) ?_
  conv => whnf
  refine AQ_pure (fun s Q h => vecAdd (PV.dd_I ..) (PV.dd_I ..) (PV.dd_I ..) hp hq hr (fun u v w hu hv hw => by rw [hu, hv, hw]; exact h)) ?_
  conv => whnf
  refine ⟨⟨by kernel_rfl⟩, ?_⟩
  conv => whnf
  have b1 := PV.dd_i a b c x y z
  have b2 := PV.dd_i d e f x y z
  have b3 := PV.dd_i g i j x y z
  have b4 := PV.near_iff.1 n4
  refine ⟨rfl, h _ _ _ (fun _ => ?_) (fun k => by cases k)⟩
  rw [PV.plus_eq (by omega) (by omega), PV.plus_eq (by omega) (by omega), PV.plus_eq (by omega) (by omega), PV.dd_eq n1 hw.symm, PV.dd_eq n2 hw.symm, PV.dd_eq n3 hw.symm]
  exact ⟨rfl, rfl, rfl⟩
theorem poseThen {a b c d e f g i j p q r a' b' c' d' e' f' g' i' j' p' q' r' : Int} (ha : I64 a) (hb : I64 b) (hc : I64 c) (hd : I64 d) (he : I64 e) (hf : I64 f) (hg : I64 g) (hi : I64 i) (hj : I64 j) (hp : I64 p) (hq : I64 q) (hr : I64 r)
    (ha' : I64 a') (hb' : I64 b') (hc' : I64 c') (hd' : I64 d') (he' : I64 e') (hf' : I64 f') (hg' : I64 g') (hi' : I64 i') (hj' : I64 j') (hp' : I64 p') (hq' : I64 q') (hr' : I64 r') {s : List Ob} {Q : AV → List Ob → Prop}
    (h0 : ((nearI a b c && (nearI d e f && (nearI g i j && nearI p q r))) && (nearI a' b' c' && (nearI d' e' f' && (nearI g' i' j' && nearI p' q' r')))) = false → Q (.agg [.int .i64 0, .int .i64 0, .int .i64 0, .int .i64 0, .int .i64 0, .int .i64 0, .int .i64 0, .int .i64 0, .int .i64 0, .int .i64 0, .int .i64 0, .int .i64 0]) s)
    (h : ((nearI a b c && (nearI d e f && (nearI g i j && nearI p q r))) && (nearI a' b' c' && (nearI d' e' f' && (nearI g' i' j' && nearI p' q' r')))) = true → ∀ m00 m01 m02 m10 m11 m12 m20 m21 m22 u v w, m00 = (a' * a + b' * d + c' * g) / 16384 → m01 = (a' * b + b' * e + c' * i) / 16384 → m02 = (a' * c + b' * f + c' * j) / 16384 → m10 = (d' * a + e' * d + f' * g) / 16384 → m11 = (d' * b + e' * e + f' * i) / 16384 → m12 = (d' * c + e' * f + f' * j) / 16384 → m20 = (g' * a + i' * d + j' * g) / 16384 → m21 = (g' * b + i' * e + j' * i) / 16384 → m22 = (g' * c + i' * f + j' * j) / 16384 → u = (a' * p + b' * q + c' * r) / 16384 + p' → v = (d' * p + e' * q + f' * r) / 16384 + q' → w = (g' * p + i' * q + j' * r) / 16384 + r' → Q (.agg [.int .i64 m00, .int .i64 m01, .int .i64 m02, .int .i64 m10, .int .i64 m11, .int .i64 m12, .int .i64 m20, .int .i64 m21, .int .i64 m22, .int .i64 u, .int .i64 v, .int .i64 w]) s) :
    AC Try.prog 9 [.agg [.int .i64 a, .int .i64 b, .int .i64 c, .int .i64 d, .int .i64 e, .int .i64 f, .int .i64 g, .int .i64 i, .int .i64 j, .int .i64 p, .int .i64 q, .int .i64 r], .agg [.int .i64 a', .int .i64 b', .int .i64 c', .int .i64 d', .int .i64 e', .int .i64 f', .int .i64 g', .int .i64 i', .int .i64 j', .int .i64 p', .int .i64 q', .int .i64 r']] s Q := by
  refine AC_pure rfl ?_
  refine AC_body tok 20 Try.func9 rfl (by kernel_rfl) ?_
  conv => whnf
  refine poseRight ha hb hc hd he hf hg hi hj hp hq hr (fun v1 h1 => ?_)
  cases v1
  · conv => whnf
    exact ⟨rfl, h0 (by rw [← h1]; rfl)⟩
  conv => whnf
  refine poseRight ha' hb' hc' hd' he' hf' hg' hi' hj' hp' hq' hr' (fun v2 h2 => ?_)
  cases v2
  · conv => whnf
    exact ⟨rfl, h0 (by rw [← h1, ← h2]; rfl)⟩
  conv => whnf
  refine AW_draw tok hP ?_
  conv => whnf
  refine AQ_pure (fun s Q h => poseOf h) ?_
  conv => whnf
  refine AQ_pure (fun s Q h => poseOver h) ?_
  conv => whnf
  refine AQ_pure (fun s Q h => poseOf h) ?_
  conv => whnf
  refine ⟨⟨by kernel_rfl⟩, ?_⟩
  conv => whnf
  refine AW_draw tok hP ?_
  conv => whnf
  refine AQ_pure (fun s Q h => poseRow h) ?_
  conv => whnf
  refine AQ_pure (fun s Q h => poseBy ha' hb' hc' hd' he' hf' hg' hi' hj' ha hd hg (fun u v w hu hv hw => by rw [hu, hv, hw]; exact h)) ?_
  conv => whnf
  refine ⟨⟨by kernel_rfl⟩, ?_⟩
  conv => whnf
  refine AW_draw tok hP ?_
  conv => whnf
  refine AQ_pure (fun s Q h => poseRow h) ?_
  conv => whnf
  refine AQ_pure (fun s Q h => poseBy ha' hb' hc' hd' he' hf' hg' hi' hj' hb he hi (fun u v w hu hv hw => by rw [hu, hv, hw]; exact h)) ?_
  conv => whnf
  refine ⟨⟨by kernel_rfl⟩, ?_⟩
  conv => whnf
  refine AW_draw tok hP ?_
  conv => whnf
  refine AQ_pure (fun s Q h => poseRow h) ?_
  conv => whnf
  refine AQ_pure (fun s Q h => poseBy ha' hb' hc' hd' he' hf' hg' hi' hj' hc hf hj (fun u v w hu hv hw => by rw [hu, hv, hw]; exact h)) ?_
  conv => whnf
  refine ⟨⟨by kernel_rfl⟩, ?_⟩
  conv => whnf
  refine poseOver ?_
  conv => whnf
  refine posePose ?_
  conv => whnf
  have h1' := h1.symm; have h2' := h2.symm
  rw [Bool.and_eq_true, Bool.and_eq_true, Bool.and_eq_true] at h1' h2'
  obtain ⟨n1, n2, n3, n4⟩ := h1'
  obtain ⟨k1, k2, k3, k4⟩ := h2'
  have cc1 : nearI a d g = true := by rw [PV.near_iff] at *; omega
  have cc2 : nearI b e i = true := by rw [PV.near_iff] at *; omega
  have cc3 : nearI c f j = true := by rw [PV.near_iff] at *; omega
  refine posePut ha' hb' hc' hd' he' hf' hg' hi' hj' hp' hq' hr' hp hq hr (fun u v w hu _ => ?_)
  obtain ⟨hu, hv, hw⟩ := hu (by rw [k1, k2, k3, k4, n4]; rfl)
  have h := h (by rw [← h1, ← h2]; rfl) _ _ _ _ _ _ _ _ _ u v w (PV.dd_eq k1 cc1) (PV.dd_eq k1 cc2) (PV.dd_eq k1 cc3) (PV.dd_eq k2 cc1) (PV.dd_eq k2 cc2) (PV.dd_eq k2 cc3) (PV.dd_eq k3 cc1) (PV.dd_eq k3 cc2) (PV.dd_eq k3 cc3) hu hv hw
  conv => whnf
  exact ⟨rfl, h⟩
