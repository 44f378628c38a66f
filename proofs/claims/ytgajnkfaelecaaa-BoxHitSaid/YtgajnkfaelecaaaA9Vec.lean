/- Part of the proof of a law of the seat: its functions, walked. No condition. -/
import Derived.Test.YtgajnkfaelecaaaA9Num
import Derived.Test.YtgajnkfaelecaaaPVec
namespace Go.AW.A9
open Go Go.AW Go.Proofs
set_option maxRecDepth 100000
set_option linter.unusedVariables false
theorem vecOf {x y z : Int} {s : List Ob} {Q : AV → List Ob → Prop} (h : Q (.agg [.int .i64 x, .int .i64 y, .int .i64 z]) s) : AC Try.prog 49 [.agg [.int .i64 x, .int .i64 y, .int .i64 z]] s Q := by
  refine AC_pure rfl ?_
  refine AC_body tok 3 Try.func49 rfl (by kernel_rfl) ?_
  conv => whnf
  exact ⟨rfl, h⟩
theorem vecVec {x y z : Int} {s : List Ob} {Q : AV → List Ob → Prop} (h : Q (.agg [.int .i64 x, .int .i64 y, .int .i64 z]) s) : AC Try.prog 55 [.agg [.int .i64 x, .int .i64 y, .int .i64 z]] s Q := by
  refine AC_pure rfl ?_
  refine AC_body tok 3 Try.func55 rfl (by kernel_rfl) ?_
  conv => whnf
  exact ⟨rfl, h⟩
theorem vecMost {x y z : Int} (hx : I64 x) (hy : I64 y) (hz : I64 z) {s : List Ob} {Q : AV → List Ob → Prop} (h : ∀ v, v = mostI x y z → Q (.int .i64 v) s) : AC Try.prog 50 [.agg [.int .i64 x, .int .i64 y, .int .i64 z]] s Q := by
  refine AC_pure rfl ?_
  refine AC_body tok 12 Try.func50 rfl (by kernel_rfl) ?_
  unfold I64 at *
  conv => whnf
  refine numTimes hx.1 hx.2 (by omega) (by omega) (fun p hp => ?_)
  conv => whnf
  refine numTimes hy.1 hy.2 (by omega) (by omega) (fun q hq => ?_)
  conv => whnf
  refine numTimes hz.1 hz.2 (by omega) (by omega) (fun r hr => ?_)
  conv => whnf
  exact ⟨rfl, h _ (by rw [hp, hq, hr]; rfl)⟩
theorem vecNear {x y z : Int} (hx : I64 x) (hy : I64 y) (hz : I64 z) {s : List Ob} {Q : AV → List Ob → Prop} (h : ∀ v, v = nearI x y z → Q (.bool v) s) : AC Try.prog 43 [.agg [.int .i64 x, .int .i64 y, .int .i64 z]] s Q := by
  refine AC_pure rfl ?_
  refine AC_body tok 3 Try.func43 rfl (by kernel_rfl) ?_
  conv => whnf
  refine vecOf ?_
  conv => whnf
  refine vecMost hx hy hz (fun v hv => ?_)
  conv => whnf
  exact ⟨rfl, h _ (by rw [← PV.most_near hx hy hz, hv])⟩
theorem vecNear2 {e : TypeId} {i : Nat} {a b c x y z : Int} (ha : I64 a) (hb : I64 b) (hc : I64 c) (hx : I64 x) (hy : I64 y) (hz : I64 z) {s : List Ob} (hs : s[i]? = some (.row true e [.ik .i64, .ik .i64, .ik .i64] [[a, b, c], [x, y, z]])) {Q : AV → List Ob → Prop} (h : ∀ v, v = (nearI a b c && nearI x y z) → Q (.bool v) s) : AC Try.prog 60 [.sl i 0 2 none] s Q := by
  refine AC_read (args' := [.sl 0 0 2 none]) (L := [.row true e [.ik .i64, .ik .i64, .ik .i64] [[a, b, c], [x, y, z]]]) [i] (by simp) rfl rfl (by rintro (_ | i') j ob h1 h2 <;> simp at h1 h2; subst h1 h2; exact hs) ?_
  refine AC_body tok 12 Try.func60 rfl (by kernel_rfl) ?_
  conv => whnf
  refine vecNear ha hb hc (fun v hv => ?_)
  cases v
  · conv => whnf
    exact ⟨rfl, rfl, h _ (by rw [← hv]; rfl)⟩
  · conv => whnf
    refine vecNear hx hy hz (fun w hw => ?_)
    cases w
    · conv => whnf
      exact ⟨rfl, rfl, h _ (by rw [← hv, ← hw]; rfl)⟩
    · conv => whnf
      exact ⟨rfl, rfl, h _ (by rw [← hv, ← hw]; rfl)⟩
theorem vecAdd {a b c x y z : Int} (ha : I64 a) (hb : I64 b) (hc : I64 c) (hx : I64 x) (hy : I64 y) (hz : I64 z) {s : List Ob} {Q : AV → List Ob → Prop} (h : ∀ u v w, u = plusI a x → v = plusI b y → w = plusI c z → Q (.agg [.int .i64 u, .int .i64 v, .int .i64 w]) s) : AC Try.prog 57 [.agg [.int .i64 a, .int .i64 b, .int .i64 c], .agg [.int .i64 x, .int .i64 y, .int .i64 z]] s Q := by
  refine AC_pure rfl ?_
  refine AC_body tok 12 Try.func57 rfl (by kernel_rfl) ?_
  unfold I64 at *
  conv => whnf
  refine AW_draw tok hP ?_
  conv => whnf
  refine AQ_pure (fun s Q h => vecOf h) ?_
  conv => whnf
  refine AQ_pure (fun s Q h => vecOf h) ?_
  conv => whnf
  refine ⟨⟨by kernel_rfl⟩, ?_⟩
  conv => whnf
  refine AW_draw tok hP ?_
  conv => whnf
  refine AQ_pure (fun s Q h => numPlus ha.1 ha.2 hx.1 hx.2 (fun v hv => by rw [hv]; exact h)) ?_
  conv => whnf
  refine ⟨⟨by kernel_rfl⟩, ?_⟩
  conv => whnf
  refine AW_draw tok hP ?_
  conv => whnf
  refine AQ_pure (fun s Q h => numPlus hb.1 hb.2 hy.1 hy.2 (fun v hv => by rw [hv]; exact h)) ?_
  conv => whnf
  refine ⟨⟨by kernel_rfl⟩, ?_⟩
  conv => whnf
  refine AW_draw tok hP ?_
  conv => whnf
  refine AQ_pure (fun s Q h => numPlus hc.1 hc.2 hz.1 hz.2 (fun v hv => by rw [hv]; exact h)) ?_
  conv => whnf
  refine ⟨⟨by kernel_rfl⟩, ?_⟩
  conv => whnf
  refine vecVec ?_
  conv => whnf
  exact ⟨rfl, h _ _ _ rfl rfl rfl⟩
theorem vecInner {a b c x y z : Int} {s : List Ob} {Q : AV → List Ob → Prop} (h : ∀ u, u = Z.add .i64 (Z.add .i64 (Z.add .i64 0 (Z.mul .i64 a x)) (Z.mul .i64 b y)) (Z.mul .i64 c z) → Q (.int .i64 u) s) : AC Try.prog 64 [.agg [.int .i64 a, .int .i64 b, .int .i64 c], .agg [.int .i64 x, .int .i64 y, .int .i64 z]] s Q := by
  refine AC_pure rfl ?_
  refine AC_body tok 12 Try.func64 rfl (by kernel_rfl) ?_
  conv => whnf
  refine vecOf ?_
  conv => whnf
  refine vecOf ?_
  conv => whnf
  exact ⟨rfl, h _ rfl⟩
theorem vecDot {a b c x y z : Int} (ha : I64 a) (hb : I64 b) (hc : I64 c) (hx : I64 x) (hy : I64 y) (hz : I64 z) {s : List Ob} {Q : AV → List Ob → Prop} (h : ∀ u, u = dotI a b c x y z → Q (.int .i64 u) s) : AC Try.prog 37 [.agg [.int .i64 a, .int .i64 b, .int .i64 c], .agg [.int .i64 x, .int .i64 y, .int .i64 z]] s Q := by
  refine AC_pure rfl ?_
  refine AC_body tok 12 Try.func37 rfl (by kernel_rfl) ?_
  conv => whnf
  refine vecNear2 ha hb hc hx hy hz rfl (fun v hv => ?_)
  by_cases g : nearI a b c = true ∧ nearI x y z = true
  · obtain rfl : v = true := hv.trans (by rw [g.1, g.2]; rfl)
    conv => whnf
    refine vecInner (fun u hu => ?_)
    conv => whnf
    refine ⟨rfl, h _ ?_⟩
    obtain ⟨⟨p1, p2⟩, ⟨q1, q2⟩, r1, r2⟩ := PV.dot_le g.1 g.2
    unfold dotI; rw [if_pos g, hu]
    have e1 : Z.mul .i64 a x = a * x := Z.wrap_iid (by omega) (by omega)
    have e2 : Z.mul .i64 b y = b * y := Z.wrap_iid (by omega) (by omega)
    have e3 : Z.mul .i64 c z = c * z := Z.wrap_iid (by omega) (by omega)
    rw [e1, e2, e3]
    have f1 : Z.add .i64 0 (a * x) = a * x := by rw [show Z.add .i64 0 (a * x) = 0 + a * x from Z.wrap_iid (by omega) (by omega)]; omega
    have f2 : Z.add .i64 (a * x) (b * y) = a * x + b * y := Z.wrap_iid (by omega) (by omega)
    rw [f1, f2]
    exact Z.wrap_iid (by omega) (by omega)
  · obtain rfl : v = false := hv.trans (by rw [Bool.eq_false_iff, ne_eq, Bool.and_eq_true]; exact g)
    conv => whnf
    exact ⟨rfl, h _ (by unfold dotI; rw [if_neg g])⟩
theorem refWithin6 {x y z n : Int} (hn : 0 ≤ n) (hn' : n < 9223372036854775808) {s : List Ob} {Q : AV → List Ob → Prop} (h : ∀ v, v = decide ((-n ≤ x ∧ x ≤ n) ∧ (-n ≤ y ∧ y ≤ n) ∧ (-n ≤ z ∧ z ≤ n)) → Q (.bool v) s) : AC Try.prog 39 [.agg [.int .i64 x, .int .i64 y, .int .i64 z], .int .i64 n] s Q := by
  refine AC_pure rfl ?_
  refine AC_body tok 3 Try.func39 rfl (by kernel_rfl) ?_
  conv => whnf
  have e1 : Z.neg .i64 n = -n := by rw [show Z.neg .i64 n = 0 - n from Z.wrap_iid (by omega) (by omega)]; omega
  by_cases k0 : x ≥ Z.neg .i64 n
  case neg => rw [decide_eq_false k0]; conv => whnf
              exact ⟨rfl, h _ (by symm; rw [decide_eq_false_iff_not]; omega)⟩
  rw [decide_eq_true k0]; conv => whnf
  by_cases k1 : x ≤ n
  case neg => rw [decide_eq_false k1]; conv => whnf
              exact ⟨rfl, h _ (by symm; rw [decide_eq_false_iff_not]; omega)⟩
  rw [decide_eq_true k1]; conv => whnf
  by_cases k2 : y ≥ Z.neg .i64 n
  case neg => rw [decide_eq_false k2]; conv => whnf
              exact ⟨rfl, h _ (by symm; rw [decide_eq_false_iff_not]; omega)⟩
  rw [decide_eq_true k2]; conv => whnf
  by_cases k3 : y ≤ n
  case neg => rw [decide_eq_false k3]; conv => whnf
              exact ⟨rfl, h _ (by symm; rw [decide_eq_false_iff_not]; omega)⟩
  rw [decide_eq_true k3]; conv => whnf
  by_cases k4 : z ≥ Z.neg .i64 n
  case neg => rw [decide_eq_false k4]; conv => whnf
              exact ⟨rfl, h _ (by symm; rw [decide_eq_false_iff_not]; omega)⟩
  rw [decide_eq_true k4]; conv => whnf
  exact ⟨rfl, h _ (by exact decide_eq_decide.2 (by omega))⟩
theorem refNear {x y z : Int} {s : List Ob} {Q : AV → List Ob → Prop} (h : ∀ v, v = nearI x y z → Q (.bool v) s) : AC Try.prog 16 [.agg [.int .i64 x, .int .i64 y, .int .i64 z]] s Q := by
  refine AC_pure rfl ?_
  refine AC_body tok 3 Try.func16 rfl (by kernel_rfl) ?_
  conv => whnf
  refine refWithin6 (by omega) (by omega) (fun v hv => ?_)
  conv => whnf
  exact ⟨rfl, h _ hv⟩
