/- Part of the proof of a law of the seat: its functions, walked. No condition. -/
import Derived.Test.YtgajnkfaelecaaaA9Trig
import Derived.Test.YtgajnkfaelecaaaA9Basis
import Derived.Test.YtgajnkfaelecaaaPSpread
namespace Go.AW.A9
open Go Go.AW Go.Proofs
set_option maxRecDepth 100000
set_option linter.unusedVariables false
theorem AQ_tri {P : Program} {f : FuncId} {args : List AV} {s : List Ob} {K : List Nat → AV → List (Nat × Ob) → List Ob → Prop} {t : Int × Int × Int} (h : ∀ (s : List Ob) (Q : AV → List Ob → Prop), (∀ u v w, (u, v, w) = t → Q (.agg [.int .i64 u, .int .i64 v, .int .i64 w]) s) → AC P f args s Q) (hk : ∀ u v w, (u, v, w) = t → K [] (.agg [.int .i64 u, .int .i64 v, .int .i64 w]) [] []) : AQ P f args s K :=
  AQ_pure (fun s Q q => h s Q fun u v w hu => by rw [← hu] at q; exact q) (hk t.1 t.2.1 t.2.2 rfl)
theorem AQ_uni {P : Program} {f : FuncId} {args : List AV} {s : List Ob} {K : List Nat → AV → List (Nat × Ob) → List Ob → Prop} {t : Int × Int × Int} {b : Bool} (h : ∀ (s : List Ob) (Q : AV → List Ob → Prop), (∀ o u v w, (u, v, w) = t → o = b → Q (.tup [.agg [.int .i64 u, .int .i64 v, .int .i64 w], .bool o]) s) → AC P f args s Q) (hk : ∀ o u v w, (u, v, w) = t → o = b → K [] (.tup [.agg [.int .i64 u, .int .i64 v, .int .i64 w], .bool o]) [] []) : AQ P f args s K :=
  AQ_pure (fun s Q q => h s Q fun o u v w hu ho => by rw [← hu, ← ho] at q; exact q) (hk b t.1 t.2.1 t.2.2 rfl rfl)
theorem spreadRing {r k : Int} (hk : I64 k) {s : List Ob} {Q : AV → List Ob → Prop} (h : ∀ u v, u = ringC r k → v = ringS r k → Q (.tup [.int .i64 u, .int .i64 v]) s) : AC Try.prog 76 [.int .i64 r, .int .i64 k] s Q := by
  refine AC_pure rfl ?_
  refine AC_body tok 3 Try.func76 rfl (by kernel_rfl) ?_
  conv => whnf
  have no : ¬ (0 ≤ r ∧ r ≤ 16384) → Q (.tup [.int .i64 0, .int .i64 0]) s := fun g => h _ _ (by unfold ringC; rw [if_neg g]) (by unfold ringS; rw [if_neg g])
  generalize hB : decide ((_ : Int) < 0) = bB
  replace hB : decide (r < 0) = bB := hB
  by_cases g1 : r < 0
  · rw [decide_eq_true g1] at hB; subst hB
    conv => whnf
    exact ⟨rfl, no (by omega)⟩
  rw [decide_eq_false g1] at hB; subst hB
  conv => whnf
  generalize hB : decide ((_ : Int) > 16384) = bB
  replace hB : decide (r > 16384) = bB := hB
  by_cases g2 : r > 16384
  · rw [decide_eq_true g2] at hB; subst hB
    conv => whnf
    exact ⟨rfl, no (by omega)⟩
  rw [decide_eq_false g2] at hB; subst hB
  conv => whnf
  unfold ringC ringS at h
  rw [if_pos ⟨by omega, by omega⟩, if_pos ⟨by omega, by omega⟩] at h
  try (refine AW_draw tok hP ?_; conv => whnf)
  first | refine AQ_two (fun sK QK hK => trigBoth hk hK) (fun c sn hc hs => ?_) | refine trigBoth hk (fun c sn hc hs => ?_)
  conv => whnf
  try (refine And.intro (OkD.mk (by kernel_rfl)) ?_; conv => whnf)
  have b1 := PT.cos_le k; have b2 := PT.sin_le k
  rw [← hc] at b1 h; rw [← hs] at b2 h
  have m1 := PS.mul_b b1 (r := r) (by omega); have m2 := PS.mul_b b2 (r := r) (by omega)
  have e1 : Z.mul .i64 c r = c * r := Z.wrap_iid (by omega) (by omega)
  have e2 : Z.mul .i64 sn r = sn * r := Z.wrap_iid (by omega) (by omega)
  have ed : ∀ k : Int, divI k 16384 = k / 16384 := fun k => by unfold divI; rw [if_neg (by omega)]
  try (refine AW_draw tok hP ?_; conv => whnf)
  first | refine AQ_int (fun sK QK hK => numDiv (a := Z.mul .i64 c r) (by rw [e1]; omega) (by rw [e1]; omega) hK) (fun q1 h1 => ?_) | refine numDiv (a := Z.mul .i64 c r) (by rw [e1]; omega) (by rw [e1]; omega) (fun q1 h1 => ?_)
  conv => whnf
  try (refine And.intro (OkD.mk (by kernel_rfl)) ?_; conv => whnf)
  try (refine AW_draw tok hP ?_; conv => whnf)
  first | refine AQ_int (fun sK QK hK => numDiv (a := Z.mul .i64 sn r) (by rw [e2]; omega) (by rw [e2]; omega) hK) (fun q2 h2 => ?_) | refine numDiv (a := Z.mul .i64 sn r) (by rw [e2]; omega) (by rw [e2]; omega) (fun q2 h2 => ?_)
  conv => whnf
  try (refine And.intro (OkD.mk (by kernel_rfl)) ?_; conv => whnf)
  exact ⟨rfl, h _ _ (by rw [h1, ed, e1]) (by rw [h2, ed, e2])⟩
theorem spreadDisc {u k : Int} (hu : I64 u) (hk : I64 k) {s : List Ob} {Q : AV → List Ob → Prop} (h : ∀ x y, x = ringC (discR u) k → y = ringS (discR u) k → Q (.tup [.int .i64 x, .int .i64 y]) s) : AC Try.prog 61 [.int .i64 u, .int .i64 k] s Q := by
  refine AC_pure rfl ?_
  refine AC_body tok 3 Try.func61 rfl (by kernel_rfl) ?_
  conv => whnf
  try (refine AW_draw tok hP ?_; conv => whnf)
  first | refine AQ_int (fun sK QK hK => numMod hu.1 hu.2 (by omega) hK) (fun m hm => ?_) | refine numMod hu.1 hu.2 (by omega) (fun m hm => ?_)
  conv => whnf
  try (refine And.intro (OkD.mk (by kernel_rfl)) ?_; conv => whnf)
  rw [PT.mod_w] at hm
  have e1 : Z.mul .i64 m 4096 = m * 4096 := Z.wrap_iid (by omega) (by omega)
  have e2 : IntKind.u64.wrap (Z.mul .i64 m 4096) = m * 4096 := by rw [e1]; exact Z.wrap_uid (by omega) (by omega)
  rw [e2]
  try (refine AW_draw tok hP ?_; conv => whnf)
  first | refine AQ_int (fun sK QK hK => numRoot (by omega) (by omega) hK) (fun r hr => ?_) | refine numRoot (by omega) (by omega) (fun r hr => ?_)
  conv => whnf
  try (refine And.intro (OkD.mk (by kernel_rfl)) ?_; conv => whnf)
  replace hr : r = discR u := by rw [hr, hm]; rfl
  try (refine AW_draw tok hP ?_; conv => whnf)
  first | refine AQ_two (fun sK QK hK => spreadRing hk hK) (fun c sn hc hs => ?_) | refine spreadRing hk (fun c sn hc hs => ?_)
  conv => whnf
  try (refine And.intro (OkD.mk (by kernel_rfl)) ?_; conv => whnf)
  exact ⟨rfl, h _ _ (by rw [hc, hr]) (by rw [hs, hr])⟩
theorem refAdd6 {a b c x y z : Int} (ha : I64 a) (hb : I64 b) (hc : I64 c) (hx : I64 x) (hy : I64 y) (hz : I64 z) {s : List Ob} {Q : AV → List Ob → Prop} (h : ∀ u v w, u = plusI a x → v = plusI b y → w = plusI c z → Q (.agg [.int .i64 u, .int .i64 v, .int .i64 w]) s) : AC Try.prog 19 [.agg [.int .i64 a, .int .i64 b, .int .i64 c], .agg [.int .i64 x, .int .i64 y, .int .i64 z]] s Q := by
  refine AC_pure rfl ?_
  refine AC_body tok 12 Try.func19 rfl (by kernel_rfl) ?_
  conv => whnf
  try (refine AW_draw tok hP ?_; conv => whnf)
  first | refine AQ_int (fun sK QK hK => refPlus ha.1 ha.2 hx.1 hx.2 hK) (fun u h1 => ?_) | refine refPlus ha.1 ha.2 hx.1 hx.2 (fun u h1 => ?_)
  conv => whnf
  try (refine And.intro (OkD.mk (by kernel_rfl)) ?_; conv => whnf)
  try (refine AW_draw tok hP ?_; conv => whnf)
  first | refine AQ_int (fun sK QK hK => refPlus hb.1 hb.2 hy.1 hy.2 hK) (fun v h2 => ?_) | refine refPlus hb.1 hb.2 hy.1 hy.2 (fun v h2 => ?_)
  conv => whnf
  try (refine And.intro (OkD.mk (by kernel_rfl)) ?_; conv => whnf)
  try (refine AW_draw tok hP ?_; conv => whnf)
  first | refine AQ_int (fun sK QK hK => refPlus hc.1 hc.2 hz.1 hz.2 hK) (fun w h3 => ?_) | refine refPlus hc.1 hc.2 hz.1 hz.2 (fun w h3 => ?_)
  conv => whnf
  try (refine And.intro (OkD.mk (by kernel_rfl)) ?_; conv => whnf)
  exact ⟨rfl, h _ _ _ h1 h2 h3⟩
/-- a call that reads some objects -/
theorem AQ_rd {P : Program} {f : FuncId} {args : List AV} {s : List Ob} {K : List Nat → AV → List (Nat × Ob) → List Ob → Prop} (C : List Nat) {r : AV} (h : ∀ (s' : List Ob) (Q : AV → List Ob → Prop), (∀ i ∈ C, s'[i]? = s[i]?) → Q r s' → AC P f args s' Q) (hk : K C r [] []) : AQ P f args s K :=
  ⟨C, r, [], [], fun s' _ hC _ => h s' _ hC ⟨rfl, by simp [setsL]⟩, hk⟩
