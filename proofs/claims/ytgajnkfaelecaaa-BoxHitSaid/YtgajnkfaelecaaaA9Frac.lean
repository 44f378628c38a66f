/- Part of the proof of a law of the seat: its functions, walked. No condition. -/
import Derived.Test.YtgajnkfaelecaaaA9Wide
import Derived.Test.YtgajnkfaelecaaaPFrac
namespace Go.AW.A9
open Go Go.AW Go.Proofs
set_option maxRecDepth 100000
set_option linter.unusedVariables false
theorem fracMay {n d : Int} {s : List Ob} {Q : AV → List Ob → Prop} (h : ∀ v, v = decide (d > 0) → Q (.bool v) s) : AC Try.prog 71 [.agg [.int .i64 n, .int .i64 d]] s Q := by
  refine AC_pure rfl ?_
  refine AC_body tok 3 Try.func71 rfl (by kernel_rfl) ?_
  conv => whnf
  exact ⟨rfl, h _ rfl⟩
theorem fracRight {n d : Int} {s : List Ob} {Q : AV → List Ob → Prop} (h : ∀ v, v = decide (d > 0) → Q (.bool v) s) : AC Try.prog 47 [.agg [.int .i64 n, .int .i64 d]] s Q := by
  refine AC_pure rfl ?_
  refine AC_body tok 3 Try.func47 rfl (by kernel_rfl) ?_
  conv => whnf
  try (refine AW_draw tok hP ?_; conv => whnf)
  first | refine AQ_bool (fun sK QK hK => fracMay hK) (fun v hv => ?_) | refine fracMay (fun v hv => ?_)
  conv => whnf
  try (refine And.intro (OkD.mk (by kernel_rfl)) ?_; conv => whnf)
  exact ⟨rfl, h _ hv⟩
theorem fracCmp {n d m e : Int} (hn : I64 n) (hd : I64 d) (hm : I64 m) (he : I64 e) {s : List Ob} {Q : AV → List Ob → Prop} (h : ∀ v, v = cmp3 (n * e) (m * d) → Q (.int .i64 v) s) : AC Try.prog 80 [.agg [.int .i64 n, .int .i64 d], .agg [.int .i64 m, .int .i64 e]] s Q := by
  refine AC_pure rfl ?_
  refine AC_body tok 3 Try.func80 rfl (by kernel_rfl) ?_
  conv => whnf
  try (refine AW_draw tok hP ?_; conv => whnf)
  first | refine AQ_pure (fun sK QK hK => wideMul hn he hK) ?_ | refine wideMul hn he ?_
  conv => whnf
  try (refine And.intro (OkD.mk (by kernel_rfl)) ?_; conv => whnf)
  try (refine AW_draw tok hP ?_; conv => whnf)
  first | refine AQ_pure (fun sK QK hK => wideMul hm hd hK) ?_ | refine wideMul hm hd ?_
  conv => whnf
  try (refine And.intro (OkD.mk (by kernel_rfl)) ?_; conv => whnf)
  try (refine AW_draw tok hP ?_; conv => whnf)
  first | refine AQ_int (fun sK QK hK => wideCmpW hK) (fun v hv => ?_) | refine wideCmpW (fun v hv => ?_)
  conv => whnf
  try (refine And.intro (OkD.mk (by kernel_rfl)) ?_; conv => whnf)
  exact ⟨rfl, h _ hv⟩
theorem fracHeld {n d m e : Int} (hn : I64 n) (hd : I64 d) (hm : I64 m) (he : I64 e) {s : List Ob} {Q : AV → List Ob → Prop} (h : ∀ v, v = heldF n d m e → Q (.int .i64 v) s) : AC Try.prog 70 [.agg [.int .i64 n, .int .i64 d], .agg [.int .i64 m, .int .i64 e]] s Q := by
  refine AC_pure rfl ?_
  refine AC_body tok 3 Try.func70 rfl (by kernel_rfl) ?_
  conv => whnf
  try (refine AW_draw tok hP ?_; conv => whnf)
  first | refine AQ_bool (fun sK QK hK => fracRight hK) (fun v hv => ?_) | refine fracRight (fun v hv => ?_)
  conv => whnf
  try (refine And.intro (OkD.mk (by kernel_rfl)) ?_; conv => whnf)
  by_cases g : d > 0
  · obtain rfl : v = true := by rw [hv]; exact decide_eq_true g
    conv => whnf
    try (refine AW_draw tok hP ?_; conv => whnf)
    first | refine AQ_bool (fun sK QK hK => fracRight hK) (fun w hw => ?_) | refine fracRight (fun w hw => ?_)
    conv => whnf
    try (refine And.intro (OkD.mk (by kernel_rfl)) ?_; conv => whnf)
    by_cases g2 : e > 0
    · obtain rfl : w = true := by rw [hw]; exact decide_eq_true g2
      conv => whnf
      try (refine AW_draw tok hP ?_; conv => whnf)
      first | refine AQ_int (fun sK QK hK => fracCmp hn hd hm he hK) (fun c hc => ?_) | refine fracCmp hn hd hm he (fun c hc => ?_)
      conv => whnf
      try (refine And.intro (OkD.mk (by kernel_rfl)) ?_; conv => whnf)
      exact ⟨rfl, h _ (by unfold heldF; rw [if_pos ⟨g, g2⟩]; exact hc)⟩
    · obtain rfl : w = false := by rw [hw]; exact decide_eq_false g2
      conv => whnf
      exact ⟨rfl, h _ (by unfold heldF; rw [if_neg (by omega)])⟩
  · obtain rfl : v = false := by rw [hv]; exact decide_eq_false g
    conv => whnf
    exact ⟨rfl, h _ (by unfold heldF; rw [if_neg (by omega)])⟩
theorem fracLess {n d m e : Int} (hn : I64 n) (hd : I64 d) (hm : I64 m) (he : I64 e) {s : List Ob} {Q : AV → List Ob → Prop} (h : ∀ v, v = decide (heldF n d m e < 0) → Q (.bool v) s) : AC Try.prog 46 [.agg [.int .i64 n, .int .i64 d], .agg [.int .i64 m, .int .i64 e]] s Q := by
  refine AC_pure rfl ?_
  refine AC_body tok 3 Try.func46 rfl (by kernel_rfl) ?_
  conv => whnf
  try (refine AW_draw tok hP ?_; conv => whnf)
  first | refine AQ_int (fun sK QK hK => fracHeld hn hd hm he hK) (fun v hv => ?_) | refine fracHeld hn hd hm he (fun v hv => ?_)
  conv => whnf
  try (refine And.intro (OkD.mk (by kernel_rfl)) ?_; conv => whnf)
  exact ⟨rfl, h _ (by rw [hv])⟩
theorem fracMake {n d : Int} (hn : I64 n) (hd : I64 d) {s : List Ob} {Q : AV → List Ob → Prop} (h : ∀ a b ok, (a, b, ok) = makeF n d → Q (.tup [.agg [.int .i64 a, .int .i64 b], .bool ok]) s) : AC Try.prog 69 [.int .i64 n, .int .i64 d] s Q := by
  refine AC_pure rfl ?_
  refine AC_body tok 3 Try.func69 rfl (by kernel_rfl) ?_
  conv => whnf
  unfold makeF I64 at *
  by_cases g : d = 0
  · rw [show (d == 0) = true from beq_iff_eq.2 g]
    conv => whnf
    exact ⟨rfl, h _ _ _ (by rw [if_pos (.inl g)])⟩
  rw [show (d == 0) = false from beq_eq_false_iff_ne.2 g]
  conv => whnf
  have e1 : mmI false n d = -9223372036854775808 ↔ (n = -9223372036854775808 ∨ d = -9223372036854775808) := by
    rw [mn_eq]; split <;> omega
  by_cases g2 : n = -9223372036854775808 ∨ d = -9223372036854775808
  · rw [show (mmI false n d == -9223372036854775808) = true from beq_iff_eq.2 (e1.2 g2)]
    conv => whnf
    exact ⟨rfl, h _ _ _ (by rw [if_pos (.inr g2)])⟩
  rw [show (mmI false n d == -9223372036854775808) = false from beq_eq_false_iff_ne.2 (fun q => g2 (e1.1 q))]
  conv => whnf
  rw [if_neg (by omega)] at h
  by_cases g3 : d < 0
  · rw [decide_eq_true g3]
    conv => whnf
    rw [if_pos g3] at h
    have e2 : Z.neg .i64 n = -n := by rw [show Z.neg .i64 n = 0 - n from Z.wrap_iid (by omega) (by omega)]; omega
    have e3 : Z.neg .i64 d = -d := by rw [show Z.neg .i64 d = 0 - d from Z.wrap_iid (by omega) (by omega)]; omega
    exact ⟨rfl, h _ _ _ (by rw [e2, e3])⟩
  · rw [decide_eq_false g3]
    conv => whnf
    rw [if_neg g3] at h
    exact ⟨rfl, h _ _ _ rfl⟩
