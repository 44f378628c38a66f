/- Part of the proof of a law of the seat: its functions, walked. No condition. -/
import Derived.Test.YtpfcppkggnngiaaA6Wide
import Derived.Test.YtpfcppkggnngiaaPFrac
namespace Go.AW.A6
open Go Go.AW Go.Proofs
set_option maxRecDepth 100000
set_option linter.unusedVariables false
theorem fracMay {n d : Int} {s : List Ob} {Q : AV → List Ob → Prop} (h : ∀ v, v = decide (d > 0) → Q (.bool v) s) : AC Try.prog 57 [.agg [.int .i64 n, .int .i64 d]] s Q := by
  refine AC_pure rfl ?_
  refine AC_body tok 3 Try.func57 rfl (by kernel_rfl) ?_
  conv => whnf
  exact ⟨rfl, h _ rfl⟩
theorem fracRight {n d : Int} {s : List Ob} {Q : AV → List Ob → Prop} (h : ∀ v, v = decide (d > 0) → Q (.bool v) s) : AC Try.prog 32 [.agg [.int .i64 n, .int .i64 d]] s Q := by
  refine AC_pure rfl ?_
  refine AC_body tok 3 Try.func32 rfl (by kernel_rfl) ?_
  conv => whnf
  try (refine AW_draw tok hP ?_; conv => whnf)
  first | refine AQ_bool (fun sK QK hK => fracMay hK) (fun v hv => ?_) | refine fracMay (fun v hv => ?_)
  conv => whnf
  try (refine And.intro (OkD.mk (by kernel_rfl)) ?_; conv => whnf)
  exact ⟨rfl, h _ hv⟩
theorem fracCmp {n d m e : Int} (hn : I64 n) (hd : I64 d) (hm : I64 m) (he : I64 e) {s : List Ob} {Q : AV → List Ob → Prop} (h : ∀ v, v = cmp3 (n * e) (m * d) → Q (.int .i64 v) s) : AC Try.prog 64 [.agg [.int .i64 n, .int .i64 d], .agg [.int .i64 m, .int .i64 e]] s Q := by
  refine AC_pure rfl ?_
  refine AC_body tok 3 Try.func64 rfl (by kernel_rfl) ?_
  conv => whnf
  try (refine AW_draw tok hP ?_; conv => whnf)
  first | refine AQ_pure (fun sK QK hK => wideMul hn he hK) ?_ | refine wideMul hn he ?_
  conv => whnf
  try (refine And.intro (OkD.mk (by kernel_rfl)) ?_; conv => whnf)
  try (refine AW_draw tok hP ?_; conv => whnf)
  first | refine AQ_pure (fun sK QK hK => wideMul hm hd hK) ?_ | refine wideMul hm hd ?_
  conv => whnf
  try (refine And.intro (OkD.mk (by kernel_rfl)) ?_; conv => whnf)
  try (refine AW_draw tok hP ?_; conv => whnf)
  first | refine AQ_int (fun sK QK hK => wideCmpW hK) (fun v hv => ?_) | refine wideCmpW (fun v hv => ?_)
  conv => whnf
  try (refine And.intro (OkD.mk (by kernel_rfl)) ?_; conv => whnf)
  exact ⟨rfl, h _ hv⟩
theorem fracHeld {n d m e : Int} (hn : I64 n) (hd : I64 d) (hm : I64 m) (he : I64 e) {s : List Ob} {Q : AV → List Ob → Prop} (h : ∀ v, v = heldF n d m e → Q (.int .i64 v) s) : AC Try.prog 56 [.agg [.int .i64 n, .int .i64 d], .agg [.int .i64 m, .int .i64 e]] s Q := by
  refine AC_pure rfl ?_
  refine AC_body tok 3 Try.func56 rfl (by kernel_rfl) ?_
  conv => whnf
  try (refine AW_draw tok hP ?_; conv => whnf)
  first | refine AQ_bool (fun sK QK hK => fracRight hK) (fun v hv => ?_) | refine fracRight (fun v hv => ?_)
  conv => whnf
  try (refine And.intro (OkD.mk (by kernel_rfl)) ?_; conv => whnf)
  by_cases g : d > 0
  · obtain rfl : v = true := by rw [hv]; exact decide_eq_true g
    conv => whnf
    try (refine AW_draw tok hP ?_; conv => whnf)
    first | refine AQ_bool (fun sK QK hK => fracRight hK) (fun w hw => ?_) | refine fracRight (fun w hw => ?_)
    conv => whnf
    try (refine And.intro (OkD.mk (by kernel_rfl)) ?_; conv => whnf)
    by_cases g2 : e > 0
    · obtain rfl : w = true := by rw [hw]; exact decide_eq_true g2
      conv => whnf
      try (refine AW_draw tok hP ?_; conv => whnf)
      first | refine AQ_int (fun sK QK hK => fracCmp hn hd hm he hK) (fun c hc => ?_) | refine fracCmp hn hd hm he (fun c hc => ?_)
      conv => whnf
      try (refine And.intro (OkD.mk (by kernel_rfl)) ?_; conv => whnf)
      exact ⟨rfl, h _ (by unfold heldF; rw [if_pos ⟨g, g2⟩]; exact hc)⟩
    · obtain rfl : w = false := by rw [hw]; exact decide_eq_false g2
      conv => whnf
      exact ⟨rfl, h _ (by unfold heldF; rw [if_neg (by omega)])⟩
  · obtain rfl : v = false := by rw [hv]; exact decide_eq_false g
    conv => whnf
    exact ⟨rfl, h _ (by unfold heldF; rw [if_neg (by omega)])⟩
theorem fracLess {n d m e : Int} (hn : I64 n) (hd : I64 d) (hm : I64 m) (he : I64 e) {s : List Ob} {Q : AV → List Ob → Prop} (h : ∀ v, v = decide (heldF n d m e < 0) → Q (.bool v) s) : AC Try.prog 27 [.agg [.int .i64 n, .int .i64 d], .agg [.int .i64 m, .int .i64 e]] s Q := by
  refine AC_pure rfl ?_
  refine AC_body tok 3 Try.func27 rfl (by kernel_rfl) ?_
  conv => whnf
  try (refine AW_draw tok hP ?_; conv => whnf)
  first | refine AQ_int (fun sK QK hK => fracHeld hn hd hm he hK) (fun v hv => ?_) | refine fracHeld hn hd hm he (fun v hv => ?_)
  conv => whnf
  try (refine And.intro (OkD.mk (by kernel_rfl)) ?_; conv => whnf)
  exact ⟨rfl, h _ (by rw [hv])⟩
theorem fracSame {n d m e : Int} (hn : I64 n) (hd : I64 d) (hm : I64 m) (he : I64 e) {s : List Ob} {Q : AV → List Ob → Prop} (h : ∀ v, v = (heldF n d m e == 0) → Q (.bool v) s) : AC Try.prog 28 [.agg [.int .i64 n, .int .i64 d], .agg [.int .i64 m, .int .i64 e]] s Q := by
  refine AC_pure rfl ?_
  refine AC_body tok 3 Try.func28 rfl (by kernel_rfl) ?_
  conv => whnf
  try (refine AW_draw tok hP ?_; conv => whnf)
  first | refine AQ_int (fun sK QK hK => fracHeld hn hd hm he hK) (fun v hv => ?_) | refine fracHeld hn hd hm he (fun v hv => ?_)
  conv => whnf
  try (refine And.intro (OkD.mk (by kernel_rfl)) ?_; conv => whnf)
  exact ⟨rfl, h _ (by rw [hv])⟩
theorem fracAt {v n d : Int} (hv : I64 v) (hn : I64 n) (hd : I64 d) {s : List Ob} {Q : AV → List Ob → Prop} (h : ∀ r, r = atF v n d → Q (.int .i64 r) s) : AC Try.prog 29 [.int .i64 v, .agg [.int .i64 n, .int .i64 d]] s Q := by
  refine AC_pure rfl ?_
  refine AC_body tok 3 Try.func29 rfl (by kernel_rfl) ?_
  conv => whnf
  try (refine AW_draw tok hP ?_; conv => whnf)
  first | refine AQ_bool (fun sK QK hK => fracRight hK) (fun b hb => ?_) | refine fracRight (fun b hb => ?_)
  conv => whnf
  try (refine And.intro (OkD.mk (by kernel_rfl)) ?_; conv => whnf)
  by_cases g : d > 0
  · obtain rfl : b = true := by rw [hb]; exact decide_eq_true g
    conv => whnf
    try (refine AW_draw tok hP ?_; conv => whnf)
    first | refine AQ_pure (fun sK QK hK => wideMul hv hn hK) ?_ | refine wideMul hv hn ?_
    conv => whnf
    try (refine And.intro (OkD.mk (by kernel_rfl)) ?_; conv => whnf)
    have pm := PW.mul_i hv hn
    try (refine AW_draw tok hP ?_; conv => whnf)
    first | refine AQ_ib (fun sK QK hK => wideOverW (x := v * n) (by unfold I128; omega) hd hK) (fun q ok h1 h2 => ?_) | refine wideOverW (x := v * n) (by unfold I128; omega) hd (fun q ok h1 h2 => ?_)
    conv => whnf
    try (refine And.intro (OkD.mk (by kernel_rfl)) ?_; conv => whnf)
    have e : (v * n) / d < 0 ↔ v * n < 0 := by rw [PW.div_lt g, Int.zero_mul]
    unfold overI at h1
    unfold overB at h2
    by_cases k : 1 ≤ d ∧ -9223372036854775808 ≤ v * n / d ∧ v * n / d < 9223372036854775808
    · obtain rfl : ok = true := by rw [h2]; exact decide_eq_true k
      rw [if_pos k] at h1
      conv => whnf
      exact ⟨rfl, h _ (by unfold atF clampI; rw [if_pos g, if_neg (by omega), if_neg (by omega)]; exact h1)⟩
    · obtain rfl : ok = false := by rw [h2]; exact decide_eq_false k
      conv => whnf
      by_cases g3 : v * n < 0
      · rw [decide_eq_true (show whi (v * n) < 0 by unfold whi; omega)]
        conv => whnf
        exact ⟨rfl, h _ (by unfold atF clampI; rw [if_pos g, if_pos (by omega)])⟩
      · rw [decide_eq_false (show ¬ whi (v * n) < 0 by unfold whi; omega)]
        conv => whnf
        exact ⟨rfl, h _ (by unfold atF clampI; rw [if_pos g, if_neg (by omega), if_pos (by omega)])⟩
  · obtain rfl : b = false := by rw [hb]; exact decide_eq_false g
    conv => whnf
    exact ⟨rfl, h _ (by unfold atF; rw [if_neg g])⟩
theorem fracMake {n d : Int} (hn : I64 n) (hd : I64 d) {s : List Ob} {Q : AV → List Ob → Prop} (h : ∀ a b ok, (a, b, ok) = makeF n d → Q (.tup [.agg [.int .i64 a, .int .i64 b], .bool ok]) s) : AC Try.prog 30 [.int .i64 n, .int .i64 d] s Q := by
  refine AC_pure rfl ?_
  refine AC_body tok 3 Try.func30 rfl (by kernel_rfl) ?_
  conv => whnf
  unfold makeF I64 at *
  by_cases g : d = 0
  · rw [show (d == 0) = true from beq_iff_eq.2 g]
    conv => whnf
    exact ⟨rfl, h _ _ _ (by rw [if_pos (.inl g)])⟩
  rw [show (d == 0) = false from beq_eq_false_iff_ne.2 g]
  conv => whnf
  have e1 : mmI false n d = -9223372036854775808 ↔ (n = -9223372036854775808 ∨ d = -9223372036854775808) := by
    rw [mn_eq]; split <;> omega
  by_cases g2 : n = -9223372036854775808 ∨ d = -9223372036854775808
  · rw [show (mmI false n d == -9223372036854775808) = true from beq_iff_eq.2 (e1.2 g2)]
    conv => whnf
    exact ⟨rfl, h _ _ _ (by rw [if_pos (.inr g2)])⟩
  rw [show (mmI false n d == -9223372036854775808) = false from beq_eq_false_iff_ne.2 (fun q => g2 (e1.1 q))]
  conv => whnf
  rw [if_neg (by omega)] at h
  by_cases g3 : d < 0
  · rw [decide_eq_true g3]
    conv => whnf
    rw [if_pos g3] at h
    have e2 : Z.neg .i64 n = -n := by rw [show Z.neg .i64 n = 0 - n from Z.wrap_iid (by omega) (by omega)]; omega
    have e3 : Z.neg .i64 d = -d := by rw [show Z.neg .i64 d = 0 - d from Z.wrap_iid (by omega) (by omega)]; omega
    exact ⟨rfl, h _ _ _ (by rw [e2, e3])⟩
  · rw [decide_eq_false g3]
    conv => whnf
    rw [if_neg g3] at h
    exact ⟨rfl, h _ _ _ rfl⟩
theorem fracMid {n d m e : Int} (hn : I64 n) (hd : I64 d) (hm : I64 m) (he : I64 e) {s : List Ob} {Q : AV → List Ob → Prop} (h : ∀ a b, a = (if smallF n d ∧ smallF m e then n + m else 0) → b = (if smallF n d ∧ smallF m e then d + e else 0) → Q (.agg [.int .i64 a, .int .i64 b]) s) : AC Try.prog 39 [.agg [.int .i64 n, .int .i64 d], .agg [.int .i64 m, .int .i64 e]] s Q := by
  refine AC_pure rfl ?_
  refine AC_body tok 3 Try.func39 rfl (by kernel_rfl) ?_
  conv => whnf
  have no : ∀ {a b : Int}, ¬ (smallF n d ∧ smallF m e) → a = 0 → b = 0 → Q (.agg [.int .i64 a, .int .i64 b]) s := fun q h1 h2 => h _ _ (by rw [if_neg q]; exact h1) (by rw [if_neg q]; exact h2)
  unfold I64 at *
  have mm : ∀ (n d : Int), -9223372036854775808 ≤ n ∧ n < 9223372036854775808 → ((mmI true (mmI true n (Z.neg .i64 n)) d > 2147483648 ∨ n < -2147483648 ∨ d < 1) ↔ ¬ smallF n d) := by
    intro n d hn
    unfold smallF
    rw [mx_eq, mx_eq]
    have e2 : Z.neg .i64 n = -n ∨ n = -9223372036854775808 := by
      by_cases q : n = -9223372036854775808
      · exact .inr q
      · left; rw [show Z.neg .i64 n = 0 - n from IntWalk.i64_in _ ⟨by omega, by omega⟩]; omega
    split <;> split <;> omega
  have mm1 := mm n d hn
  have mm2 := mm m e hm
  generalize hB : decide ((_ : Int) < 1) = bB
  replace hB : decide (d < 1) = bB := hB
  by_cases g1 : d < 1
  · rw [decide_eq_true g1] at hB; subst hB
    conv => whnf
    exact ⟨rfl, no (fun q => mm1.1 (.inr (.inr g1)) q.1) rfl rfl⟩
  rw [decide_eq_false g1] at hB; subst hB
  conv => whnf
  generalize hB : decide ((_ : Int) > 2147483648) = bB
  replace hB : decide (mmI true (mmI true n (Z.neg .i64 n)) d > 2147483648) = bB := hB
  by_cases g2 : mmI true (mmI true n (Z.neg .i64 n)) d > 2147483648
  · rw [decide_eq_true g2] at hB; subst hB
    conv => whnf
    exact ⟨rfl, no (fun q => mm1.1 (.inl g2) q.1) rfl rfl⟩
  rw [decide_eq_false g2] at hB; subst hB
  conv => whnf
  generalize hB : decide ((_ : Int) < -2147483648) = bB
  replace hB : decide (n < -2147483648) = bB := hB
  by_cases g3 : n < -2147483648
  · rw [decide_eq_true g3] at hB; subst hB
    conv => whnf
    exact ⟨rfl, no (fun q => mm1.1 (.inr (.inl g3)) q.1) rfl rfl⟩
  rw [decide_eq_false g3] at hB; subst hB
  conv => whnf
  generalize hB : decide ((_ : Int) < 1) = bB
  replace hB : decide (e < 1) = bB := hB
  by_cases g4 : e < 1
  · rw [decide_eq_true g4] at hB; subst hB
    conv => whnf
    exact ⟨rfl, no (fun q => mm2.1 (.inr (.inr g4)) q.2) rfl rfl⟩
  rw [decide_eq_false g4] at hB; subst hB
  conv => whnf
  generalize hB : decide ((_ : Int) > 2147483648) = bB
  replace hB : decide (mmI true (mmI true m (Z.neg .i64 m)) e > 2147483648) = bB := hB
  by_cases g5 : mmI true (mmI true m (Z.neg .i64 m)) e > 2147483648
  · rw [decide_eq_true g5] at hB; subst hB
    conv => whnf
    exact ⟨rfl, no (fun q => mm2.1 (.inl g5) q.2) rfl rfl⟩
  rw [decide_eq_false g5] at hB; subst hB
  conv => whnf
  generalize hB : decide ((_ : Int) < -2147483648) = bB
  replace hB : decide (m < -2147483648) = bB := hB
  by_cases g6 : m < -2147483648
  · rw [decide_eq_true g6] at hB; subst hB
    conv => whnf
    exact ⟨rfl, no (fun q => mm2.1 (.inr (.inl g6)) q.2) rfl rfl⟩
  rw [decide_eq_false g6] at hB; subst hB
  conv => whnf
  have s1 : smallF n d := Decidable.not_not.1 (fun q => by rcases mm1.2 q with q | q | q; exact g2 q; exact g3 q; exact g1 q)
  have s2 : smallF m e := Decidable.not_not.1 (fun q => by rcases mm2.2 q with q | q | q; exact g5 q; exact g6 q; exact g4 q)
  have e1 : Z.add .i64 n m = n + m := Z.wrap_iid (by unfold smallF at *; omega) (by unfold smallF at *; omega)
  have e2 : Z.add .i64 d e = d + e := Z.wrap_iid (by unfold smallF at *; omega) (by unfold smallF at *; omega)
  exact ⟨rfl, h _ _ (by rw [if_pos ⟨s1, s2⟩]; exact e1) (by rw [if_pos ⟨s1, s2⟩]; exact e2)⟩
theorem fracLeast2 {n d m e : Int} (hn : I64 n) (hd : I64 d) (hm : I64 m) (he : I64 e) {s : List Ob} {Q : AV → List Ob → Prop} (h : ∀ v, v = cmp3 (n * e) (m * d) → Q (.int .i64 v) s) : AC Try.prog 63 [.agg [.int .i64 n, .int .i64 d], .agg [.int .i64 m, .int .i64 e]] s Q := by
  refine AC_pure rfl ?_
  refine AC_body tok 3 Try.func63 rfl (by kernel_rfl) ?_
  conv => whnf
  try (refine AW_draw tok hP ?_; conv => whnf)
  first | refine AQ_int (fun sK QK hK => fracCmp hn hd hm he hK) (fun v hv => ?_) | refine fracCmp hn hd hm he (fun v hv => ?_)
  conv => whnf
  try (refine And.intro (OkD.mk (by kernel_rfl)) ?_; conv => whnf)
  exact ⟨rfl, h _ hv⟩
theorem fracLeast1 {n d : Int} {s : List Ob} {Q : AV → List Ob → Prop} (h : ∀ v, v = !decide (d > 0) → Q (.bool v) s) : AC Try.prog 61 [.agg [.int .i64 n, .int .i64 d]] s Q := by
  refine AC_pure rfl ?_
  refine AC_body tok 3 Try.func61 rfl (by kernel_rfl) ?_
  conv => whnf
  try (refine AW_draw tok hP ?_; conv => whnf)
  first | refine AQ_bool (fun sK QK hK => fracRight hK) (fun v hv => ?_) | refine fracRight (fun v hv => ?_)
  conv => whnf
  try (refine And.intro (OkD.mk (by kernel_rfl)) ?_; conv => whnf)
  exact ⟨rfl, h _ (by rw [hv])⟩
