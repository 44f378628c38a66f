/- Part of the proof of a law of the seat: its functions, walked. No condition. -/
import Derived.Test.YtmihhfiefhgaiaaA5Wide
import Derived.Test.YtmihhfiefhgaiaaPFrac
namespace Go.AW.A5
open Go Go.AW Go.Proofs
set_option maxRecDepth 100000
set_option linter.unusedVariables false
theorem fracMay {n d : Int} {s : List Ob} {Q : AV → List Ob → Prop} (h : ∀ v, v = decide (d > 0) → Q (.bool v) s) : AC Try.prog 93 [.agg [.int .i64 n, .int .i64 d]] s Q := by
  refine AC_pure rfl ?_
  refine AC_body tok 3 Try.func93 rfl (by kernel_rfl) ?_
  conv => whnf
  exact ⟨rfl, h _ rfl⟩
theorem fracRight {n d : Int} {s : List Ob} {Q : AV → List Ob → Prop} (h : ∀ v, v = decide (d > 0) → Q (.bool v) s) : AC Try.prog 82 [.agg [.int .i64 n, .int .i64 d]] s Q := by
  refine AC_pure rfl ?_
  refine AC_body tok 3 Try.func82 rfl (by kernel_rfl) ?_
  conv => whnf
  try (refine AW_draw tok hP ?_; conv => whnf)
  first | refine AQ_bool (fun sK QK hK => fracMay hK) (fun v hv => ?_) | refine fracMay (fun v hv => ?_)
  conv => whnf
  try (refine And.intro (OkD.mk (by kernel_rfl)) ?_; conv => whnf)
  exact ⟨rfl, h _ hv⟩
theorem fracAt {v n d : Int} (hv : I64 v) (hn : I64 n) (hd : I64 d) {s : List Ob} {Q : AV → List Ob → Prop} (h : ∀ r, r = atF v n d → Q (.int .i64 r) s) : AC Try.prog 67 [.int .i64 v, .agg [.int .i64 n, .int .i64 d]] s Q := by
  refine AC_pure rfl ?_
  refine AC_body tok 3 Try.func67 rfl (by kernel_rfl) ?_
  conv => whnf
  try (refine AW_draw tok hP ?_; conv => whnf)
  first | refine AQ_bool (fun sK QK hK => fracRight hK) (fun b hb => ?_) | refine fracRight (fun b hb => ?_)
  conv => whnf
  try (refine And.intro (OkD.mk (by kernel_rfl)) ?_; conv => whnf)
  by_cases g : d > 0
  · obtain rfl : b = true := by rw [hb]; exact decide_eq_true g
    conv => whnf
    try (refine AW_draw tok hP ?_; conv => whnf)
    first | refine AQ_pure (fun sK QK hK => wideMul hv hn hK) ?_ | refine wideMul hv hn ?_
    conv => whnf
    try (refine And.intro (OkD.mk (by kernel_rfl)) ?_; conv => whnf)
    have pm := PW.mul_i hv hn
    try (refine AW_draw tok hP ?_; conv => whnf)
    first | refine AQ_ib (fun sK QK hK => wideOverW (x := v * n) (by unfold I128; omega) hd hK) (fun q ok h1 h2 => ?_) | refine wideOverW (x := v * n) (by unfold I128; omega) hd (fun q ok h1 h2 => ?_)
    conv => whnf
    try (refine And.intro (OkD.mk (by kernel_rfl)) ?_; conv => whnf)
    have e : (v * n) / d < 0 ↔ v * n < 0 := by rw [PW.div_lt g, Int.zero_mul]
    unfold overI at h1
    unfold overB at h2
    by_cases k : 1 ≤ d ∧ -9223372036854775808 ≤ v * n / d ∧ v * n / d < 9223372036854775808
    · obtain rfl : ok = true := by rw [h2]; exact decide_eq_true k
      rw [if_pos k] at h1
      conv => whnf
      exact ⟨rfl, h _ (by unfold atF clampI; rw [if_pos g, if_neg (by omega), if_neg (by omega)]; exact h1)⟩
    · obtain rfl : ok = false := by rw [h2]; exact decide_eq_false k
      conv => whnf
      by_cases g3 : v * n < 0
      · rw [decide_eq_true (show whi (v * n) < 0 by unfold whi; omega)]
        conv => whnf
        exact ⟨rfl, h _ (by unfold atF clampI; rw [if_pos g, if_pos (by omega)])⟩
      · rw [decide_eq_false (show ¬ whi (v * n) < 0 by unfold whi; omega)]
        conv => whnf
        exact ⟨rfl, h _ (by unfold atF clampI; rw [if_pos g, if_neg (by omega), if_pos (by omega)])⟩
  · obtain rfl : b = false := by rw [hb]; exact decide_eq_false g
    conv => whnf
    exact ⟨rfl, h _ (by unfold atF; rw [if_neg g])⟩
