/- Part of the proof of a law of the seat: its functions, walked. No condition. -/
import Derived.Test.YtmihhfiefhgaiaaA5Frac
namespace Go.AW.A5
open Go Go.AW Go.Proofs
set_option maxRecDepth 100000
set_option linter.unusedVariables false
theorem rfRight {n d : Int} {s : List Ob} {Q : AV → List Ob → Prop} (h : ∀ v, v = decide (d > 0) → Q (.bool v) s) : AC Try.prog 71 [.agg [.int .i64 n, .int .i64 d]] s Q := by
  refine AC_pure rfl ?_
  refine AC_body tok 3 Try.func71 rfl (by kernel_rfl) ?_
  conv => whnf
  exact ⟨rfl, h _ (decide_eq_decide.2 (by omega))⟩
theorem rfAt {v n d : Int} (hv : I64 v) (hn : I64 n) (hd : I64 d) {s : List Ob} {Q : AV → List Ob → Prop} (h : ∀ r, r = atF v n d → Q (.int .i64 r) s) : AC Try.prog 72 [.int .i64 v, .agg [.int .i64 n, .int .i64 d]] s Q := by
  refine AC_pure rfl ?_
  refine AC_body tok 3 Try.func72 rfl (by kernel_rfl) ?_
  conv => whnf
  unfold I64 at *
  try (refine AW_draw tok hP ?_; conv => whnf)
  first | refine AQ_bool (fun sK QK hK => rfRight hK) (fun b hb => ?_) | refine rfRight (fun b hb => ?_)
  conv => whnf
  try (refine And.intro (OkD.mk (by kernel_rfl)) ?_; conv => whnf)
  by_cases g : d > 0
  case neg =>
    obtain rfl : b = false := by rw [hb]; exact decide_eq_false g
    conv => whnf
    exact ⟨rfl, h _ (by unfold atF; rw [if_neg g])⟩
  obtain rfl : b = true := by rw [hb]; exact decide_eq_true g
  conv => whnf
  try (refine AW_draw tok hP ?_; conv => whnf)
  first | refine AQ_int (fun sK QK hK => refSize hv.1 hv.2 hK) (fun x hx => ?_) | refine refSize hv.1 hv.2 (fun x hx => ?_)
  conv => whnf
  try (refine And.intro (OkD.mk (by kernel_rfl)) ?_; conv => whnf)
  try (refine AW_draw tok hP ?_; conv => whnf)
  first | refine AQ_int (fun sK QK hK => refSize hn.1 hn.2 hK) (fun y hy => ?_) | refine refSize hn.1 hn.2 (fun y hy => ?_)
  conv => whnf
  try (refine And.intro (OkD.mk (by kernel_rfl)) ?_; conv => whnf)
  have xb : 0 ≤ x ∧ x ≤ 9223372036854775808 := by rw [hx]; unfold sizeI; split <;> omega
  have yb : 0 ≤ y ∧ y ≤ 9223372036854775808 := by rw [hy]; unfold sizeI; split <;> omega
  have sm := size_mul v n
  rw [← hx, ← hy] at sm
  try (refine AW_draw tok hP ?_; conv => whnf)
  first | refine AQ_two (fun sK QK hK => mulR xb.1 (by omega) yb.1 (by omega) hK) (fun hi lo h1 h2 => ?_) | refine mulR xb.1 (by omega) yb.1 (by omega) (fun hi lo h1 h2 => ?_)
  conv => whnf
  try (refine And.intro (OkD.mk (by kernel_rfl)) ?_; conv => whnf)
  obtain ⟨P, hP⟩ : ∃ P, x * y = P := ⟨_, rfl⟩
  rw [hP] at h1 h2 sm
  have Pb : P ≤ 9223372036854775808 * 9223372036854775808 := by rw [← hP]; exact Int.mul_le_mul xb.2 yb.2 yb.1 (by omega)
  have P0 := sm.2.2
  have wd : IntKind.u64.wrap d = d := Z.wrap_uid (by omega) (by omega)
  have eb : ∃ bl : Bool, (bl = false → v * n = P) ∧ (bl = true → v * n = -P ∧ 0 < P) ∧ ((¬ (v < 0 ↔ n < 0) ∧ 0 < P) ↔ bl = true) := by
    refine ⟨decide (¬ (v < 0 ↔ n < 0) ∧ 0 < P), fun q => ?_, fun q => ?_, by rw [decide_eq_true_iff]⟩
    · rw [decide_eq_false_iff_not] at q
      by_cases k : v < 0 ↔ n < 0
      · exact sm.2.1 k
      · rw [sm.1 k]; have : ¬ 0 < P := fun z => q ⟨k, z⟩
        omega
    · rw [decide_eq_true_iff] at q
      exact ⟨sm.1 q.1, q.2⟩
  obtain ⟨bl, b1, b2, b3⟩ := eb
  have ehl : Z.add .u64 hi lo = (hi + lo) % 18446744073709551616 := Z.wrap_u _
  have cs : ((decide (v < 0) == decide (n < 0)) = true ∧ decide (Z.add .u64 hi lo > 0) = true ∧ decide (hi > 0) = true ∧ bl = false) ∨ ((decide (v < 0) == decide (n < 0)) = true ∧ decide (Z.add .u64 hi lo > 0) = decide (Z.add .u64 hi lo > 0) ∧ decide (hi > 0) = false ∧ bl = false) ∨ ((decide (v < 0) == decide (n < 0)) = true ∧ decide (Z.add .u64 hi lo > 0) = false ∧ decide (hi > 0) = true ∧ bl = false)
      ∨ ((decide (v < 0) == decide (n < 0)) = false ∧ decide (Z.add .u64 hi lo > 0) = true ∧ decide (hi > 0) = decide (hi > 0) ∧ bl = true) ∨ ((decide (v < 0) == decide (n < 0)) = false ∧ decide (Z.add .u64 hi lo > 0) = false ∧ decide (hi > 0) = true ∧ bl = true) ∨ ((decide (v < 0) == decide (n < 0)) = false ∧ decide (Z.add .u64 hi lo > 0) = false ∧ decide (hi > 0) = false ∧ bl = false) := by
    rw [ehl]
    by_cases sg : v < 0 ↔ n < 0
    · have e1 : (decide (v < 0) == decide (n < 0)) = true := by rw [beq_iff_eq]; exact decide_eq_decide.2 sg
      have e2 : bl = false := by cases bl; rfl; exact absurd sg (b3.2 rfl).1
      by_cases k : hi > 0 <;> by_cases k2 : (hi + lo) % 18446744073709551616 > 0 <;> simp [e1, e2, k, k2]
    · have e1 : (decide (v < 0) == decide (n < 0)) = false := by rw [beq_eq_false_iff_ne]; exact fun q => sg (decide_eq_decide.1 q)
      by_cases k : hi > 0
      · have e2 : bl = true := b3.1 ⟨sg, by omega⟩
        by_cases k2 : (hi + lo) % 18446744073709551616 > 0 <;> simp [e1, e2, k, k2]
      · by_cases k2 : (hi + lo) % 18446744073709551616 > 0
        · have e2 : bl = true := b3.1 ⟨sg, by omega⟩
          simp [e1, e2, k, k2]
        · have e2 : bl = false := by
            cases bl
            · rfl
            · have z := (b2 rfl).2
              clear b1 b2 b3 sm ehl
              exfalso
              have z1 : 0 ≤ hi := by rw [h1]; exact Int.ediv_nonneg P0 (by omega)
              obtain z2 : hi = 0 := by omega
              have z3 : lo = P := by omega
              rw [z2, z3] at k2
              omega
          simp [e1, e2, k, k2]
  rcases cs with ⟨q1, q2, q3, rfl⟩ | ⟨q1, q2, q3, rfl⟩ | ⟨q1, q2, q3, rfl⟩ | ⟨q1, q2, q3, rfl⟩ | ⟨q1, q2, q3, rfl⟩ | ⟨q1, q2, q3, rfl⟩
  all_goals
    clear ehl b3
    rw [q1]
    conv => whnf
    try (rw [q2]; conv => whnf)
    try (rw [q3]; conv => whnf)
    try (rw [q1]; conv => whnf)
    rw [wd]
    try (refine AW_draw tok hP ?_; conv => whnf)
    first | refine AQ_ib (fun sK QK hK => refPart xb.1 (by omega) yb.1 (by omega) (by omega) (by omega) hK) (fun q ok h3 h4 => ?_) | refine refPart xb.1 (by omega) yb.1 (by omega) (by omega) (by omega) (fun q ok h3 h4 => ?_)
    conv => whnf
    try (refine And.intro (OkD.mk (by kernel_rfl)) ?_; conv => whnf)
    unfold PN.partI at h3
    unfold PN.partOk at h4
    rw [hP] at h3 h4
    have big : ¬ P < d * 18446744073709551616 → 9223372036854775808 ≤ P / d := fun z => by rw [PW.div_ge g]; omega
    by_cases o1 : P < d * 18446744073709551616
    case neg =>
      obtain rfl : ok = false := by rw [h4]; exact decide_eq_false o1
      conv => whnf
      first
        | exact ⟨rfl, h _ ((PF.at_same g P0 (b1 rfl)).1 (big o1)).symm⟩
        | exact ⟨rfl, h _ ((PF.at_diff g (b2 rfl).2 (b2 rfl).1).1 (big o1)).symm⟩
    obtain rfl : ok = true := by rw [h4]; exact decide_eq_true o1
    rw [if_pos o1] at h3
    have q0 : 0 ≤ q := by rw [h3]; exact Int.ediv_nonneg P0 (by omega)
    conv => whnf
    by_cases o2 : q > 9223372036854775807
    case pos =>
      rw [decide_eq_true o2]
      conv => whnf
      first
        | exact ⟨rfl, h _ ((PF.at_same g P0 (b1 rfl)).1 (by omega)).symm⟩
        | exact ⟨rfl, h _ ((PF.at_diff g (b2 rfl).2 (b2 rfl).1).1 (by omega)).symm⟩
    rw [decide_eq_false o2]
    conv => whnf
    have wq : IntKind.i64.wrap q = q := Z.wrap_iid (by omega) (by omega)
    first
      | exact ⟨rfl, h _ (by rw [wq, (PF.at_same g P0 (b1 rfl)).2 (by omega)]; exact h3)⟩
      | skip
  all_goals
    rw [wd]
    obtain ⟨e0, z0⟩ := b2 rfl
    have qd := (PW.div_ge (n := P) (k := q) g).1 (Int.le_of_eq h3)
    have ad := PF.at_diff g z0 e0
    rw [← h3] at ad
    try (refine AW_draw tok hP ?_; conv => whnf)
    first | refine AQ_two (fun sK QK hK => mulR q0 (by omega) (by omega) (by omega) hK) (fun x2 y2 h5 h6 => ?_) | refine mulR q0 (by omega) (by omega) (by omega) (fun x2 y2 h5 h6 => ?_)
    conv => whnf
    try (refine And.intro (OkD.mk (by kernel_rfl)) ?_; conv => whnf)
    have en : Z.neg .i64 q = -q := by rw [show Z.neg .i64 q = 0 - q from Z.wrap_iid (by omega) (by omega)]; omega
    have en1 : Z.sub .i64 (-q) 1 = -q - 1 := Z.wrap_iid (by omega) (by omega)
    by_cases e : q * d = P
    · rw [e] at h5 h6
      rw [show (x2 != hi) = false by rw [h5, h1]; simp]
      conv => whnf
      rw [show (y2 != lo) = false by rw [h6, h2]; simp]
      conv => whnf
      exact ⟨rfl, h _ (by rw [wq, en]; exact (ad.2.1 (by omega) e).symm)⟩
    · by_cases e2 : x2 = hi
      · rw [show (x2 != hi) = false by rw [e2]; simp]
        conv => whnf
        rw [show (y2 != lo) = true by rw [bne_iff_ne]; intro e3; apply e; omega]
        conv => whnf
        exact ⟨rfl, h _ (by rw [wq, en, en1]; exact (ad.2.2 (by omega) e).symm)⟩
      · rw [show (x2 != hi) = true by rw [bne_iff_ne]; exact e2]
        conv => whnf
        exact ⟨rfl, h _ (by rw [wq, en, en1]; exact (ad.2.2 (by omega) e).symm)⟩
