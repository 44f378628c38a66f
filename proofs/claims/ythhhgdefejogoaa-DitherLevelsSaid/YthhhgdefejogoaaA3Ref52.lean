/- Part of the proof of a law of the seat: its functions, walked. No condition. -/
import Derived.Test.YthhhgdefejogoaaA3Num
import Derived.Test.YthhhgdefejogoaaPDither
import Derived.Test.YthhhgdefejogoaaEngC
namespace Go.AW.A3
open Go Go.AW Go.Proofs
set_option maxRecDepth 100000
set_option linter.unusedVariables false
theorem ref52Level {n k : Int} {s : List Ob} {Q : AV → List Ob → Prop} (h : ∀ v, v = levelI k n → Q (.int .i64 v) s) : AC Try.prog 12 [.int .i64 k, .int .i64 n] s Q := by
  refine AC_pure rfl ?_
  refine AC_body tok 3 Try.func12 rfl (by kernel_rfl) ?_
  conv => whnf
  unfold levelI at h
  generalize hB : decide ((_ : Int) < 2) = bB
  replace hB : decide (n < 2) = bB := hB
  by_cases g1 : n < 2
  · rw [decide_eq_true g1] at hB; subst hB
    conv => whnf
    exact ⟨rfl, h _ (by rw [if_neg (by omega)])⟩
  rw [decide_eq_false g1] at hB; subst hB
  conv => whnf
  generalize hB : decide ((_ : Int) > 16) = bB
  replace hB : decide (n > 16) = bB := hB
  by_cases g2 : n > 16
  · rw [decide_eq_true g2] at hB; subst hB
    conv => whnf
    exact ⟨rfl, h _ (by rw [if_neg (by omega)])⟩
  rw [decide_eq_false g2] at hB; subst hB
  conv => whnf
  generalize hB : decide ((_ : Int) < 0) = bB
  replace hB : decide (k < 0) = bB := hB
  by_cases g3 : k < 0
  · rw [decide_eq_true g3] at hB; subst hB
    conv => whnf
    exact ⟨rfl, h _ (by rw [if_neg (by omega)])⟩
  rw [decide_eq_false g3] at hB; subst hB
  conv => whnf
  generalize hB : decide ((_ : Int) ≥ _) = bB
  replace hB : decide (k ≥ n) = bB := hB
  by_cases g4 : k ≥ n
  · rw [decide_eq_true g4] at hB; subst hB
    conv => whnf
    exact ⟨rfl, h _ (by rw [if_neg (by omega)])⟩
  rw [decide_eq_false g4] at hB; subst hB
  conv => whnf
  rw [if_pos ⟨by omega, by omega, by omega⟩] at h
  have e1 : Z.mul .i64 k 255 = k * 255 := Z.wrap_iid (by omega) (by omega)
  have e2 : Z.sub .i64 n 1 = n - 1 := Z.wrap_iid (by omega) (by omega)
  rw [e1, e2]
  refine refDiv (by omega) (by omega) (fun v hv => ?_)
  conv => whnf
  exact ⟨rfl, h _ (by rw [hv]; unfold divI lvI; rw [if_neg (by omega)])⟩
theorem ref52Size {n : Int} (h0 : -9223372036854775807 ≤ n) (h1 : n ≤ 9223372036854775807) {s : List Ob} {Q : AV → List Ob → Prop} (h : ∀ v, v = absD n → Q (.int .i64 v) s) : AC Try.prog 40 [.int .i64 n] s Q := by
  refine AC_pure rfl ?_
  refine AC_body tok 3 Try.func40 rfl (by kernel_rfl) ?_
  conv => whnf
  have e : mmI true n (Z.neg .i64 n) = absD n := by
    rw [show Z.neg .i64 n = 0 - n from Z.wrap_iid (by omega) (by omega)]
    have := mx_spec n (0 - n)
    unfold absD; omega
  exact ⟨rfl, h _ e⟩
theorem ref52Near {n x : Int} {s : List Ob} {Q : AV → List Ob → Prop} (h0 : ¬ ((2 ≤ n ∧ n ≤ 16) ∧ -1048576 ≤ x ∧ x ≤ 1048576) → Q (.int .i64 0) s) (h : (2 ≤ n ∧ n ≤ 16) → (-1048576 ≤ x ∧ x ≤ 1048576) → ∀ v, NearP n x v → Q (.int .i64 v) s) : AC Try.prog 13 [.int .i64 x, .int .i64 n] s Q := by
  refine AC_pure rfl ?_
  refine AC_body tok 0 Try.func13 rfl (by kernel_rfl) ?_
  conv => whnf
  generalize hB : decide ((_ : Int) < 2) = bB
  replace hB : decide (n < 2) = bB := hB
  by_cases g1 : n < 2
  · rw [decide_eq_true g1] at hB; subst hB
    conv => whnf
    exact ⟨rfl, h0 (by omega)⟩
  rw [decide_eq_false g1] at hB; subst hB
  conv => whnf
  generalize hB : decide ((_ : Int) > 16) = bB
  replace hB : decide (n > 16) = bB := hB
  by_cases g2 : n > 16
  · rw [decide_eq_true g2] at hB; subst hB
    conv => whnf
    exact ⟨rfl, h0 (by omega)⟩
  rw [decide_eq_false g2] at hB; subst hB
  conv => whnf
  generalize hB : decide ((_ : Int) < -1048576) = bB
  replace hB : decide (x < -1048576) = bB := hB
  by_cases g3 : x < -1048576
  · rw [decide_eq_true g3] at hB; subst hB
    conv => whnf
    exact ⟨rfl, h0 (by omega)⟩
  rw [decide_eq_false g3] at hB; subst hB
  conv => whnf
  generalize hB : decide ((_ : Int) > 1048576) = bB
  replace hB : decide (x > 1048576) = bB := hB
  by_cases g4 : x > 1048576
  · rw [decide_eq_true g4] at hB; subst hB
    conv => whnf
    exact ⟨rfl, h0 (by omega)⟩
  rw [decide_eq_false g4] at hB; subst hB
  conv => whnf
  have hn : 2 ≤ n ∧ n ≤ 16 := by omega
  have bb : ∀ j, 0 ≤ j → j < n → levelI j n = lvI n j := fun j a b => by unfold levelI; rw [if_pos ⟨hn, a, b⟩]
  refine ALs.invD (ι := Int × Int) tok 0 [true, true, false, false, false, true, true] (fun (k, b) => 0 ≤ k ∧ k ≤ n ∧ 0 ≤ b ∧ b < n ∧ (∀ j, 0 ≤ j → j < k → absD (x - lvI n b) ≤ absD (x - lvI n j)) ∧ (∀ j, 0 ≤ j → j < b → absD (x - lvI n b) < absD (x - lvI n j))) (fun (k, _) => (n - k).toNat)
    (fun (k, b) => [.int .i64 x, .int .i64 n, .junk, .junk, .junk, .int .i64 b, .int .i64 k] ++ junks 34) (fun _ => []) (fun _ => ()) (0, 0) ⟨by omega, by omega, by omega, by omega, fun j a b => by omega, fun j a b => by omega⟩ (by rfl) ⟨[], rfl⟩ rfl (fun _ => Nat.zero_le _) (fun _ => rfl) ?_
  rintro ⟨k, b⟩ ⟨k0, k1, b0, b1, le, lt⟩
  conv => whnf
  replace k0 : 0 ≤ k := k0
  replace k1 : k ≤ n := k1
  by_cases g : k < n
  · rw [decide_eq_true g]
    conv => whnf
    have ek : Z.add .i64 k 1 = k + 1 := Z.wrap_iid (by omega) (by omega)
    have bk := PD.lv_b hn.1 hn.2 k0 g
    have bbb := PD.lv_b hn.1 hn.2 b0 b1
    try (refine AW_draw tok hP ?_; conv => whnf)
    first | refine AQ_int (fun sK QK hK => ref52Level (k := k) (n := n) hK) (fun v1 h1 => ?_) | refine ref52Level (k := k) (n := n) (fun v1 h1 => ?_)
    conv => whnf
    try (refine And.intro (OkD.mk (by kernel_rfl)) ?_; conv => whnf)
    rw [bb k k0 g] at h1
    have s1 : Z.sub .i64 x v1 = x - v1 := Z.wrap_iid (by omega) (by omega)
    try (refine AW_draw tok hP ?_; conv => whnf)
    first | refine AQ_int (fun sK QK hK => ref52Size (n := Z.sub .i64 x v1) (by rw [s1]; omega) (by rw [s1]; omega) hK) (fun w1 e1 => ?_) | refine ref52Size (n := Z.sub .i64 x v1) (by rw [s1]; omega) (by rw [s1]; omega) (fun w1 e1 => ?_)
    conv => whnf
    try (refine And.intro (OkD.mk (by kernel_rfl)) ?_; conv => whnf)
    try (refine AW_draw tok hP ?_; conv => whnf)
    first | refine AQ_int (fun sK QK hK => ref52Level (k := b) (n := n) hK) (fun v2 h2 => ?_) | refine ref52Level (k := b) (n := n) (fun v2 h2 => ?_)
    conv => whnf
    try (refine And.intro (OkD.mk (by kernel_rfl)) ?_; conv => whnf)
    rw [bb b b0 b1] at h2
    have s2 : Z.sub .i64 x v2 = x - v2 := Z.wrap_iid (by omega) (by omega)
    try (refine AW_draw tok hP ?_; conv => whnf)
    first | refine AQ_int (fun sK QK hK => ref52Size (n := Z.sub .i64 x v2) (by rw [s2]; omega) (by rw [s2]; omega) hK) (fun w2 e2 => ?_) | refine ref52Size (n := Z.sub .i64 x v2) (by rw [s2]; omega) (by rw [s2]; omega) (fun w2 e2 => ?_)
    conv => whnf
    try (refine And.intro (OkD.mk (by kernel_rfl)) ?_; conv => whnf)
    rw [s1, h1] at e1
    rw [s2, h2] at e2
    by_cases c : w1 < w2
    · rw [decide_eq_true c]
      conv => whnf
      exact ⟨(Z.add .i64 k 1, k), [], rfl, rfl, rfl, by show (n - Z.add .i64 k 1).toNat < (n - k).toNat; rw [ek]; omega, by show 0 ≤ Z.add .i64 k 1; rw [ek]; omega, by show Z.add .i64 k 1 ≤ n; rw [ek]; omega, k0, g, fun j a q => by
        rw [ek] at q
        rcases Int.lt_or_le j k with w | w
        · have := le j a w; omega
        · rw [show j = k by omega]; omega, fun j a q => by have := le j a q; omega⟩
    · rw [decide_eq_false c]
      conv => whnf
      exact ⟨(Z.add .i64 k 1, b), [], rfl, rfl, rfl, by show (n - Z.add .i64 k 1).toNat < (n - k).toNat; rw [ek]; omega, by show 0 ≤ Z.add .i64 k 1; rw [ek]; omega, by show Z.add .i64 k 1 ≤ n; rw [ek]; omega, b0, b1, fun j a q => by
        rw [ek] at q
        rcases Int.lt_or_le j k with w | w
        · exact le j a w
        · rw [show j = k by omega]; omega, lt⟩
  · rw [decide_eq_false g]
    conv => whnf
    try (refine AWs.go tok 0 ?_; conv => whnf)
    obtain rfl : k = n := by omega
    exact ⟨rfl, h hn ⟨by omega, by omega⟩ _ ⟨b0, b1, le, lt⟩⟩
