/- Part of the proof of a law of the seat: its functions, walked. No condition. -/
import Derived.Test.YtlnmblmfonmcfaaA1TrigRef
import Derived.Test.YtlnmblmfonmcfaaPTrigLaw
namespace Go.AW.A1
open Go Go.AW Go.Proofs
set_option maxRecDepth 100000
set_option linter.unusedVariables false
theorem trigSteps0 {n : Int} (hn : n < 1 ∨ n > 1024) {s : List Ob} {Q : AV → List Ob → Prop} (hq : Q .nils s) : AC Try.prog 16 [.int .i64 n] s Q := by
  refine AC_pure rfl ?_
  refine AC_body tok 0 Try.func16 rfl (by kernel_rfl) ?_
  conv => whnf
  generalize hB : decide ((_ : Int) < 1) = bB
  replace hB : decide (n < 1) = bB := hB
  by_cases g1 : n < 1
  · rw [decide_eq_true g1] at hB; subst hB
    conv => whnf
    exact ⟨rfl, hq⟩
  rw [decide_eq_false g1] at hB; subst hB
  conv => whnf
  generalize hB : decide ((_ : Int) > 1024) = bB
  replace hB : decide (n > 1024) = bB := hB
  by_cases g2 : n > 1024
  · rw [decide_eq_true g2] at hB; subst hB
    conv => whnf
    exact ⟨rfl, hq⟩
  exact absurd hn (by omega)
theorem trigSteps {n : Int} (h0 : 1 ≤ n) (h1 : n ≤ 1024) {s : List Ob} {Q : AV → List Ob → Prop} (hq : Q (.sl s.length 0 n.toNat none) (s ++ [.row true 28 [.ik .i64, .ik .i64] (stepsR n)])) : AC Try.prog 16 [.int .i64 n] s Q := by
  refine AC_mk1 (args' := [.int .i64 n]) (L := []) [] (by simp) rfl rfl (by simp) (.sl 0 0 n.toNat none) 0 (by simp) ?_
  refine AC_body tok 0 Try.func16 rfl (by kernel_rfl) ?_
  conv => whnf
  generalize hB : decide ((_ : Int) < 1) = bB
  replace hB : decide (n < 1) = bB := hB
  by_cases g1 : n < 1
  · omega
  rw [decide_eq_false g1] at hB; subst hB
  conv => whnf
  generalize hB : decide ((_ : Int) > 1024) = bB
  replace hB : decide (n > 1024) = bB := hB
  by_cases g2 : n > 1024
  · omega
  rw [decide_eq_false g2] at hB; subst hB
  conv => whnf
  refine andI (by simp; omega) ?_
  conv => whnf
  refine AC_body tok 0 Try.func34 rfl (by kernel_rfl) ?_
  conv => whnf
  refine AW_range tok [false, false, true] (f := 42) (a := []) (b := [.ptr 2 0 0]) ⟨_, Try.func42, by kernel_rfl, by kernel_rfl⟩ rfl rfl rfl rfl (Nat.le_refl 3) rfl (fun l O hY => ?_)
  refine ACo_body tok 0 Try.func42 rfl (by kernel_rfl) ?_
  conv => whnf
  refine ALs.inv (ι := Int) tok 0 [true, true, false, false, true, true] (fun i => 0 ≤ i ∧ i ≤ n) (fun i => (n - i).toNat)
    (fun i => [.yld l, .ptr 2 0 0, .junk, .junk, .int .i64 n, .int .i64 i] ++ junks 11) (fun _ => [.dead, .dead, .cells 0 [.int .i64 n]])
    (fun i => ([.row true 28 [.ik .i64, .ik .i64] (stepsUpto n i), .cells 0 [.sl 0 0 n.toNat none], .dead], none)) 0 ⟨by omega, by omega⟩ rfl rfl (by rw [PT.steps_zero]; rfl) ?_
  rintro i ⟨i0, i1⟩
  conv => whnf
  by_cases c : i < n
  · refine ifT (decide_eq_true c) ?_
    conv => whnf
    refine andI (by simp; omega) ?_
    conv => whnf
    have e1 : Z.quo .i64 (Z.mul .i64 i 65536) n = i * 65536 / n := by
      rw [show Z.mul .i64 i 65536 = i * 65536 from Z.wrap_iid (by omega) (by omega)]
      exact quo_pos (by omega) (by omega) (by omega)
    rw [e1]
    refine hY.yield 0 ?_ rfl
    conv => whnf
    have d0 : 0 ≤ i * 65536 / n := Int.ediv_nonneg (by omega) (by omega)
    have d1 : i * 65536 / n ≤ i * 65536 := Int.ediv_le_self _ (by omega)
    try (refine AW_draw tok hP ?_; conv => whnf)
    first | refine AQ_two (fun sK QK hK => trigBoth (h := i * 65536 / n) (by unfold I64; omega) hK) (fun cv sv h1 h2 => ?_) | refine trigBoth (h := i * 65536 / n) (by unfold I64; omega) (fun cv sv h1 h2 => ?_)
    conv => whnf
    try (refine And.intro (OkD.mk (by kernel_rfl)) ?_; conv => whnf)
    have g0 := PT.steps_get i0 c
    refine ixI i0 (by omega) ?_
    conv => whnf
    refine andP (by rw [PT.steps_len]; omega) ?_
    conv => whnf
    refine ixI i0 (by omega) ?_
    conv => whnf
    refine andP (by rw [List.length_set, PT.steps_len]; omega) ?_
    conv => whnf
    refine ⟨⟨by kernel_rfl⟩, ?_⟩
    conv => whnf
    have ei : Z.add .i64 i 1 = i + 1 := Z.wrap_iid (by omega) (by omega)
    have er := PT.set2 (U := stepsUpto n i) (k := i.toNat) (by rw [PT.steps_len]; omega) cv sv
    rw [h1, h2] at er
    have e2 : (stepsUpto n i).set i.toNat [cosI (i * 65536 / n), sinI (i * 65536 / n)] = stepsUpto n (Z.add .i64 i 1) := by rw [ei]; exact PT.steps_next i0 c
    rw [e2] at er
    refine ⟨Z.add .i64 i 1, rfl, rfl, ?_, by rw [ei]; omega, by rw [ei]; omega, by rw [ei]; omega⟩
    rw [← er, h1, h2, Nat.zero_add]; rfl
  · refine ifF (decide_eq_false c) ?_
    conv => whnf
    refine AWs.go tok 0 ?_
    conv => whnf
    obtain rfl : i = n := by omega
    rw [PT.steps_all]
    refine ⟨rfl, rfl, ?_, ?_⟩
    · simp [AV.ren, rho]
    · simpa [AV.ren, rho] using hq
theorem refSteps0 {n : Int} (hn : n < 1 ∨ n > 1024) {s : List Ob} {Q : AV → List Ob → Prop} (hq : Q .nils s) : AC Try.prog 17 [.int .i64 n] s Q := by
  refine AC_pure rfl ?_
  refine AC_body tok 0 Try.func17 rfl (by kernel_rfl) ?_
  conv => whnf
  refine ALs.round tok 0 ?_
  conv => whnf
  by_cases g1 : 0 < n
  · rw [decide_eq_true g1]
    conv => whnf
    rw [decide_eq_false (show ¬ n ≤ 1024 by omega)]
    conv => whnf
    refine AWs.go tok 0 ?_
    conv => whnf
    exact ⟨rfl, hq⟩
  · rw [decide_eq_false g1]
    conv => whnf
    refine AWs.go tok 0 ?_
    conv => whnf
    exact ⟨rfl, hq⟩
theorem refSteps {n : Int} (h0 : 1 ≤ n) (h1 : n ≤ 1024) {s : List Ob} {Q : AV → List Ob → Prop} (hq : Q (.sl s.length 0 n.toNat none) (s ++ [.row true 28 [.ik .i64, .ik .i64] (stepsR n)])) : AC Try.prog 17 [.int .i64 n] s Q := by
  refine AC_mk1 (args' := [.int .i64 n]) (L := []) [] (by simp) rfl rfl (by simp) (.sl 0 0 n.toNat none) 1 (by simp) ?_
  refine AC_body tok 0 Try.func17 rfl (by kernel_rfl) ?_
  conv => whnf
  refine ALs.round tok 0 ?_
  conv => whnf
  rw [decide_eq_true (show (0 : Int) < n by omega)]
  conv => whnf
  rw [decide_eq_true h1]
  conv => whnf
  refine nzI (by omega) ?_
  conv => whnf
  have qi : ∀ i : Int, 0 ≤ i → i < n → Z.quo .i64 (Z.mul .i64 i 65536) n = i * 65536 / n ∧ I64 (i * 65536 / n) := by
    intro i i0 i1
    have d0 : 0 ≤ i * 65536 / n := Int.ediv_nonneg (by omega) (by omega)
    have d1 : i * 65536 / n ≤ i * 65536 := Int.ediv_le_self _ (by omega)
    refine ⟨?_, by unfold I64; omega⟩
    rw [show Z.mul .i64 i 65536 = i * 65536 from Z.wrap_iid (by omega) (by omega)]
    exact quo_pos (by omega) (by omega) (by omega)
  obtain ⟨e0, b0⟩ := qi 0 (by omega) (by omega)
  rw [e0]
  try (refine AW_draw tok hP ?_; conv => whnf)
  first | refine AQ_int (fun sK QK hK => refCos b0 hK) (fun cv hc => ?_) | refine refCos b0 (fun cv hc => ?_)
  conv => whnf
  try (refine And.intro (OkD.mk (by kernel_rfl)) ?_; conv => whnf)
  try (refine AW_draw tok hP ?_; conv => whnf)
  first | refine AQ_int (fun sK QK hK => refSin b0 hK) (fun sv hs => ?_) | refine refSin b0 (fun sv hs => ?_)
  conv => whnf
  try (refine And.intro (OkD.mk (by kernel_rfl)) ?_; conv => whnf)
  refine ALs.invD (ι := Int) tok 0 [true, false, false, true, true] (fun k => 1 ≤ k ∧ k ≤ n) (fun k => (n - k).toNat)
    (fun k => [.int .i64 n, .junk, .junk, .sl 1 0 k.toNat none, .int .i64 k] ++ junks 23)
    (fun k => [.row true 28 [.ik .i64, .ik .i64] [[cv, sv]], .row true 28 [.ik .i64, .ik .i64] (PT.stepsK n k)]) (fun _ => ()) 1 ⟨by omega, by omega⟩ (by rfl) ⟨[], by rw [PT.stepsK_one]; unfold stepR; rw [← hc, ← hs]; rfl⟩ rfl (fun _ => Nat.zero_le _) (fun _ => rfl) ?_
  rintro k ⟨k1, k2⟩
  conv => whnf
  by_cases c : k < n
  · rw [decide_eq_true c]
    conv => whnf
    rw [decide_eq_true h1]
    conv => whnf
    refine nzI (by omega) ?_
    conv => whnf
    obtain ⟨e1, b1⟩ := qi k (by omega) c
    rw [e1]
    try (refine AW_draw tok hP ?_; conv => whnf)
    first | refine AQ_int (fun sK QK hK => refCos b1 hK) (fun cv2 hc2 => ?_) | refine refCos b1 (fun cv2 hc2 => ?_)
    conv => whnf
    try (refine And.intro (OkD.mk (by kernel_rfl)) ?_; conv => whnf)
    try (refine AW_draw tok hP ?_; conv => whnf)
    first | refine AQ_int (fun sK QK hK => refSin b1 hK) (fun sv2 hs2 => ?_) | refine refSin b1 (fun sv2 hs2 => ?_)
    conv => whnf
    try (refine And.intro (OkD.mk (by kernel_rfl)) ?_; conv => whnf)
    refine andI (by simp [PT.stepsK_len]; omega) ?_
    conv => whnf
    have ei : Z.add .i64 k 1 = k + 1 := Z.wrap_iid (by omega) (by omega)
    have ek : (Z.add .i64 k 1).toNat = k.toNat + 1 := by rw [ei]; omega
    refine ⟨Z.add .i64 k 1, [.row true 28 [.ik .i64, .ik .i64] [[cv2, sv2]], .dead], ?_, ?_, rfl, by show (n - Z.add .i64 k 1).toNat < (n - k).toNat; rw [ei]; omega, by show 1 ≤ Z.add .i64 k 1; rw [ei]; omega, by show Z.add .i64 k 1 ≤ n; rw [ei]; omega⟩
    · show _ = [.int .i64 n, .junk, .junk, .sl 1 0 (Z.add .i64 k 1).toNat none, .int .i64 (Z.add .i64 k 1)] ++ junks 23
      rw [ek]; rfl
    · rw [ei, PT.stepsK_next n (by omega)]; unfold stepR; rw [← hc2, ← hs2]; rfl
  · rw [decide_eq_false c]
    conv => whnf
    obtain rfl : k = n := by omega
    refine AWs.go tok 0 ?_
    conv => whnf
    rw [PT.stepsK_all]
    refine ⟨rfl, rfl, ?_, ?_⟩
    · simp [AV.ren, rho]
    · simpa [AV.ren, rho] using hq
