/- Part of the proof of a law of the seat: its functions, walked. No condition. -/
import Derived.Test.YthhhgdefejogoaaA3Radix
namespace Go.AW.A3
open Go Go.AW Go.Proofs
set_option maxRecDepth 100000
set_option linter.unusedVariables false
theorem rxPoints0 {n k : Int} (h : k < 0 ∨ k > 12 ∨ n < 1 ∨ n > 2 ^ k.toNat) {s : List Ob} {Q : AV → List Ob → Prop} (hq : Q .nils s) : AC Try.prog 32 [.int .i64 n, .int .i64 k] s Q := by
  refine AC_pure rfl ?_
  refine AC_body tok 0 Try.func32 rfl (by kernel_rfl) ?_
  conv => whnf
  generalize hB : decide ((_ : Int) < 0) = bB
  replace hB : decide (k < 0) = bB := hB
  by_cases g1 : k < 0
  · rw [decide_eq_true g1] at hB; subst hB
    conv => whnf
    exact ⟨rfl, hq⟩
  rw [decide_eq_false g1] at hB; subst hB
  conv => whnf
  generalize hB : decide ((_ : Int) > 12) = bB
  replace hB : decide (k > 12) = bB := hB
  by_cases g2 : k > 12
  · rw [decide_eq_true g2] at hB; subst hB
    conv => whnf
    exact ⟨rfl, hq⟩
  rw [decide_eq_false g2] at hB; subst hB
  conv => whnf
  generalize hB : decide ((_ : Int) < 1) = bB
  replace hB : decide (n < 1) = bB := hB
  by_cases g3 : n < 1
  · rw [decide_eq_true g3] at hB; subst hB
    conv => whnf
    exact ⟨rfl, hq⟩
  rw [decide_eq_false g3] at hB; subst hB
  conv => whnf
  have p12 : (2 : Int) ^ k.toNat ≤ 2 ^ 12 := PN.pow_le (by omega)
  have p0 := PN.pow_pos k.toNat
  have es : Z.shl .i64 1 k = 2 ^ k.toNat := by
    rw [PN.shl_one (by omega) (by show k.toNat ≤ 64; omega)]
    exact Z.wrap_iid (by omega) (by omega)
  refine andP (by omega) ?_
  conv => whnf
  rw [es]
  rw [decide_eq_true (show n > 2 ^ k.toNat by omega)]
  conv => whnf
  exact ⟨rfl, hq⟩
theorem rxPoints {n k : Int} (h0 : 0 ≤ k) (h1 : k ≤ 12) (h2 : 1 ≤ n) (h3 : n ≤ 2 ^ k.toNat) {s : List Ob} {Q : AV → List Ob → Prop} (hq : Q (.sl s.length 0 n.toNat none) (s ++ [.row true 49 [.ik .i64, .ik .i64] (ptsR n k)])) : AC Try.prog 32 [.int .i64 n, .int .i64 k] s Q := by
  refine AC_mk1 (args' := [.int .i64 n, .int .i64 k]) (L := []) [] (by simp) rfl rfl (by simp) (.sl 0 0 n.toNat none) 0 (by simp) ?_
  refine AC_body tok 0 Try.func32 rfl (by kernel_rfl) ?_
  conv => whnf
  rw [decide_eq_false (show ¬ k < 0 by omega)]
  conv => whnf
  rw [decide_eq_false (show ¬ k > 12 by omega)]
  conv => whnf
  rw [decide_eq_false (show ¬ n < 1 by omega)]
  conv => whnf
  have p12 : (2 : Int) ^ k.toNat ≤ 2 ^ 12 := PN.pow_le (by omega)
  have p0 := PN.pow_pos k.toNat
  have es : Z.shl .i64 1 k = 2 ^ k.toNat := by
    rw [PN.shl_one (by omega) (by show k.toNat ≤ 64; omega)]
    exact Z.wrap_iid (by omega) (by omega)
  refine andP (by omega) ?_
  conv => whnf
  rw [es]
  rw [decide_eq_false (show ¬ n > 2 ^ k.toNat by omega)]
  conv => whnf
  refine andI (by simp; omega) ?_
  conv => whnf
  refine andP (by omega) ?_
  conv => whnf
  rw [es]
  refine nzI (by omega) ?_
  conv => whnf
  rw [quo_pos (a := 2 ^ k.toNat) (b := n) (by omega) (by omega) (by omega)]
  obtain ⟨st, hst⟩ : ∃ st, st = (2 : Int) ^ k.toNat / n := ⟨_, rfl⟩
  have s0 : 0 ≤ st := by rw [hst]; exact Int.ediv_nonneg (by omega) (by omega)
  have s1 : st ≤ 4096 := by
    have : st ≤ 2 ^ k.toNat := by rw [hst]; exact Int.ediv_le_self _ (by omega)
    omega
  rw [← hst]
  refine ALs.invD (ι := Int) tok 0 [true, true, false, false, false, true, true, false, false, false, false, false, false, false, false, false, false, false, false, false, false, false, false, false, false, false, false, false, false, false, true, true, true] (fun i => 0 ≤ i ∧ i ≤ n) (fun i => (n - i).toNat)
    (fun i => [.int .i64 n, .int .i64 k, .junk, .junk, .junk, .sl 0 0 n.toNat none, .int .i64 st] ++ junks 23 ++ [.sl 0 0 n.toNat none, .int .i64 n.toNat, .int .i64 i] ++ junks 14)
    (fun i => [.row true 49 [.ik .i64, .ik .i64] (PR.ptsUpto n k i)]) (fun _ => ()) 0 ⟨by omega, by omega⟩ rfl ⟨[], by rw [PR.pts_zero]; rfl⟩ rfl (fun _ => Nat.zero_le _) (fun _ => rfl) ?_
  rintro i ⟨i0, i1⟩
  conv => whnf
  by_cases c : i < n
  · rw [decide_eq_true (show i < (n.toNat : Int) by omega)]
    conv => whnf
    have im : i * st ≤ i * 4096 := Int.mul_le_mul_of_nonneg_left (by omega) (by omega)
    have i0' : 0 ≤ i * st := Int.mul_nonneg i0 s0
    have em : Z.mul .i64 i st = i * st := Z.wrap_iid (by omega) (by omega)
    have ei : Z.add .i64 i 1 = i + 1 := Z.wrap_iid (by omega) (by omega)
    try (refine AW_draw tok hP ?_; conv => whnf)
    first | refine AQ_int (fun sK QK hK => rxTurn (by unfold I64; omega) (by unfold I64; omega) (by unfold I64; omega) hK) (fun t ht => ?_) | refine rxTurn (by unfold I64; omega) (by unfold I64; omega) (by unfold I64; omega) (fun t ht => ?_)
    conv => whnf
    try (refine And.intro (OkD.mk (by kernel_rfl)) ?_; conv => whnf)
    rw [em]
    refine ixI i0 (by omega) ?_
    conv => whnf
    refine andP (by rw [PR.pts_len]; omega) ?_
    conv => whnf
    refine ⟨Z.add .i64 i 1, [], rfl, ?_, rfl, by show (n - Z.add .i64 i 1).toNat < (n - i).toNat; rw [ei]; omega, by show 0 ≤ Z.add .i64 i 1; rw [ei]; omega, by show Z.add .i64 i 1 ≤ n; rw [ei]; omega⟩
    rw [ei, ← PR.pts_next i0 c]
    unfold ptRow
    rw [← ht, ← hst, Nat.zero_add]; rfl
  · rw [decide_eq_false (show ¬ i < (n.toNat : Int) by omega)]
    conv => whnf
    refine AWs.go tok 0 ?_
    conv => whnf
    obtain rfl : i = n := by omega
    rw [PR.pts_all]
    refine ⟨rfl, rfl, ?_, ?_⟩
    · simp [AV.ren, rho]
    · simpa [AV.ren, rho] using hq
theorem rrPoints0 {n k : Int} (hk : I64 k) (h : k < 0 ∨ k > 12 ∨ n < 1 ∨ n > 2 ^ k.toNat) {s : List Ob} {Q : AV → List Ob → Prop} (hq : Q .nils s) : AC Try.prog 33 [.int .i64 n, .int .i64 k] s Q := by
  refine AC_pure rfl ?_
  refine AC_body tok 0 Try.func33 rfl (by kernel_rfl) ?_
  conv => whnf
  refine ALs.round tok 0 ?_
  conv => whnf
  by_cases g1 : k ≥ 0
  case neg =>
    rw [decide_eq_false g1]
    conv => whnf
    refine AWs.go tok 0 ?_
    conv => whnf
    exact ⟨rfl, hq⟩
  rw [decide_eq_true g1]
  conv => whnf
  by_cases g2 : k ≤ 12
  case neg =>
    rw [decide_eq_false g2]
    conv => whnf
    refine AWs.go tok 0 ?_
    conv => whnf
    exact ⟨rfl, hq⟩
  rw [decide_eq_true g2]
  conv => whnf
  have p12 : (2 : Int) ^ k.toNat ≤ 2 ^ 12 := PN.pow_le (by omega)
  have p0 := PN.pow_pos k.toNat
  have es : Z.shl .i64 1 k = 2 ^ k.toNat := by
    rw [PN.shl_one (by omega) (by show k.toNat ≤ 64; omega)]
    exact Z.wrap_iid (by omega) (by omega)
  refine andP (by omega) ?_
  conv => whnf
  rw [es]
  by_cases g3 : n ≤ 2 ^ k.toNat
  case neg =>
    rw [decide_eq_false g3]
    conv => whnf
    refine AWs.go tok 0 ?_
    conv => whnf
    exact ⟨rfl, hq⟩
  rw [decide_eq_true g3]
  conv => whnf
  rw [decide_eq_false (show ¬ 0 < n by omega)]
  conv => whnf
  refine AWs.go tok 0 ?_
  conv => whnf
  exact ⟨rfl, hq⟩
theorem rrPoints {n k : Int} (h0 : 0 ≤ k) (h1 : k ≤ 12) (h2 : 1 ≤ n) (h3 : n ≤ 2 ^ k.toNat) {s : List Ob} {Q : AV → List Ob → Prop} (hq : Q (.sl s.length 0 n.toNat none) (s ++ [.row true 49 [.ik .i64, .ik .i64] (ptsR n k)])) : AC Try.prog 33 [.int .i64 n, .int .i64 k] s Q := by
  refine AC_mk1 (args' := [.int .i64 n, .int .i64 k]) (L := []) [] (by simp) rfl rfl (by simp) (.sl 0 0 n.toNat none) 1 (by simp) ?_
  refine AC_body tok 0 Try.func33 rfl (by kernel_rfl) ?_
  conv => whnf
  refine ALs.round tok 0 ?_
  conv => whnf
  have p12 : (2 : Int) ^ k.toNat ≤ 2 ^ 12 := PN.pow_le (by omega)
  have p0 := PN.pow_pos k.toNat
  have es : Z.shl .i64 1 k = 2 ^ k.toNat := by
    rw [PN.shl_one (by omega) (by show k.toNat ≤ 64; omega)]
    exact Z.wrap_iid (by omega) (by omega)
  have eq := quo_pos (a := 2 ^ k.toNat) (b := n) (by omega) (by omega) (by omega)
  rw [decide_eq_true (show k ≥ 0 by omega)]
  conv => whnf
  rw [decide_eq_true h1]
  conv => whnf
  refine andP (by omega) ?_
  conv => whnf
  rw [es, decide_eq_true h3]
  conv => whnf
  rw [decide_eq_true (show 0 < n by omega)]
  conv => whnf
  refine AW_drawT tok hP ?_
  conv => whnf
  refine andP (by omega) ?_
  conv => whnf
  rw [es]
  refine nzI (by omega) ?_
  conv => whnf
  rw [eq]
  obtain ⟨st, hst⟩ : ∃ st, st = (2 : Int) ^ k.toNat / n := ⟨_, rfl⟩
  have s0 : 0 ≤ st := by rw [hst]; exact Int.ediv_nonneg (by omega) (by omega)
  have s1 : st ≤ 4096 := by
    have : st ≤ 2 ^ k.toNat := by rw [hst]; exact Int.ediv_le_self _ (by omega)
    omega
  rw [← hst]
  refine AQ_int (fun s Q h => rrTurn 2 (by decide) k.toNat k 0 rfl (by unfold I64; omega) (by decide) h) (fun t0 ht0 => ?_)
  conv => whnf
  refine ⟨⟨by kernel_rfl⟩, ?_⟩
  conv => whnf
  refine ALs.invD (ι := Int) tok 0 [true, true, false, false, false, true, true] (fun i => 1 ≤ i ∧ i ≤ n) (fun i => (n - i).toNat)
    (fun i => [.int .i64 n, .int .i64 k, .junk, .junk, .junk, .sl 1 0 i.toNat none, .int .i64 i] ++ junks 33)
    (fun i => [.row true 49 [.ik .i64, .ik .i64] [[Z.mul .i64 0 st, t0]], .row true 49 [.ik .i64, .ik .i64] (PR.ptsK n k i)]) (fun _ => ()) 1 ⟨by omega, by omega⟩ (by rfl) ⟨[], by rw [PR.ptsK_one]; unfold ptRow; rw [← ht0, ← hst, show Z.mul .i64 0 st = 0 * st from Z.wrap_iid (by omega) (by omega)]; rfl⟩ rfl (fun _ => Nat.zero_le _) (fun _ => rfl) ?_
  rintro i ⟨i0, i1⟩
  conv => whnf
  rw [decide_eq_true (show k ≥ 0 by omega)]
  conv => whnf
  rw [decide_eq_true h1]
  conv => whnf
  refine andP (by omega) ?_
  conv => whnf
  rw [es, decide_eq_true h3]
  conv => whnf
  by_cases c : i < n
  · rw [decide_eq_true c]
    conv => whnf
    refine AW_drawT tok hP ?_
    conv => whnf
    refine andP (by omega) ?_
    conv => whnf
    rw [es]
    refine nzI (by omega) ?_
    conv => whnf
    rw [eq, ← hst]
    have im : i * st ≤ i * 4096 := Int.mul_le_mul_of_nonneg_left (by omega) (by omega)
    have i0' : 0 ≤ i * st := Int.mul_nonneg (by omega) s0
    have em : Z.mul .i64 i st = i * st := Z.wrap_iid (by omega) (by omega)
    have ei : Z.add .i64 i 1 = i + 1 := Z.wrap_iid (by omega) (by omega)
    rw [em]
    refine AQ_int (fun s Q h => rrTurn 2 (by decide) k.toNat k i rfl (by unfold I64; omega) (by unfold I64; omega) h) (fun t ht => ?_)
    conv => whnf
    refine ⟨⟨by kernel_rfl⟩, ?_⟩
    conv => whnf
    refine andI (by simp [PR.ptsK_len]; omega) ?_
    conv => whnf
    have ek : (Z.add .i64 i 1).toNat = i.toNat + 1 := by rw [ei]; omega
    refine ⟨Z.add .i64 i 1, [.row true 49 [.ik .i64, .ik .i64] [[i * st, t]], .dead], ?_, ?_, rfl, by show (n - Z.add .i64 i 1).toNat < (n - i).toNat; rw [ei]; omega, by show 1 ≤ Z.add .i64 i 1; rw [ei]; omega, by show Z.add .i64 i 1 ≤ n; rw [ei]; omega⟩
    · show _ = [.int .i64 n, .int .i64 k, .junk, .junk, .junk, .sl 1 0 (Z.add .i64 i 1).toNat none, .int .i64 (Z.add .i64 i 1)] ++ junks 33
      rw [ek]; rfl
    · rw [ei, PR.ptsK_next n k (by omega)]; unfold ptRow; rw [← ht, ← hst]; rfl
  · rw [decide_eq_false c]
    conv => whnf
    refine AWs.go tok 0 ?_
    conv => whnf
    obtain rfl : i = n := by omega
    rw [PR.ptsK_all]
    refine ⟨rfl, rfl, ?_, ?_⟩
    · simp [AV.ren, rho]
    · simpa [AV.ren, rho] using hq
theorem rxEmptyN {k : Int} (h0 : 0 ≤ k) (h1 : k ≤ 12) {v : AV} (hv : v = .nils ∨ v = .sl0) {s : List Ob} {Q : AV → List Ob → Prop} (hq : ∀ u, u = 2 ^ k.toNat → Q (.int .i64 u) s) : AC Try.prog 34 [v, .int .i64 k] s Q := by
  rcases hv with rfl | rfl
  all_goals
    refine AC_pure rfl ?_
    refine AC_body tok 0 Try.func34 rfl (by kernel_rfl) ?_
    conv => whnf
    rw [decide_eq_false (show ¬ k < 0 by omega)]
    conv => whnf
    rw [decide_eq_false (show ¬ k > 12 by omega)]
    conv => whnf
    have p12 : (2 : Int) ^ k.toNat ≤ 2 ^ 12 := PN.pow_le (by omega)
    have p0 := PN.pow_pos k.toNat
    have es : Z.shl .i64 1 k = 2 ^ k.toNat := by
      rw [PN.shl_one (by omega) (by show k.toNat ≤ 64; omega)]
      exact Z.wrap_iid (by omega) (by omega)
    refine andP (by omega) ?_
    conv => whnf
    rw [es]
    obtain ⟨m, hm⟩ : ∃ m, (2 : Int) ^ k.toNat = m := ⟨_, rfl⟩
    rw [hm] at hq p12 p0 ⊢
    refine andI (by simp; omega) ?_
    conv => whnf
    refine ALs.round tok 0 ?_
    conv => whnf
    refine AWs.go tok 0 ?_
    conv => whnf
    refine ALs.invD (ι := Int) tok 0 [false, false, false, false, false, false, false, false, false, true, false, false, false, false, false, false, false, false, false, false, false, false, false, false, false, false, false, false, false, false, false, false, false, false, false, false, false, false, false, false, false, false, false, false, false, true, true, true] (fun c => 0 ≤ c ∧ c ≤ m) (fun c => (m - c).toNat)
      (fun c => junks 9 ++ [.int .i64 c] ++ junks 35 ++ [.sl 0 0 m.toNat none, .int .i64 m.toNat, .int .i64 c] ++ junks 9)
      (fun _ => [.row true 3 [.ik .i64] (metR [] m 0)]) (fun _ => ()) 0 ⟨by omega, by omega⟩ rfl ⟨[], by rw [PR.met_zero]; rfl⟩ rfl (fun _ => Nat.zero_le _) (fun _ => rfl) ?_
    rintro c ⟨c0, c1⟩
    conv => whnf
    by_cases g : c < m
    · rw [decide_eq_true (show c < (m.toNat : Int) by omega)]
      conv => whnf
      refine ixI c0 (by omega) ?_
      conv => whnf
      refine andP (by rw [PR.met_len]; omega) ?_
      conv => whnf
      rw [Nat.zero_add, PR.met_get [] 0 c0 g, PR.cnt_0]
      conv => whnf
      have ec : Z.add .i64 c 1 = c + 1 := Z.wrap_iid (by omega) (by omega)
      exact ⟨Z.add .i64 c 1, [], rfl, rfl, rfl, by show (m - Z.add .i64 c 1).toNat < (m - c).toNat; rw [ec]; omega, by show 0 ≤ Z.add .i64 c 1; rw [ec]; omega, by show Z.add .i64 c 1 ≤ m; rw [ec]; omega⟩
    · rw [decide_eq_false (show ¬ c < (m.toNat : Int) by omega)]
      conv => whnf
      refine AWs.go tok 0 ?_
      conv => whnf
      obtain rfl : c = m := by omega
      exact ⟨rfl, hq _ rfl⟩
theorem rxEmpty {rows : List (List Int)} {e : TypeId} {own : Bool} (hl : rows.length ≤ 1000) (hfit : Fit2 rows) {k : Int} (h0 : 0 ≤ k) (h1 : k ≤ 12) {i : Nat} {s : List Ob} (hs : s[i]? = some (.row own e [.ik .i64, .ik .i64] rows)) {Q : AV → List Ob → Prop} (hq : ∀ v, v = emptyI rows (2 ^ k.toNat) → Q (.int .i64 v) s) : AC Try.prog 34 [.sl i 0 rows.length none, .int .i64 k] s Q := by
  refine AC_read (args' := [.sl 0 0 rows.length none, .int .i64 k]) (L := [.row own e [.ik .i64, .ik .i64] rows]) [i] (by simp) rfl rfl (by rintro (_ | i') j ob h1 h2 <;> simp at h1 h2; subst h1 h2; exact hs) ?_
  refine AC_body tok 0 Try.func34 rfl (by kernel_rfl) ?_
  conv => whnf
  have p12 : (2 : Int) ^ k.toNat ≤ 2 ^ 12 := PN.pow_le (by omega)
  have p0 := PN.pow_pos k.toNat
  have es : Z.shl .i64 1 k = 2 ^ k.toNat := by
    rw [PN.shl_one (by omega) (by show k.toNat ≤ 64; omega)]
    exact Z.wrap_iid (by omega) (by omega)
  rw [decide_eq_false (show ¬ k < 0 by omega)]
  conv => whnf
  rw [decide_eq_false (show ¬ k > 12 by omega)]
  conv => whnf
  refine andP (by omega) ?_
  conv => whnf
  rw [es]
  obtain ⟨m, hm⟩ : ∃ m, (2 : Int) ^ k.toNat = m := ⟨_, rfl⟩
  rw [hm] at hq p12 p0 ⊢
  refine andI (by simp; omega) ?_
  conv => whnf
  refine ALs.invD (ι := Int) tok 0 [false, false, false, false, false, true, true, false, false, false, false, false, false, false, false, false, false, false, false, false, false, false, true, true, true] (fun j => 0 ≤ j ∧ j ≤ rows.length) (fun j => ((rows.length : Int) - j).toNat)
    (fun j => junks 5 ++ [.int .i64 m, .sl 1 0 m.toNat none] ++ junks 15 ++ [.sl 0 0 rows.length none, .int .i64 rows.length, .int .i64 j] ++ junks 32)
    (fun j => [.row own e [.ik .i64, .ik .i64] rows, .row true 3 [.ik .i64] (metR rows m j.toNat)]) (fun _ => ()) 0 ⟨by omega, by omega⟩ rfl ⟨[], by rw [show (0 : Int).toNat = 0 from rfl, PR.met_zero]; rfl⟩ rfl (fun _ => Nat.le_add_left 1 1) (fun _ => rfl) ?_
  rintro j ⟨j0, j1⟩
  conv => whnf
  by_cases c : j < rows.length
  · rw [decide_eq_true c]
    conv => whnf
    obtain ⟨a, b, ek, ha, hb⟩ := hfit (0 + j.toNat) (by omega)
    refine ixI j0 c ?_
    conv => whnf
    refine rowI j0 c ?_
    conv => whnf
    rw [ek]
    have ej : Z.add .i64 j 1 = j + 1 := Z.wrap_iid (by omega) (by omega)
    have et : (j + 1).toNat = j.toNat + 1 := by omega
    rw [Nat.zero_add] at ek
    have nx : ∀ R, R = metR rows m (j.toNat + 1) → metR rows m (Z.add .i64 j 1).toNat = R := fun R h => by rw [ej, et, h]
    have fn : (rows.length - Z.add .i64 j 1).toNat < (rows.length - j).toNat ∧ 0 ≤ Z.add .i64 j 1 ∧ Z.add .i64 j 1 ≤ rows.length := by rw [ej]; omega
    have ed : (rows.getD j.toNat []).headD 0 = a := by rw [ek]; rfl
    by_cases ga : a < 0
    · rw [decide_eq_true (show [a, b].headD 0 < 0 from ga)]
      conv => whnf
      exact ⟨Z.add .i64 j 1, [_], rfl, by rw [nx _ (PR.met_out rows (by omega) (by omega)).symm]; rfl, rfl, fn⟩
    rw [decide_eq_false (show ¬ [a, b].headD 0 < 0 from ga)]
    conv => whnf
    by_cases gm : a ≥ m
    · rw [decide_eq_true (show [a, b].headD 0 ≥ m from gm)]
      conv => whnf
      exact ⟨Z.add .i64 j 1, [_], rfl, by rw [nx _ (PR.met_out rows (by omega) (by omega)).symm]; rfl, rfl, fn⟩
    rw [decide_eq_false (show ¬ [a, b].headD 0 ≥ m from gm)]
    conv => whnf
    refine ixI (show 0 ≤ [a, b].headD 0 from (by omega : 0 ≤ a)) (show [a, b].headD 0 < (m.toNat : Int) from (by omega : a < (m.toNat : Int))) ?_
    conv => whnf
    refine andP (show 0 + a.toNat < (metR rows m j.toNat).length by rw [PR.met_len]; omega) ?_
    conv => whnf
    refine ixI (show 0 ≤ [a, b].headD 0 from (by omega : 0 ≤ a)) (show [a, b].headD 0 < (m.toNat : Int) from (by omega : a < (m.toNat : Int))) ?_
    conv => whnf
    refine andP (show 0 + a.toNat < (metR rows m j.toNat).length by rw [PR.met_len]; omega) ?_
    conv => whnf
    have cb := PR.cnt_b rows j.toNat a
    have em : (metR rows m j.toNat).set (0 + a.toNat) [Z.add .i64 (((metR rows m j.toNat).getD (0 + a.toNat) []).headD 0) 1] = metR rows m (j.toNat + 1) := by
      rw [Nat.zero_add, PR.met_get rows j.toNat (by omega) (by omega), show Z.add .i64 ([cntR rows j.toNat a].headD 0) 1 = cntR rows j.toNat a + 1 from Z.wrap_iid (by show -9223372036854775808 ≤ cntR rows j.toNat a + 1; omega) (by show cntR rows j.toNat a + 1 < _; omega)]
      exact PR.met_in rows (by omega) ed (by omega) (by omega)
    exact ⟨Z.add .i64 j 1, [.cells 0 [.int .i64 a, .int .i64 b]], rfl, by rw [nx _ em]; rfl, rfl, fn⟩
  · rw [decide_eq_false c]
    conv => whnf
    refine AWs.go tok 0 ?_
    conv => whnf
    have jl : j.toNat = rows.length := by omega
    rw [jl]
    refine ALs.invD (ι := Int) tok 0 [false, false, false, false, false, false, false, false, false, true, false, false, false, false, false, false, false, false, false, false, false, false, false, false, false, false, false, false, false, false, false, false, false, false, false, false, false, false, false, false, false, false, false, false, false, true, true, true] (fun c => 0 ≤ c ∧ c ≤ m) (fun c => (m - c).toNat)
      (fun c => junks 9 ++ [.int .i64 (PR.emptyTo rows c)] ++ junks 35 ++ [.sl 1 0 m.toNat none, .int .i64 m.toNat, .int .i64 c] ++ junks 9)
      (fun _ => [.row own e [.ik .i64, .ik .i64] rows, .row true 3 [.ik .i64] (metR rows m rows.length)]) (fun _ => ()) 0 ⟨by omega, by omega⟩ rfl ⟨[], rfl⟩ rfl (fun _ => Nat.le_add_left 1 1) (fun _ => rfl) ?_
    rintro c ⟨c0, c1⟩
    conv => whnf
    by_cases g : c < m
    · rw [decide_eq_true (show c < (m.toNat : Int) by omega)]
      conv => whnf
      refine ixI c0 (by omega) ?_
      conv => whnf
      refine andP (by rw [PR.met_len]; omega) ?_
      conv => whnf
      rw [Nat.zero_add, PR.met_get rows rows.length c0 g]
      have en := PR.emptyTo_next rows c0
      have eb := PR.emptyTo_b rows c
      have ec : Z.add .i64 c 1 = c + 1 := Z.wrap_iid (by omega) (by omega)
      have ea : Z.add .i64 (PR.emptyTo rows c) 1 = PR.emptyTo rows c + 1 := Z.wrap_iid (by omega) (by omega)
      have fn : (m - Z.add .i64 c 1).toNat < (m - c).toNat ∧ 0 ≤ Z.add .i64 c 1 ∧ Z.add .i64 c 1 ≤ m := by rw [ec]; omega
      by_cases z : cntR rows rows.length c = 0
      · rw [show ([cntR rows rows.length c].headD 0 == 0) = true from beq_iff_eq.2 z]
        conv => whnf
        rw [if_pos z] at en
        exact ⟨Z.add .i64 c 1, [], by rw [ec, en, ← ea, ← ec]; rfl, rfl, rfl, fn⟩
      · rw [show ([cntR rows rows.length c].headD 0 == 0) = false from beq_eq_false_iff_ne.2 z]
        conv => whnf
        rw [if_neg z, Int.add_zero] at en
        exact ⟨Z.add .i64 c 1, [], by rw [ec, en, ← ec]; rfl, rfl, rfl, fn⟩
    · rw [decide_eq_false (show ¬ c < (m.toNat : Int) by omega)]
      conv => whnf
      refine AWs.go tok 0 ?_
      conv => whnf
      obtain rfl : c = m := by omega
      exact ⟨rfl, rfl, hq _ rfl⟩
theorem awake45 {s : List Ob} {Q : AV → List Ob → Prop} (hq : Q (.bool true) s) : AC Try.prog 26 [] s Q := by
  refine AC_pure rfl ?_
  refine AC_body tok 0 Try.func26 rfl (by kernel_rfl) ?_
  conv => whnf
  try (refine AW_draw tok hP ?_; conv => whnf)
  first | refine AQ_int (fun sK QK hK => rxTurn (by decide) (by decide) (by decide) hK) (fun a ha => ?_) | refine rxTurn (by decide) (by decide) (by decide) (fun a ha => ?_)
  conv => whnf
  try (refine And.intro (OkD.mk (by kernel_rfl)) ?_; conv => whnf)
  obtain rfl : a = 4 := by rw [ha]; decide +kernel
  conv => whnf
  try (refine AW_draw tok hP ?_; conv => whnf)
  first | refine AQ_int (fun sK QK hK => rxTurn (by decide) (by decide) (by decide) hK) (fun b hb => ?_) | refine rxTurn (by decide) (by decide) (by decide) (fun b hb => ?_)
  conv => whnf
  try (refine And.intro (OkD.mk (by kernel_rfl)) ?_; conv => whnf)
  obtain rfl : b = 3 := by rw [hb]; decide +kernel
  conv => whnf
  try (refine AW_draw tok hP ?_; conv => whnf)
  first | refine AQ_int (fun sK QK hK => rxPowers (by decide) (by decide) hK) (fun c hc => ?_) | refine rxPowers (by decide) (by decide) (fun c hc => ?_)
  conv => whnf
  try (refine And.intro (OkD.mk (by kernel_rfl)) ?_; conv => whnf)
  obtain rfl : c = 0 := by rw [hc]; decide +kernel
  conv => whnf
  try (refine AW_draw tok hP ?_; conv => whnf)
  first | refine AQ_int (fun sK QK hK => rxPowers (by decide) (by decide) hK) (fun d hd => ?_) | refine rxPowers (by decide) (by decide) (fun d hd => ?_)
  conv => whnf
  try (refine And.intro (OkD.mk (by kernel_rfl)) ?_; conv => whnf)
  obtain rfl : d = 9 := by rw [hd]; decide +kernel
  conv => whnf
  try (refine AW_draw tok hP ?_; conv => whnf)
  first | refine AQ_int (fun sK QK hK => rxEmptyN (by decide) (by decide) (.inl rfl) hK) (fun e he => ?_) | refine rxEmptyN (by decide) (by decide) (.inl rfl) (fun e he => ?_)
  conv => whnf
  try (refine And.intro (OkD.mk (by kernel_rfl)) ?_; conv => whnf)
  obtain rfl : e = 4 := by rw [he]; decide +kernel
  conv => whnf
  refine rxPoints (n := 3) (k := 2) (by decide) (by decide) (by decide) (by decide) ?_
  conv => whnf
  exact ⟨rfl, hq⟩
theorem lawRadixBack (avs : List AV) (obs : List Ob) (ha : ArgC 0 [.flat (.ik .u32), .flat (.ik .u32), .flat (.ik .u8), .flat (.ik .u8)] avs obs) : AC Try.prog 7 (groupK [none, none, none, none] avs) obs fun r _ => r = .bool true := by
  cases ha with | int w1 ha => cases ha with | int w2 ha => cases ha with | int w3 ha => cases ha with | int w4 ha =>
  cases ha
  rename_i n m b0 d0
  replace w1 := wf_u32 w1
  replace w2 := wf_u32 w2
  replace w3 := wf_u8 w3
  replace w4 := wf_u8 w4
  refine AC_body tok 0 Try.func7 rfl (by kernel_rfl) ?_
  conv => whnf
  have cv : ∀ z : Int, 0 ≤ z → z < 4294967296 → IntKind.i64.wrap z = z := fun z h1 h2 => Z.wrap_iid (by omega) (by omega)
  have rm : ∀ z q : Int, 0 ≤ z → Z.rem .i64 z q = z % q := fun z q h => Int.tmod_eq_emod_of_nonneg h
  obtain ⟨b, eb, b1, b2⟩ : ∃ b, Z.add .i64 2 (Z.rem .i64 (IntKind.i64.wrap b0) 63) = b ∧ 2 ≤ b ∧ b ≤ 64 := by
    refine ⟨_, rfl, ?_⟩
    rw [cv _ (by omega) (by omega), rm _ _ (by omega), show Z.add .i64 2 (b0 % 63) = 2 + b0 % 63 from Z.wrap_iid (by omega) (by omega)]
    omega
  obtain ⟨d, ed, d1, d2⟩ : ∃ d, Z.rem .i64 (IntKind.i64.wrap d0) 41 = d ∧ 0 ≤ d ∧ d ≤ 40 := by
    refine ⟨_, rfl, ?_⟩
    rw [cv _ (by omega) (by omega), rm _ _ (by omega)]
    omega
  rw [eb, ed]
  have bi : I64 b := by unfold I64; omega
  have di : I64 d := by unfold I64; omega
  try (refine AW_draw tok hP ?_; conv => whnf)
  first | refine AQ_int (fun sK QK hK => rxPowers bi di hK) (fun p hp => ?_) | refine rxPowers bi di (fun p hp => ?_)
  conv => whnf
  try (refine And.intro (OkD.mk (by kernel_rfl)) ?_; conv => whnf)
  generalize hB : ((_ : Int) == 0) = bB
  replace hB : (p == 0) = bB := hB
  by_cases g1 : p = 0
  · rw [beq_iff_eq.2 g1] at hB; subst hB
    conv => whnf
    rw [decide_eq_true (show d > 6 from PR.powI_0 b1 b2 d1 d2 (by rw [← hp]; exact g1))]
    conv => whnf
    rw [cv n (by omega) (by omega)]
    try (refine AW_draw tok hP ?_; conv => whnf)
    first | refine AQ_int (fun sK QK hK => rxTurn (by unfold I64; omega) bi di hK) (fun t ht => ?_) | refine rxTurn (by unfold I64; omega) bi di (fun t ht => ?_)
    conv => whnf
    try (refine And.intro (OkD.mk (by kernel_rfl)) ?_; conv => whnf)
    obtain rfl : t = 0 := by rw [ht]; unfold turnI; rw [if_pos (.inr (by rw [← hp]; exact g1))]
    conv => whnf
    try (refine AW_draw tok hP ?_; conv => whnf)
    first | refine AQ_pure (fun sK QK hK => awake45 hK) ?_ | refine awake45 ?_
    conv => whnf
    try (refine And.intro (OkD.mk (by kernel_rfl)) ?_; conv => whnf)
  rw [beq_eq_false_iff_ne.2 g1] at hB; subst hB
  conv => whnf
  have h0 : powI b d ≠ 0 := by rw [← hp]; exact g1
  obtain ⟨-, -, -, -, pl, pe⟩ := PR.powI_ok h0
  have pp := PR.pow_pos b1 d.toNat
  rw [pe] at hp
  have pb : 0 < d → b ≤ p := fun h => by
    have := PR.pow_mono b1 (show 1 ≤ d.toNat by omega)
    rw [Int.pow_succ, Int.pow_zero, Int.one_mul] at this
    omega
  rw [decide_eq_false (show ¬ p < 1 by omega)]
  conv => whnf
  have TT : ∀ z, 0 ≤ z → turnI z b d = turnR b d.toNat z := fun z hz => PR.turnI_eq hz h0
  by_cases gd : d > 0
  case' pos =>
    rw [decide_eq_true gd]
    conv => whnf
    rw [decide_eq_false (show ¬ p < b by have := pb gd; omega)]
    conv => whnf
  case' neg =>
    rw [decide_eq_false gd]
    conv => whnf
  all_goals
    try (refine AW_draw tok hP ?_; conv => whnf)
    refine nzI g1 ?_
    conv => whnf
    refine nzI g1 ?_
    conv => whnf
    refine ⟨⟨by kernel_rfl⟩, ?_⟩
    conv => whnf
    rw [cv n (by omega) (by omega), cv m (by omega) (by omega), rm n p (by omega), rm m p (by omega)]
    have x0 := Int.emod_nonneg n g1
    have x1 := Int.emod_lt_of_pos n (show 0 < p by omega)
    have y0 := Int.emod_nonneg m g1
    have y1 := Int.emod_lt_of_pos m (show 0 < p by omega)
    generalize n % p = x at *
    generalize m % p = y at *
    have xi : I64 x := by unfold I64; omega
    have yi : I64 y := by unfold I64; omega
    try (refine AW_draw tok hP ?_; conv => whnf)
    try (refine AW_draw tok hP ?_; conv => whnf)
    first | refine AQ_int (fun sK QK hK => rxTurn xi bi di hK) (fun s1 hs => ?_) | refine rxTurn xi bi di (fun s1 hs => ?_)
    conv => whnf
    try (refine And.intro (OkD.mk (by kernel_rfl)) ?_; conv => whnf)
    try (refine AW_draw tok hP ?_; conv => whnf)
    first | refine AQ_int (fun sK QK hK => rxTurn yi bi di hK) (fun t1 ht => ?_) | refine rxTurn yi bi di (fun t1 ht => ?_)
    conv => whnf
    try (refine And.intro (OkD.mk (by kernel_rfl)) ?_; conv => whnf)
    rw [TT x x0] at hs
    rw [TT y y0] at ht
    have sb := PR.turn_b b1 d.toNat x
    have tb := PR.turn_b b1 d.toNat y
    rw [← hs] at sb
    rw [← ht] at tb
    have si : I64 s1 := by unfold I64; omega
    rw [decide_eq_false (show ¬ s1 < 0 by omega)]
    conv => whnf
    rw [decide_eq_false (show ¬ s1 ≥ p by omega)]
    conv => whnf
    try (refine AW_draw tok hP ?_; conv => whnf)
    first | refine AQ_int (fun sK QK hK => rxTurn si bi di hK) (fun u1 hu => ?_) | refine rxTurn si bi di (fun u1 hu => ?_)
    conv => whnf
    try (refine And.intro (OkD.mk (by kernel_rfl)) ?_; conv => whnf)
    rw [TT s1 sb.1, hs, PR.turn_turn b1 d.toNat x x0 (by omega)] at hu
    rw [show (u1 != x) = false by rw [hu]; simp]
    conv => whnf
    have inj := PR.turn_inj b1 d.toNat (x := x) (y := y) ⟨x0, by omega⟩ ⟨y0, by omega⟩
    rw [← hs, ← ht] at inj
    rw [show ((s1 == t1) == (x == y)) = true by rw [beq_iff_eq, Bool.eq_iff_iff, beq_iff_eq, beq_iff_eq]; exact inj]
    conv => whnf
    rw [show Z.add .i64 x p = x + p from Z.wrap_iid (by omega) (by omega)]
    try (refine AW_draw tok hP ?_; conv => whnf)
    first | refine AQ_int (fun sK QK hK => rxTurn (by unfold I64; omega) bi di hK) (fun v1 hv => ?_) | refine rxTurn (by unfold I64; omega) bi di (fun v1 hv => ?_)
    conv => whnf
    try (refine And.intro (OkD.mk (by kernel_rfl)) ?_; conv => whnf)
    have ta := PR.turn_add b1 d.toNat x 1
    rw [Int.mul_one, ← hp] at ta
    rw [TT (x + p) (by omega), ta] at hv
    rw [show (v1 != s1) = false by rw [hv, hs]; simp]
    conv => whnf
    try (refine AW_draw tok hP ?_; conv => whnf)
    by_cases d0 : d = 0
    · rw [show (d == 0) = true from beq_iff_eq.2 d0]
      conv => whnf
      try (refine AW_draw tok hP ?_; conv => whnf)
      first | refine AQ_pure (fun sK QK hK => awake45 hK) ?_ | refine awake45 ?_
      conv => whnf
      try (refine And.intro (OkD.mk (by kernel_rfl)) ?_; conv => whnf)
    rw [show (d == 0) = false from beq_eq_false_iff_ne.2 d0]
    conv => whnf
    obtain ⟨-, -, p3, -, p5⟩ := PR.powI_pred (b := b) (k := d) h0 (by omega)
    rw [pe, ← hp] at p3
    have tt := PR.turn_top b1 (d - 1).toNat x
    rw [show (d - 1).toNat + 1 = d.toNat by omega, ← hs] at tt
    have q1 : Z.quo .i64 p b = b ^ (d - 1).toNat := by rw [quo_pos (by omega) (by omega) (by omega), p3]; exact Int.mul_ediv_cancel _ (by omega)
    refine nzI (by omega) ?_
    conv => whnf
    rw [q1]
    refine nzI (by omega) ?_
    conv => whnf
    refine nzI (by omega) ?_
    conv => whnf
    rw [quo_pos (a := s1) (b := b ^ (d - 1).toNat) (by omega) (by omega) (by omega), tt, rm x b x0, beq_self_eq_true (x % b)]
    conv => whnf
    try (refine AW_draw tok hP ?_; conv => whnf)
    first | refine AQ_pure (fun sK QK hK => awake45 hK) ?_ | refine awake45 ?_
    conv => whnf
    try (refine And.intro (OkD.mk (by kernel_rfl)) ?_; conv => whnf)
