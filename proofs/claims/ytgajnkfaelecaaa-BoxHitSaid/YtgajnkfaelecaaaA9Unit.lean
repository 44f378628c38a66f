/- Part of the proof of a law of the seat: its functions, walked. No condition. -/
import Derived.Test.YtgajnkfaelecaaaA9Vec
import Derived.Test.YtgajnkfaelecaaaPUnit
namespace Go.AW.A9
open Go Go.AW Go.Proofs
set_option maxRecDepth 100000
set_option linter.unusedVariables false
theorem vecLen {x y z : Int} (hx : I64 x) (hy : I64 y) (hz : I64 z) {s : List Ob} {Q : AV → List Ob → Prop} (h : ∀ v, v = lenI x y z → Q (.int .i64 v) s) : AC Try.prog 54 [.agg [.int .i64 x, .int .i64 y, .int .i64 z]] s Q := by
  refine AC_pure rfl ?_
  refine AC_body tok 3 Try.func54 rfl (by kernel_rfl) ?_
  conv => whnf
  refine vecDot hx hy hz hx hy hz (fun u hu => ?_)
  conv => whnf
  have u0 : 0 ≤ u ∧ u < 18446744073709551616 := by have := PU.dot_0 x y z; have := PV.dot_i x y z x y z; omega
  have eu : IntKind.u64.wrap u = u := Z.wrap_uid u0.1 u0.2
  rw [eu]
  refine numRoot u0.1 u0.2 (fun v hv => ?_)
  conv => whnf
  exact ⟨rfl, h _ (by rw [hv, hu]; rfl)⟩
theorem vecEach {f : FuncId} {al : List AV} {x y z x' y' z' : Int} (hal : ∀ ρ, AV.ren.renL ρ al = al) {s : List Ob} {Q : AV → List Ob → Prop}
    (h1 : ∀ (s : List Ob) (Q : AV → List Ob → Prop), Q (.int .i64 x') s → AC Try.prog f (.int .i64 x :: al) s Q) (h2 : ∀ (s : List Ob) (Q : AV → List Ob → Prop), Q (.int .i64 y') s → AC Try.prog f (.int .i64 y :: al) s Q) (h3 : ∀ (s : List Ob) (Q : AV → List Ob → Prop), Q (.int .i64 z') s → AC Try.prog f (.int .i64 z :: al) s Q)
    (h : Q (.agg [.int .i64 x', .int .i64 y', .int .i64 z']) s) : AC Try.prog 51 [.agg [.int .i64 x, .int .i64 y, .int .i64 z], .fn f [] al] s Q := by
  refine AC_fn (.agg [.int .i64 x', .int .i64 y', .int .i64 z']) (fun ρ => by show [AV.agg [.int .i64 x, .int .i64 y, .int .i64 z], .fn f [] (AV.ren.renL ρ al)] = _; rw [hal]) (fun ρ => rfl) ?_
  refine AC_body tok 12 Try.func51 rfl (by kernel_rfl) ?_
  conv => whnf
  try (refine AW_draw tok hP ?_; conv => whnf)
  first | refine AQ_pure (fun sK QK hK => h1 _ _ hK) ?_ | refine h1 _ _ ?_
  conv => whnf
  try (refine And.intro (OkD.mk (by kernel_rfl)) ?_; conv => whnf)
  try (refine AW_draw tok hP ?_; conv => whnf)
  first | refine AQ_pure (fun sK QK hK => h2 _ _ hK) ?_ | refine h2 _ _ ?_
  conv => whnf
  try (refine And.intro (OkD.mk (by kernel_rfl)) ?_; conv => whnf)
  try (refine AW_draw tok hP ?_; conv => whnf)
  first | refine AQ_pure (fun sK QK hK => h3 _ _ hK) ?_ | refine h3 _ _ ?_
  conv => whnf
  try (refine And.intro (OkD.mk (by kernel_rfl)) ?_; conv => whnf)
  exact ⟨rfl, h⟩
theorem vecUnit1 {n : Int} {s : List Ob} {Q : AV → List Ob → Prop} (h : Q (.int .i64 (Z.mul .i64 2 n)) s) : AC Try.prog 52 [.int .i64 n] s Q := by
  refine AC_pure rfl ?_
  refine AC_body tok 3 Try.func52 rfl (by kernel_rfl) ?_
  conv => whnf
  exact ⟨rfl, h⟩
theorem vecUnit2 {n : Int} {s : List Ob} {Q : AV → List Ob → Prop} (h : Q (.int .i64 (Z.quo .i64 n 2)) s) : AC Try.prog 53 [.int .i64 n] s Q := by
  refine AC_pure rfl ?_
  refine AC_body tok 3 Try.func53 rfl (by kernel_rfl) ?_
  conv => whnf
  exact ⟨rfl, h⟩
theorem vecUnit {x y z : Int} (hx : I64 x) (hy : I64 y) (hz : I64 z) {s : List Ob} {Q : AV → List Ob → Prop} (h : ∀ o p q b, (p, q, b) = unitI x y z → o = okI x y z → Q (.tup [.agg [.int .i64 p, .int .i64 q, .int .i64 b], .bool o]) s) : AC Try.prog 29 [.agg [.int .i64 x, .int .i64 y, .int .i64 z]] s Q := by
  refine AC_pure rfl ?_
  refine AC_body tok 0 Try.func29 rfl (by kernel_rfl) ?_
  conv => whnf
  refine vecOf ?_
  conv => whnf
  refine vecMost hx hy hz (fun m hm => ?_)
  conv => whnf
  have no : (m = 0 ∨ m > 4611686018427387904) → Q (.tup [.agg [.int .i64 0, .int .i64 0, .int .i64 0], .bool false]) s := fun g => by
    have e : okI x y z = false := by unfold okI; rw [decide_eq_false_iff_not]; omega
    exact h _ _ _ _ (by unfold unitI; rw [e]; rfl) e.symm
  generalize hB : ((_ : Int) == 0) = bB
  replace hB : (m == 0) = bB := hB
  by_cases g0 : m = 0
  · rw [beq_iff_eq.2 g0] at hB; subst hB
    conv => whnf
    exact ⟨rfl, no (by omega)⟩
  rw [beq_eq_false_iff_ne.2 g0] at hB; subst hB
  conv => whnf
  generalize hB : decide ((_ : Int) > 4611686018427387904) = bB
  replace hB : decide (m > 4611686018427387904) = bB := hB
  by_cases g1 : m > 4611686018427387904
  · rw [decide_eq_true g1] at hB; subst hB
    conv => whnf
    exact ⟨rfl, no (by omega)⟩
  rw [decide_eq_false g1] at hB; subst hB
  conv => whnf
  have m0 := PU.most_0 x y z
  have e : okI x y z = true := by unfold okI; rw [decide_eq_true_iff]; omega
  obtain ⟨a1, a2, a3⟩ := PU.ok_A hx hy hz e
  replace h := fun p q b hh => h _ p q b hh e.symm
  unfold unitI at h
  rw [if_pos e] at h
  clear no
  replace hm : m = mostA x y z := hm.trans a1
  subst hm
  refine ALs.invD (ι := Nat × Int × Int × Int) tok 12 [true, true, true, true, true, true] (fun (k, p, q, b) => dblI k p q b = dblI 20 x y z ∧ 1 ≤ mostA p q b ∧ mostA p q b ≤ 4611686018427387904 ∧ 524288 ≤ mostA p q b * 2 ^ k) (fun (k, _) => k)
    (fun (k, p, q, b) => [.agg [.int .i64 x, .int .i64 y, .int .i64 z], .ptr 0 0 0, .ptr 1 0 0, .bool false, .ptr 2 0 0, .int .i64 (mostA p q b)] ++ junks 30)
    (fun (k, p, q, b) => [.cells 0 [.int .i64 x, .int .i64 y, .int .i64 z], .cells 0 [.int .i64 0, .int .i64 0, .int .i64 0], .cells 0 [.int .i64 p, .int .i64 q, .int .i64 b]]) (fun _ => ()) (20, x, y, z) ⟨rfl, a2, a3, by show 524288 ≤ mostA x y z * 1048576; omega⟩ rfl ⟨_, rfl⟩ rfl (fun _ => Nat.zero_le _) (fun _ => rfl) ?_
  rintro ⟨k, p, q, b⟩ ⟨i1, i2, i3, i4⟩
  replace i4 : 524288 ≤ mostA p q b * 2 ^ k := i4
  conv => whnf
  by_cases g : mostA p q b < 524288
  · rw [decide_eq_true g]
    conv => whnf
    have pb := PU.most_A_le.1 (show mostA p q b ≤ 524288 by omega)
    have e1 : Z.mul .i64 2 p = 2 * p := Z.wrap_iid (by omega) (by omega)
    have e2 : Z.mul .i64 2 q = 2 * q := Z.wrap_iid (by omega) (by omega)
    have e3 : Z.mul .i64 2 b = 2 * b := Z.wrap_iid (by omega) (by omega)
    have em : Z.mul .i64 (mostA p q b) 2 = mostA (2 * p) (2 * q) (2 * b) := by rw [PU.most_dbl, Int.mul_comm 2]; exact Z.wrap_iid (by omega) (by omega)
    refine vecEach (fun _ => rfl) (fun _ _ h => vecUnit1 (by rw [e1]; exact h)) (fun _ _ h => vecUnit1 (by rw [e2]; exact h)) (fun _ _ h => vecUnit1 (by rw [e3]; exact h)) ?_
    conv => whnf
    cases k with
    | zero => rw [show (2 : Int) ^ 0 = 1 from rfl] at i4; omega
    | succ k =>
      rw [em]
      refine ⟨(k, 2 * p, 2 * q, 2 * b), [], rfl, rfl, rfl, Nat.lt_succ_self k, ?_⟩
      show dblI k (2 * p) (2 * q) (2 * b) = _ ∧ 1 ≤ mostA (2 * p) (2 * q) (2 * b) ∧ mostA (2 * p) (2 * q) (2 * b) ≤ _ ∧ _ ≤ mostA (2 * p) (2 * q) (2 * b) * 2 ^ k
      rw [PU.most_dbl]
      refine ⟨?_, by omega, by omega, ?_⟩
      · rw [← i1, dblI, if_pos g]
      · rw [show (2 : Int) ^ (k + 1) = 2 ^ k * 2 from Int.pow_succ ..] at i4
        rw [Int.mul_comm 2, Int.mul_assoc, Int.mul_comm 2]; exact i4
  · rw [decide_eq_false g]
    conv => whnf
    refine AWs.go tok 0 ?_
    conv => whnf
    have d1 : dblI 20 x y z = (p, q, b) := by
      rw [← i1]; cases k with
      | zero => rfl
      | succ k => rw [dblI, if_neg g]
    have ee : evenI x y z = hlvI 64 p q b := by unfold evenI; rw [d1]
    refine ALs.invD (ι := Nat × Int × Int × Int) tok 12 [true, true, true, true, true] (fun (k, p, q, b) => hlvI k p q b = evenI x y z ∧ 524288 ≤ mostA p q b ∧ mostA p q b ≤ 4611686018427387904 ∧ mostA p q b < 1048576 * 2 ^ k) (fun (k, _) => k)
      (fun _ => [.agg [.int .i64 x, .int .i64 y, .int .i64 z], .ptr 0 0 0, .ptr 1 0 0, .bool false, .ptr 2 0 0] ++ junks 31)
      (fun (k, p, q, b) => [.cells 0 [.int .i64 x, .int .i64 y, .int .i64 z], .cells 0 [.int .i64 0, .int .i64 0, .int .i64 0], .cells 0 [.int .i64 p, .int .i64 q, .int .i64 b]]) (fun _ => ()) (64, p, q, b) ⟨ee.symm, by omega, i3, by show mostA p q b < 1048576 * 18446744073709551616; omega⟩ rfl ⟨[], rfl⟩ rfl (fun _ => Nat.zero_le _) (fun _ => rfl) ?_
    clear i1 i2 i3 i4 d1 ee g k p q b
    rintro ⟨k, p, q, b⟩ ⟨i1, i2, i3, i4⟩
    replace i1 : hlvI k p q b = evenI x y z := i1
    replace i2 : 524288 ≤ mostA p q b := i2
    replace i3 : mostA p q b ≤ 4611686018427387904 := i3
    replace i4 : mostA p q b < 1048576 * 2 ^ k := i4
    conv => whnf
    have pb := PU.most_A_le.1 i3
    have hp : I64 p := by unfold I64; omega
    have hq : I64 q := by unfold I64; omega
    have hb : I64 b := by unfold I64; omega
    refine vecMost hp hq hb (fun m hm => ?_)
    conv => whnf
    replace hm : m = mostA p q b := hm.trans (PU.most_I (by omega))
    subst hm
    generalize hB : decide ((_ : Int) ≥ 1048576) = bB
    replace hB : decide (mostA p q b ≥ 1048576) = bB := hB
    by_cases g : mostA p q b ≥ 1048576
    · rw [decide_eq_true g] at hB; subst hB
      conv => whnf
      have e1 : Z.quo .i64 p 2 = p.tdiv 2 := quo_i (by omega) (by omega) (by omega)
      have e2 : Z.quo .i64 q 2 = q.tdiv 2 := quo_i (by omega) (by omega) (by omega)
      have e3 : Z.quo .i64 b 2 = b.tdiv 2 := quo_i (by omega) (by omega) (by omega)
      refine vecEach (fun _ => rfl) (fun _ _ h => vecUnit2 (by rw [e1]; exact h)) (fun _ _ h => vecUnit2 (by rw [e2]; exact h)) (fun _ _ h => vecUnit2 (by rw [e3]; exact h)) ?_
      conv => whnf
      cases k with
      | zero => rw [show (2 : Int) ^ 0 = 1 from rfl] at i4; omega
      | succ k =>
        refine ⟨(k, p.tdiv 2, q.tdiv 2, b.tdiv 2), [], rfl, rfl, rfl, Nat.lt_succ_self k, ?_⟩
        show hlvI k (p.tdiv 2) (q.tdiv 2) (b.tdiv 2) = _ ∧ _ ≤ mostA (p.tdiv 2) (q.tdiv 2) (b.tdiv 2) ∧ mostA (p.tdiv 2) (q.tdiv 2) (b.tdiv 2) ≤ _ ∧ mostA (p.tdiv 2) (q.tdiv 2) (b.tdiv 2) < _ * 2 ^ k
        rw [show (2 : Int) ^ (k + 1) = 2 ^ k * 2 from Int.pow_succ ..] at i4
        have lo := PU.half_ge (x := p) (y := q) (z := b) (n := 524288) (by omega) (by omega)
        have hi := PU.most_half_lt (x := p) (y := q) (z := b) (n := 4611686018427387904) (by omega) (by omega)
        have p2 : (1 : Int) ≤ 2 ^ k := Int.pow_pos (by omega)
        refine ⟨?_, lo, by omega, PU.most_half_lt (by omega) (by omega)⟩
        rw [← i1, hlvI, if_neg (by omega)]
    · rw [decide_eq_false g] at hB; subst hB
      conv => whnf
      refine AWs.go tok 0 ?_
      conv => whnf
      have ev : evenI x y z = (p, q, b) := by
        rw [← i1]; cases k with
        | zero => rfl
        | succ k => rw [hlvI, if_pos (by omega)]
      rw [ev] at h
      replace h : ∀ p' q' b', (p', q', b') = (uni1 p (lenI p q b), uni1 q (lenI p q b), uni1 b (lenI p q b)) → _ := h
      obtain ⟨l0, l1⟩ := PU.len_lo (x := p) (y := q) (z := b) i2 (by omega)
      have pb := PU.most_A_le.1 (show mostA p q b ≤ 1048576 by omega)
      refine vecVec ?_
      conv => whnf
      refine vecLen hp hq hb (fun l hl => ?_)
      conv => whnf
      subst hl
      have e1 : ∀ n : Int, -1048576 ≤ n → n ≤ 1048576 → Z.quo .i64 (Z.mul .i64 n 16384) (lenI p q b) = uni1 n (lenI p q b) := fun n n0 n1 => by
        rw [show Z.mul .i64 n 16384 = n * 16384 from Z.wrap_iid (by omega) (by omega)]
        exact quo_i (by omega) (by omega) (by omega)
      refine AC_body tok 12 Try.func51 rfl (by kernel_rfl) ?_
      conv => whnf
      refine AC_body tok 3 Try.func56 rfl (by kernel_rfl) ?_
      conv => whnf
      refine nzI (by omega) ?_
      conv => whnf
      refine AC_body tok 3 Try.func56 rfl (by kernel_rfl) ?_
      conv => whnf
      refine nzI (by omega) ?_
      conv => whnf
      refine AC_body tok 3 Try.func56 rfl (by kernel_rfl) ?_
      conv => whnf
      refine nzI (by omega) ?_
      conv => whnf
      refine vecVec ?_
      conv => whnf
      exact ⟨rfl, by rw [e1 p pb.1.1 pb.1.2, e1 q pb.2.1.1 pb.2.1.2, e1 b pb.2.2.1 pb.2.2.2]; exact h _ _ _ rfl⟩
theorem refDot6 {a b c x y z : Int} {s : List Ob} {Q : AV → List Ob → Prop} (h : ∀ u, u = dotI a b c x y z → Q (.int .i64 u) s) : AC Try.prog 12 [.agg [.int .i64 a, .int .i64 b, .int .i64 c], .agg [.int .i64 x, .int .i64 y, .int .i64 z]] s Q := by
  refine AC_pure rfl ?_
  refine AC_body tok 12 Try.func12 rfl (by kernel_rfl) ?_
  conv => whnf
  unfold dotI at h
  refine refNear (fun v hv => ?_)
  conv => whnf
  cases v
  · conv => whnf
    exact ⟨rfl, h _ (by rw [if_neg (by rw [← hv]; simp)])⟩
  conv => whnf
  refine refNear (fun w hw => ?_)
  conv => whnf
  cases w
  · conv => whnf
    exact ⟨rfl, h _ (by rw [if_neg (by rw [← hw]; simp)])⟩
  conv => whnf
  rw [if_pos ⟨hv.symm, hw.symm⟩] at h
  obtain ⟨⟨p1, p2⟩, ⟨q1, q2⟩, r1, r2⟩ := PV.dot_le hv.symm hw.symm
  have e1 : Z.mul .i64 a x = a * x := Z.wrap_iid (by omega) (by omega)
  have e2 : Z.mul .i64 b y = b * y := Z.wrap_iid (by omega) (by omega)
  have e3 : Z.mul .i64 c z = c * z := Z.wrap_iid (by omega) (by omega)
  have f2 : Z.add .i64 (a * x) (b * y) = a * x + b * y := Z.wrap_iid (by omega) (by omega)
  have f3 : Z.add .i64 (a * x + b * y) (c * z) = a * x + b * y + c * z := Z.wrap_iid (by omega) (by omega)
  exact ⟨rfl, (by rw [e1, e2, e3, f2, f3]; exact h _ rfl)⟩
