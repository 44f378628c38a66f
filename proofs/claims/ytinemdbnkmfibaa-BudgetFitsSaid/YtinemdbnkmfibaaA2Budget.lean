/- Part of the proof of a law of the seat: its functions, walked. No condition. -/
import Derived.Test.YtinemdbnkmfibaaA2Hue0
namespace Go.AW.A2
open Go Go.AW Go.Proofs
set_option maxRecDepth 100000
set_option linter.unusedVariables false
theorem budWithin {n a b : Int} {s : List Ob} {Q : AV → List Ob → Prop} (h : ∀ v, v = (decide (a ≤ n) && decide (n ≤ b)) → Q (.bool v) s) : AC Try.prog 59 [.int .i64 n, .int .i64 a, .int .i64 b] s Q := by
  refine AC_pure rfl ?_
  refine AC_body tok 3 Try.func59 rfl (by kernel_rfl) ?_
  conv => whnf
  by_cases g : a ≤ n
  · rw [decide_eq_true g]
    conv => whnf
    exact ⟨rfl, h _ (by rw [decide_eq_true g, Bool.true_and])⟩
  · rw [decide_eq_false g]
    conv => whnf
    exact ⟨rfl, h _ (by rw [decide_eq_false g, Bool.false_and])⟩
theorem budOf {seed n d b r st cr tr : Int} {s : List Ob} {Q : AV → List Ob → Prop} (h : ∀ x y e, (¬ (0 ≤ n ∧ n ≤ 1048576 ∧ 1 ≤ d ∧ d ≤ 16) → x = 0 ∧ y = 0 ∧ e = 1) → ((0 ≤ n ∧ n ≤ 1048576 ∧ 1 ≤ d ∧ d ≤ 16) → n * d = 16777216 → x = 0 ∧ y = 0 ∧ e = 11) → ((0 ≤ n ∧ n ≤ 1048576 ∧ 1 ≤ d ∧ d ≤ 16) → n * d < 16777216 → x = n * d ∧ y = n * d * 1099511627776 ∧ e = 0) → Q (.tup [.agg [.int .i64 x, .int .u64 y], .int .i64 e]) s) : AC Try.prog 39 [.agg [.int .u64 seed, .int .i64 n, .int .i64 d, .int .i64 b, .int .i64 r, .int .i64 st, .int .i64 cr, .int .i64 tr]] s Q := by
  refine AC_pure rfl ?_
  refine AC_body tok 3 Try.func39 rfl (by kernel_rfl) ?_
  conv => whnf
  refine budWithin (fun v hv => ?_)
  by_cases g1 : 0 ≤ n ∧ n ≤ 1048576
  · obtain rfl : v = true := hv.trans (by rw [decide_eq_true g1.1, decide_eq_true g1.2]; rfl)
    conv => whnf
    refine budWithin (fun w hw => ?_)
    by_cases g2 : 1 ≤ d ∧ d ≤ 16
    · obtain rfl : w = true := hw.trans (by rw [decide_eq_true g2.1, decide_eq_true g2.2]; rfl)
      conv => whnf
      have m1 : 0 ≤ n * d := Int.mul_nonneg g1.1 (by omega)
      have m2 : n * d ≤ 1048576 * 16 := Int.mul_le_mul g1.2 g2.2 (by omega) (by omega)
      have e1 : Z.mul .i64 n d = n * d := Z.wrap_iid (by omega) (by omega)
      have e2 : IntKind.u64.wrap (Z.mul .i64 n d) = n * d := by rw [e1, Z.wrap_u]; omega
      refine mul64 (Z.wrap_u_lo _) (Z.wrap_u_hi _) (by omega) (by omega) (fun v u hv hu => ?_)
      rw [e2] at hv hu
      conv => whnf
      by_cases g3 : n * d = 16777216
      · rw [show (v != 0) = true from by rw [bne_iff_ne]; omega]
        conv => whnf
        exact ⟨rfl, h _ _ _ (fun g => absurd ⟨g1.1, g1.2, g2⟩ g) (fun _ _ => ⟨rfl, rfl, rfl⟩) (fun _ g => by omega)⟩
      · rw [show (v != 0) = false from by rw [bne_eq_false_iff_eq]; omega]
        conv => whnf
        exact ⟨rfl, h _ _ _ (fun g => absurd ⟨g1.1, g1.2, g2⟩ g) (fun _ g => absurd g g3) (fun _ _ => ⟨e1, by omega, rfl⟩)⟩
    · obtain rfl : w = false := hw.trans (by rw [Bool.eq_false_iff]; intro e; rw [Bool.and_eq_true, decide_eq_true_iff, decide_eq_true_iff] at e; exact g2 e)
      conv => whnf
      exact ⟨rfl, h _ _ _ (fun _ => ⟨rfl, rfl, rfl⟩) (fun g => absurd ⟨g.2.2.1, g.2.2.2⟩ g2) (fun g => absurd ⟨g.2.2.1, g.2.2.2⟩ g2)⟩
  · obtain rfl : v = false := hv.trans (by rw [Bool.eq_false_iff]; intro e; rw [Bool.and_eq_true, decide_eq_true_iff, decide_eq_true_iff] at e; exact g1 e)
    conv => whnf
    exact ⟨rfl, h _ _ _ (fun _ => ⟨rfl, rfl, rfl⟩) (fun g => absurd ⟨g.1, g.2.1⟩ g1) (fun g => absurd ⟨g.1, g.2.1⟩ g1)⟩
theorem budAdd {a b : Int} (ha : 0 ≤ a) (ha' : a < 18446744073709551616) (hb : 0 ≤ b) (hb' : b < 18446744073709551616) {s : List Ob} {Q : AV → List Ob → Prop} (h : ∀ v ok, (a + b < 18446744073709551616 → v = a + b ∧ ok = true) → (¬ a + b < 18446744073709551616 → v = 0 ∧ ok = false) → Q (.tup [.int .u64 v, .bool ok]) s) : AC Try.prog 41 [.int .u64 a, .int .u64 b] s Q := by
  refine AC_pure rfl ?_
  refine AC_body tok 3 Try.func41 rfl (by kernel_rfl) ?_
  conv => whnf
  refine add64 ha hb (by omega) (by omega) (fun v u hv hu => ?_)
  conv => whnf
  by_cases g : a + b < 18446744073709551616
  · rw [show (u != 0) = false from by rw [bne_eq_false_iff_eq]; omega]
    conv => whnf
    exact ⟨rfl, h _ _ (fun _ => ⟨by omega, rfl⟩) (fun k => absurd g k)⟩
  · rw [show (u != 0) = true from by rw [bne_iff_ne]; omega]
    conv => whnf
    exact ⟨rfl, h _ _ (fun k => absurd k g) (fun _ => ⟨rfl, rfl⟩)⟩
theorem budShares {n b : Int} {s : List Ob} {Q : AV → List Ob → Prop} (h : ∀ v, (¬ (0 ≤ n ∧ n ≤ 1048576 ∧ 1 ≤ b ∧ b ≤ 65536) → v = 0) → ((0 ≤ n ∧ n ≤ 1048576 ∧ 1 ≤ b ∧ b ≤ 65536) → v = (n + b - 1) / b) → Q (.int .i64 v) s) : AC Try.prog 42 [.int .i64 n, .int .i64 b] s Q := by
  refine AC_pure rfl ?_
  refine AC_body tok 3 Try.func42 rfl (by kernel_rfl) ?_
  conv => whnf
  refine budWithin (fun v hv => ?_)
  by_cases g1 : 0 ≤ n ∧ n ≤ 1048576
  · obtain rfl : v = true := hv.trans (by rw [decide_eq_true g1.1, decide_eq_true g1.2]; rfl)
    conv => whnf
    refine budWithin (fun w hw => ?_)
    by_cases g2 : 1 ≤ b ∧ b ≤ 65536
    · obtain rfl : w = true := hw.trans (by rw [decide_eq_true g2.1, decide_eq_true g2.2]; rfl)
      conv => whnf
      refine nzI (show b ≠ 0 by omega) ?_
      conv => whnf
      have e1 : Z.sub .i64 (Z.add .i64 n b) 1 = n + b - 1 := by
        rw [show Z.add .i64 n b = n + b from Z.wrap_iid (by omega) (by omega)]; exact Z.wrap_iid (by omega) (by omega)
      exact ⟨rfl, h _ (fun g => absurd ⟨g1.1, g1.2, g2⟩ g) (fun _ => by rw [e1, quo_pos (by omega) (by omega) (by omega)])⟩
    · obtain rfl : w = false := hw.trans (by rw [Bool.eq_false_iff]; intro e; rw [Bool.and_eq_true, decide_eq_true_iff, decide_eq_true_iff] at e; exact g2 e)
      conv => whnf
      exact ⟨rfl, h _ (fun _ => rfl) (fun g => absurd ⟨g.2.2.1, g.2.2.2⟩ g2)⟩
  · obtain rfl : v = false := hv.trans (by rw [Bool.eq_false_iff]; intro e; rw [Bool.and_eq_true, decide_eq_true_iff, decide_eq_true_iff] at e; exact g1 e)
    conv => whnf
    exact ⟨rfl, h _ (fun _ => rfl) (fun g => absurd ⟨g.1, g.2.1⟩ g1)⟩
theorem budPixelA {e : TypeId} {i : Nat} {s : List Ob} (hs : s[i]? = some (.row true e [.ik .i64, .ik .i64, .ik .i64, .ik .i64] [[1, 5, 0, 0], [2, 7, 0, 0], [1, 2, 0, 1]])) {Q : AV → List Ob → Prop}
    (h : Q (.agg [.int .u64 7, .int .u64 0, .int .u64 1]) s) : AC Try.prog 61 [.sl i 0 3 none, .int .i64 1] s Q := by
  refine AC_read (args' := [.sl 0 0 3 none, .int .i64 1]) (L := [.row true e [.ik .i64, .ik .i64, .ik .i64, .ik .i64] [[1, 5, 0, 0], [2, 7, 0, 0], [1, 2, 0, 1]]]) [i] (by simp) rfl rfl (by rintro (_ | i') j ob h1 h2 <;> simp at h1 h2; subst h1 h2; exact hs) ?_
  refine AC_body tok 40 Try.func61 rfl (by kernel_rfl) ?_
  conv => whnf
  refine hueWeight (fun v hv => ?_)
  obtain rfl : v = true := hv.trans (by decide +kernel)
  conv => whnf
  refine hueWeight (fun v hv => ?_)
  obtain rfl : v = true := hv.trans (by decide +kernel)
  conv => whnf
  refine hueWeight (fun v hv => ?_)
  obtain rfl : v = true := hv.trans (by decide +kernel)
  conv => whnf
  exact ⟨rfl, rfl, Qeq (by kernel_rfl) h⟩
theorem awake29 {s : List Ob} {Q : AV → List Ob → Prop} (h : Q (.bool true) s) : AC Try.prog 40 [] s Q := by
  refine AC_pure rfl ?_
  refine AC_body tok 3 Try.func40 rfl (by kernel_rfl) ?_
  conv => whnf
  refine budOf (fun x y e h1 h2 h3 => ?_)
  obtain ⟨rfl, rfl, rfl⟩ := h2 (by omega) (by omega)
  conv => whnf
  refine budOf (fun x y e h1 h2 h3 => ?_)
  obtain ⟨hx, hy, rfl⟩ := h3 (by omega) (by omega)
  obtain rfl : x = 15728640 := hx.trans (by omega)
  obtain rfl : y = 17293822569102704640 := hy.trans (by omega)
  conv => whnf
  refine budPixelA rfl ?_
  conv => whnf
  refine budShares (fun v _ hv => ?_)
  obtain rfl : v = 3 := (hv (by omega)).trans (by decide)
  conv => whnf
  exact ⟨rfl, h⟩
set_option maxHeartbeats 2000000 in
theorem budFits (avs : List AV) (obs : List Ob) (ha : ArgC 0 [.flat (.ik .u64), .flat (.ik .i64), .flat (.ik .i64), .flat (.ik .i64), .flat (.ik .i64), .flat (.ik .i64), .flat (.ik .i64), .flat (.ik .i64), .flat (.ik .u64)] avs obs) : AC Try.prog 8 (groupK [some 8, none] avs) obs fun r _ => r = .bool true := by
  cases ha with | int w1 ha => cases ha with | int w2 ha => cases ha with | int w3 ha => cases ha with | int w4 ha => cases ha with | int w5 ha => cases ha with | int w6 ha => cases ha with | int w7 ha => cases ha with | int w8 ha => cases ha with | int w9 ha =>
  cases ha
  rename_i seed n d b r st cr tr w
  have n0 := wf_i64 w2; have d0 := wf_i64 w3; have b0 := wf_i64 w4; have w0 := wf_u64 w9
  refine AC_body tok 0 Try.func8 rfl (by kernel_rfl) ?_
  conv => whnf
  refine budOf (fun x y e h1 h2 h3 => ?_)
  conv => whnf
  by_cases g0 : 0 ≤ n ∧ n ≤ 1048576 ∧ 1 ≤ d ∧ d ≤ 16
  · by_cases g1 : n * d = 16777216
    · obtain ⟨rfl, rfl, rfl⟩ := h2 g0 g1
      conv => whnf
      refine AW_draw tok hP ?_
      conv => whnf
      refine ⟨⟨by kernel_rfl⟩, ?_⟩
      conv => whnf
      have n1 : n = 1048576 := by
        by_cases k : n ≤ 1048575
        · have : n * d ≤ 1048575 * 16 := Int.mul_le_mul k g0.2.2.2 (by omega) (by omega)
          omega
        · omega
      subst n1
      have d1 : d = 16 := by omega
      subst d1
      have e1 : Z.sub .i64 1048576 1 = 1048575 := Z.wrap_iid (by omega) (by omega)
      have e2 : Z.sub .i64 16 1 = 15 := Z.wrap_iid (by omega) (by omega)
      refine budOf (fun x y e _ _ h3 => ?_)
      rw [e1] at h3
      obtain ⟨_, _, rfl⟩ := h3 (by omega) (by omega)
      conv => whnf
      refine budOf (fun x y e _ _ h3 => ?_)
      rw [e2] at h3
      obtain ⟨_, _, rfl⟩ := h3 (by omega) (by omega)
      conv => whnf
      exact awake29 rfl
    · have m1 : 0 ≤ n * d := Int.mul_nonneg g0.1 (by omega)
      have m2 : n * d ≤ 1048576 * 16 := Int.mul_le_mul g0.2.1 g0.2.2.2 (by omega) (by omega)
      obtain ⟨hx, hy, rfl⟩ := h3 g0 (by omega)
      clear h1 h2 h3
      conv => whnf
      refine AW_draw tok hP ?_
      conv => whnf
      refine ⟨⟨by kernel_rfl⟩, ?_⟩
      conv => whnf
      have e1 : Z.sub .i64 n 1 = n - 1 := Z.wrap_iid (by omega) (by omega)
      have e2 : Z.sub .i64 d 1 = d - 1 := Z.wrap_iid (by omega) (by omega)
      have e3 : Z.mul .i64 n d = n * d := Z.wrap_iid (by omega) (by omega)
      have m3 : (n - 1) * d = n * d - d := by rw [Int.sub_mul, Int.one_mul]
      have m4 : n * (d - 1) = n * d - n := by rw [Int.mul_sub, Int.mul_one]
      refine budOf (fun x2 y2 e h1 h2 h3 => ?_)
      rw [e1] at h1; rw [e1, m3] at h2 h3
      have ne : e ≠ 11 := by
        by_cases k : 1 ≤ n
        · have := h3 (by omega) (by omega); omega
        · have := h1 (by omega); omega
      clear h1 h2 h3
      conv => whnf
      refine budOf (fun x3 y3 f h1 h2 h3 => ?_)
      rw [e2] at h1; rw [e2, m4] at h2 h3
      have nf : f ≠ 11 := by
        by_cases k : 2 ≤ d
        · have := h3 (by omega) (by omega); omega
        · have := h1 (by omega); omega
      clear h1 h2 h3
      conv => whnf
      rw [show (e == 11) = false from by rw [beq_eq_false_iff_ne]; exact ne]
      conv => whnf
      rw [show (f == 11) = false from by rw [beq_eq_false_iff_ne]; exact nf]
      conv => whnf
      rw [show (x != Z.mul .i64 n d) = false from by rw [bne_eq_false_iff_eq]; omega]
      conv => whnf
      have o1 : Z.rem .u64 w 1099511627777 = w % 1099511627777 := by
        unfold Z.rem; rw [Int.tmod_eq_emod_of_nonneg w0.1]
      have p1 : 0 ≤ w % 1099511627777 * x := Int.mul_nonneg (by omega) (by omega)
      have p2 : w % 1099511627777 * x ≤ 1099511627776 * x := Int.mul_le_mul_of_nonneg_right (by omega) (by omega)
      have o2 : Z.mul .u64 (Z.rem .u64 w 1099511627777) (IntKind.u64.wrap x) = w % 1099511627777 * x := by
        rw [o1, show IntKind.u64.wrap x = x by rw [Z.wrap_u]; omega]; exact Z.wrap_uid p1 (by omega)
      obtain ⟨P, eP⟩ : ∃ P, P = w % 1099511627777 * x := ⟨_, rfl⟩
      rw [← eP] at p1 p2 o2
      have o3 : Z.sub .u64 y (Z.mul .u64 (Z.rem .u64 w 1099511627777) (IntKind.u64.wrap x)) = y - P := by rw [o2]; exact Z.wrap_uid (by omega) (by omega)
      refine budAdd (by rw [o2]; exact p1) (by rw [o2]; omega) (by rw [o3]; omega) (by rw [o3]; omega) (fun v ok h1 _ => ?_)
      rw [o3, o2] at h1
      obtain ⟨hv, rfl⟩ := h1 (by omega)
      conv => whnf
      rw [show (v != y) = false from by rw [bne_eq_false_iff_eq]; omega]
      conv => whnf
      rw [show (Z.quo .u64 y 1099511627776 != IntKind.u64.wrap x) = false from by
        rw [bne_eq_false_iff_eq]; unfold Z.quo; rw [Int.tdiv_eq_ediv_of_nonneg (by omega), Z.wrap_u, Z.wrap_u]; omega]
      conv => whnf
      have sum : v = y := by omega
      clear h1 hv o3 o2 p2 p1 eP o1
      by_cases b1 : b < 1
      · rw [decide_eq_true b1]
        conv => whnf
        refine budShares (fun v h1 _ => ?_)
        obtain rfl := h1 (by omega)
        conv => whnf
        exact awake29 rfl
      rw [decide_eq_false b1]
      conv => whnf
      by_cases b2 : b > 65536
      · rw [decide_eq_true b2]
        conv => whnf
        refine budShares (fun v h1 _ => ?_)
        obtain rfl := h1 (by omega)
        conv => whnf
        exact awake29 rfl
      rw [decide_eq_false b2]
      conv => whnf
      refine budShares (fun v _ h1 => ?_)
      have hv := h1 ⟨g0.1, g0.2.1, by omega, by omega⟩
      clear h1
      have q1 : v * b ≤ n + b - 1 := by rw [hv]; exact Int.ediv_mul_le _ (by omega)
      have q2 : n + b - 1 < (v + 1) * b := by rw [hv]; exact Int.lt_ediv_add_one_mul_self _ (by omega)
      have q0 : 0 ≤ v := by rw [hv]; exact Int.ediv_nonneg (by omega) (by omega)
      rw [Int.add_mul, Int.one_mul] at q2
      have f1 : Z.mul .i64 v b = v * b := Z.wrap_iid (by omega) (by omega)
      have q4 : v ≤ 1048576 := by
        rw [hv]; have : (n + b - 1) / b ≤ n := by
          by_cases k : n = 0
          · subst k; rw [Int.ediv_eq_zero_of_lt (by omega) (by omega)]; omega
          · exact Int.ediv_le_of_le_mul (by omega) (by have : n * b = n + (n * (b - 1)) := by rw [Int.mul_sub]; omega
                                                       have : 1 * (b - 1) ≤ n * (b - 1) := Int.mul_le_mul_of_nonneg_right (by omega) (by omega)
                                                       omega)
        omega
      have f3 : Z.sub .i64 v 1 = v - 1 := Z.wrap_iid (by omega) (by omega)
      have f2 : Z.mul .i64 (Z.sub .i64 v 1) b = v * b - b := by
        rw [f3]; unfold Z.mul; rw [Int.sub_mul, Int.one_mul]; exact Z.wrap_iid (by omega) (by omega)
      have q3 : v > 0 ↔ n > 0 := by
        constructor
        · intro k
          have : 1 * b ≤ v * b := Int.mul_le_mul_of_nonneg_right (by omega) (by omega)
          omega
        · intro k
          by_cases k2 : v = 0
          · subst k2; omega
          · omega
      conv => whnf
      rw [show decide (Z.mul .i64 v b ≥ n) = true from by rw [f1, decide_eq_true_iff]; omega]
      conv => whnf
      rw [show decide (Z.mul .i64 (Z.sub .i64 v 1) b < n) = true from by rw [f2, decide_eq_true_iff]; omega]
      conv => whnf
      rw [show (decide (v > 0) == decide (n > 0)) = true from by rw [beq_iff_eq]; exact decide_eq_decide.2 q3]
      conv => whnf
      exact awake29 rfl
  · obtain ⟨rfl, rfl, rfl⟩ := h1 g0
    conv => whnf
    exact awake29 rfl
