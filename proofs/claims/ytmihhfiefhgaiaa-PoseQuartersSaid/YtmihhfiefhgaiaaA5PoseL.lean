/- Part of the proof of a law of the seat: its functions, walked. No condition. -/
import Derived.Test.YtmihhfiefhgaiaaA5Pose
namespace Go.AW.A5
open Go Go.AW Go.Proofs
set_option maxRecDepth 100000
set_option linter.unusedVariables false
theorem poseTurnL {axis n c t : Int} {r : AV} (hn : I64 n) (hc : cosI n = c) (ht : sinI n = t) (hr : turnA axis c t = r) {s : List Ob} {Q : AV → List Ob → Prop} (h : Q r s) : AC Try.prog 8 [.int .i64 axis, .int .i64 n] s Q :=
  poseTurned hn (by rw [hc, ht, hr]; exact h)
/-- one pose behind another one -/
def thenI : List Int → List Int → List Int
  | [a, b, c, d, e, f, g, i, j, p, q, r], [a', b', c', d', e', f', g', i', j', p', q', r'] =>
    [(a' * a + b' * d + c' * g) / 16384, (a' * b + b' * e + c' * i) / 16384, (a' * c + b' * f + c' * j) / 16384, (d' * a + e' * d + f' * g) / 16384, (d' * b + e' * e + f' * i) / 16384, (d' * c + e' * f + f' * j) / 16384,
     (g' * a + i' * d + j' * g) / 16384, (g' * b + i' * e + j' * i) / 16384, (g' * c + i' * f + j' * j) / 16384,
     (a' * p + b' * q + c' * r) / 16384 + p', (d' * p + e' * q + f' * r) / 16384 + q', (g' * p + i' * q + j' * r) / 16384 + r']
  | _, _ => []
/-- may a pose be? -/
def rightI : List Int → Bool
  | [a, b, c, d, e, f, g, i, j, p, q, r] => nearI a b c && (nearI d e f && (nearI g i j && nearI p q r))
  | _ => false
theorem near_I {a b c : Int} (h : nearI a b c = true) : I64 a ∧ I64 b ∧ I64 c := by rw [PV.near_iff] at h; unfold I64; omega
theorem poseThenC {a b c d e f g i j p q r a' b' c' d' e' f' g' i' j' p' q' r' : Int} (m0 m1 m2 m3 m4 m5 m6 m7 m8 m9 m10 m11 : Int) (h1 : rightI [a, b, c, d, e, f, g, i, j, p, q, r] = true) (h2 : rightI [a', b', c', d', e', f', g', i', j', p', q', r'] = true) (hm : thenI [a, b, c, d, e, f, g, i, j, p, q, r] [a', b', c', d', e', f', g', i', j', p', q', r'] = [m0, m1, m2, m3, m4, m5, m6, m7, m8, m9, m10, m11]) {s : List Ob} {Q : AV → List Ob → Prop}
    (h : Q (.agg [.int .i64 m0, .int .i64 m1, .int .i64 m2, .int .i64 m3, .int .i64 m4, .int .i64 m5, .int .i64 m6, .int .i64 m7, .int .i64 m8, .int .i64 m9, .int .i64 m10, .int .i64 m11]) s) : AC Try.prog 9 [.agg [.int .i64 a, .int .i64 b, .int .i64 c, .int .i64 d, .int .i64 e, .int .i64 f, .int .i64 g, .int .i64 i, .int .i64 j, .int .i64 p, .int .i64 q, .int .i64 r], .agg [.int .i64 a', .int .i64 b', .int .i64 c', .int .i64 d', .int .i64 e', .int .i64 f', .int .i64 g', .int .i64 i', .int .i64 j', .int .i64 p', .int .i64 q', .int .i64 r']] s Q := by
  have r1 : (nearI a b c && (nearI d e f && (nearI g i j && nearI p q r))) = true := h1
  have r2 : (nearI a' b' c' && (nearI d' e' f' && (nearI g' i' j' && nearI p' q' r'))) = true := h2
  have r1' := r1; have r2' := r2
  rw [Bool.and_eq_true, Bool.and_eq_true, Bool.and_eq_true] at r1' r2'
  obtain ⟨n1, n2, n3, n4⟩ := r1'
  obtain ⟨k1, k2, k3, k4⟩ := r2'
  obtain ⟨ha, hb, hc⟩ := near_I n1; obtain ⟨hd, he, hf⟩ := near_I n2; obtain ⟨hg, hi, hj⟩ := near_I n3; obtain ⟨hp, hq, hr⟩ := near_I n4
  obtain ⟨ha', hb', hc'⟩ := near_I k1; obtain ⟨hd', he', hf'⟩ := near_I k2; obtain ⟨hg', hi', hj'⟩ := near_I k3; obtain ⟨hp', hq', hr'⟩ := near_I k4
  unfold thenI at hm
  simp only [List.cons.injEq, and_true] at hm
  obtain ⟨e0, e1, e2, e3, e4, e5, e6, e7, e8, e9, e10, e11⟩ := hm
  refine poseThen ha hb hc hd he hf hg hi hj hp hq hr ha' hb' hc' hd' he' hf' hg' hi' hj' hp' hq' hr' (fun k => ?_) (fun _ => ?_)
  · rw [r1, r2] at k; cases k
  · intro x0 x1 x2 x3 x4 x5 x6 x7 x8 x9 x10 x11 y0 y1 y2 y3 y4 y5 y6 y7 y8 y9 y10 y11
    rw [y0, y1, y2, y3, y4, y5, y6, y7, y8, y9, y10, y11, e0, e1, e2, e3, e4, e5, e6, e7, e8, e9, e10, e11]
    exact h
theorem posePutC {a b c d e f g i j p q r x y z : Int} (h1 : rightI [a, b, c, d, e, f, g, i, j, p, q, r] = true) (h2 : nearI x y z = true) {s : List Ob} {Q : AV → List Ob → Prop}
    (h : ∀ u v w, u = (a * x + b * y + c * z) / 16384 + p → v = (d * x + e * y + f * z) / 16384 + q → w = (g * x + i * y + j * z) / 16384 + r → Q (.agg [.int .i64 u, .int .i64 v, .int .i64 w]) s) : AC Try.prog 12 [.agg [.int .i64 a, .int .i64 b, .int .i64 c, .int .i64 d, .int .i64 e, .int .i64 f, .int .i64 g, .int .i64 i, .int .i64 j, .int .i64 p, .int .i64 q, .int .i64 r], .agg [.int .i64 x, .int .i64 y, .int .i64 z]] s Q := by
  have r1 : (nearI a b c && (nearI d e f && (nearI g i j && nearI p q r))) = true := h1
  have r1' := r1
  rw [Bool.and_eq_true, Bool.and_eq_true, Bool.and_eq_true] at r1'
  obtain ⟨n1, n2, n3, n4⟩ := r1'
  obtain ⟨ha, hb, hc⟩ := near_I n1; obtain ⟨hd, he, hf⟩ := near_I n2; obtain ⟨hg, hi, hj⟩ := near_I n3; obtain ⟨hp, hq, hr⟩ := near_I n4
  obtain ⟨hx, hy, hz⟩ := near_I h2
  refine posePut ha hb hc hd he hf hg hi hj hp hq hr hx hy hz (fun u v w hu _ => ?_)
  obtain ⟨hu, hv, hw⟩ := hu (by rw [r1, h2]; rfl)
  exact h u v w hu hv hw
theorem posePut0 {a b c d e f g i j p q r x y z : Int} (h1 : rightI [a, b, c, d, e, f, g, i, j, p, q, r] = true) (hx : I64 x) (hy : I64 y) (hz : I64 z) (h2 : nearI x y z = false) {s : List Ob} {Q : AV → List Ob → Prop}
    (h : Q (.agg [.int .i64 0, .int .i64 0, .int .i64 0]) s) : AC Try.prog 12 [.agg [.int .i64 a, .int .i64 b, .int .i64 c, .int .i64 d, .int .i64 e, .int .i64 f, .int .i64 g, .int .i64 i, .int .i64 j, .int .i64 p, .int .i64 q, .int .i64 r], .agg [.int .i64 x, .int .i64 y, .int .i64 z]] s Q := by
  have r1 : (nearI a b c && (nearI d e f && (nearI g i j && nearI p q r))) = true := h1
  have r1' := r1
  rw [Bool.and_eq_true, Bool.and_eq_true, Bool.and_eq_true] at r1'
  obtain ⟨n1, n2, n3, n4⟩ := r1'
  obtain ⟨ha, hb, hc⟩ := near_I n1; obtain ⟨hd, he, hf⟩ := near_I n2; obtain ⟨hg, hi, hj⟩ := near_I n3; obtain ⟨hp, hq, hr⟩ := near_I n4
  refine posePut ha hb hc hd he hf hg hi hj hp hq hr hx hy hz (fun u v w _ hu => ?_)
  obtain ⟨rfl, rfl, rfl⟩ := hu (by rw [r1, h2]; rfl)
  exact h
theorem poseRightC {a b c d e f g i j p q r : Int} (h1 : rightI [a, b, c, d, e, f, g, i, j, p, q, r] = true) {s : List Ob} {Q : AV → List Ob → Prop}
    (h : Q (.bool true) s) : AC Try.prog 16 [.agg [.int .i64 a, .int .i64 b, .int .i64 c, .int .i64 d, .int .i64 e, .int .i64 f, .int .i64 g, .int .i64 i, .int .i64 j, .int .i64 p, .int .i64 q, .int .i64 r]] s Q := by
  have r1 : (nearI a b c && (nearI d e f && (nearI g i j && nearI p q r))) = true := h1
  have r1' := r1
  rw [Bool.and_eq_true, Bool.and_eq_true, Bool.and_eq_true] at r1'
  obtain ⟨n1, n2, n3, n4⟩ := r1'
  obtain ⟨ha, hb, hc⟩ := near_I n1; obtain ⟨hd, he, hf⟩ := near_I n2; obtain ⟨hg, hi, hj⟩ := near_I n3; obtain ⟨hp, hq, hr⟩ := near_I n4
  refine poseRight ha hb hc hd he hf hg hi hj hp hq hr (fun v hv => ?_)
  obtain rfl : v = true := hv.trans r1
  exact h
theorem rightK {K : Int} (h1 : 1 ≤ K) (h2 : K ≤ 8) : rightI [16384 * K, 0, 0, 0, 16384 * K, 0, 0, 0, 16384 * K, 0, 0, 0] = true := by
  show (nearI _ _ _ && (nearI _ _ _ && (nearI _ _ _ && nearI _ _ _))) = true
  simp only [Bool.and_eq_true, PV.near_iff]; omega
theorem awake08 {s : List Ob} {Q : AV → List Ob → Prop} (h : Q (.bool true) s) : AC Try.prog 13 [] s Q := by
  refine AC_pure rfl ?_
  refine AC_body tok 3 Try.func13 rfl (by kernel_rfl) ?_
  conv => whnf
  refine poseTurnL (c := 0) (t := 16384) (r := .agg [.int .i64 0, .int .i64 (-16384), .int .i64 0, .int .i64 16384, .int .i64 0, .int .i64 0, .int .i64 0, .int .i64 0, .int .i64 16384, .int .i64 0, .int .i64 0, .int .i64 0]) (by unfold I64; omega) (by decide +kernel) (by decide +kernel) (by rfl) ?_
  conv => whnf
  refine posePutC (by decide +kernel) (by decide +kernel) (fun u v w hu hv hw => ?_)
  obtain rfl : u = 0 := hu.trans (by decide +kernel)
  obtain rfl : v = 5 := hv.trans (by decide +kernel)
  obtain rfl : w = 0 := hw.trans (by decide +kernel)
  conv => whnf
  refine poseSz (fun v hv => ?_)
  obtain rfl : v = 8192 := hv.trans (by decide +kernel)
  conv => whnf
  refine posePutC (by decide +kernel) (by decide +kernel) (fun u v w hu hv hw => ?_)
  obtain rfl : u = 2 := hu.trans (by decide +kernel)
  obtain rfl : v = 0 := hv.trans (by decide +kernel)
  obtain rfl : w = 0 := hw.trans (by decide +kernel)
  conv => whnf
  refine poseNone ?_
  conv => whnf
  refine poseRightC (by decide +kernel) ?_
  conv => whnf
  refine poseTurned (by unfold I64; omega) ?_
  rw [show turnA 3 (cosI 5) (sinI 5) = SA 16384 from rfl]
  conv => whnf
  refine poseNone ?_
  conv => whnf
  exact ⟨rfl, Qeq rfl h⟩
theorem lawPoseNone (avs : List AV) (obs : List Ob) (ha : ArgC 0 [.flat (.ik .u8), .flat (.ik .i64), .flat (.ik .i64), .flat (.ik .i64), .flat (.ik .u8)] avs obs) : AC Try.prog 3 (groupK [none, some 3, none] avs) obs fun r _ => r = .bool true := by
  cases ha with | int w1 ha => cases ha with | int w2 ha => cases ha with | int w3 ha => cases ha with | int w4 ha => cases ha with | int w5 ha =>
  cases ha
  rename_i ax x y z n
  have a0 := wf_u8 w1; have n0 := wf_u8 w5
  have x0 : I64 x := wf_i64 w2; have y0 : I64 y := wf_i64 w3; have z0 : I64 z := wf_i64 w4
  have ea : Z.rem .i64 (IntKind.i64.wrap ax) 3 = ax % 3 := by
    rw [show IntKind.i64.wrap ax = ax from Z.wrap_iid (by omega) (by omega)]; exact Int.tmod_eq_emod_of_nonneg a0.1
  have en : Z.rem .i64 (IntKind.i64.wrap n) 8 = n % 8 := by
    rw [show IntKind.i64.wrap n = n from Z.wrap_iid (by omega) (by omega)]; exact Int.tmod_eq_emod_of_nonneg n0.1
  obtain ⟨K, eK, K1, K8⟩ : ∃ K, Z.add .i64 1 (Z.rem .i64 (IntKind.i64.wrap n) 8) = K ∧ 1 ≤ K ∧ K ≤ 8 := ⟨1 + n % 8, by rw [en]; exact Z.wrap_iid (by omega) (by omega), by omega, by omega⟩
  have m1 : (16384 * K * x + 0 * y + 0 * z) / 16384 + 0 = K * x := by rw [Int.mul_assoc, Int.zero_mul, Int.zero_mul]; omega
  have m2 : (0 * x + 16384 * K * y + 0 * z) / 16384 + 0 = K * y := by rw [Int.mul_assoc, Int.zero_mul, Int.zero_mul]; omega
  have m3 : (0 * x + 0 * y + 16384 * K * z) / 16384 + 0 = K * z := by rw [Int.mul_assoc, Int.zero_mul, Int.zero_mul]; omega
  have kq : nearI x y z = true → (K * x == Z.mul .i64 (Z.add .i64 1 (Z.rem .i64 (IntKind.i64.wrap n) 8)) x && (K * y == Z.mul .i64 (Z.add .i64 1 (Z.rem .i64 (IntKind.i64.wrap n) 8)) y && (K * z == Z.mul .i64 (Z.add .i64 1 (Z.rem .i64 (IntKind.i64.wrap n) 8)) z && true))) = true := by
    intro h
    rw [PV.near_iff] at h
    rw [eK]
    have b1 := PV.mul_le (A := 8) (B := 1048576) (show -8 ≤ K ∧ K ≤ 8 by omega) h.1
    have b2 := PV.mul_le (A := 8) (B := 1048576) (show -8 ≤ K ∧ K ≤ 8 by omega) h.2.1
    have b3 := PV.mul_le (A := 8) (B := 1048576) (show -8 ≤ K ∧ K ≤ 8 by omega) h.2.2
    rw [show Z.mul .i64 K x = K * x from Z.wrap_iid (by omega) (by omega), show Z.mul .i64 K y = K * y from Z.wrap_iid (by omega) (by omega), show Z.mul .i64 K z = K * z from Z.wrap_iid (by omega) (by omega), beq_self_eq_true, beq_self_eq_true, beq_self_eq_true]; rfl
  refine AC_body tok 3 Try.func3 rfl (by kernel_rfl) ?_
  conv => whnf
  have cas : ax % 3 = 0 ∨ ax % 3 = 1 ∨ ax % 3 = 2 := by omega
  rcases cas with k | k | k
  · refine poseTurnL (c := 0) (t := 16384) (r := .agg [.int .i64 16384, .int .i64 0, .int .i64 0, .int .i64 0, .int .i64 0, .int .i64 (-16384), .int .i64 0, .int .i64 16384, .int .i64 0, .int .i64 0, .int .i64 0, .int .i64 0]) (by unfold I64; omega) (by decide +kernel) (by decide +kernel) (by rw [ea, k]; rfl) ?_
    conv => whnf
    refine poseTurnL (c := -16384) (t := 0) (r := .agg [.int .i64 16384, .int .i64 0, .int .i64 0, .int .i64 0, .int .i64 (-16384), .int .i64 0, .int .i64 0, .int .i64 0, .int .i64 (-16384), .int .i64 0, .int .i64 0, .int .i64 0]) (by unfold I64; omega) (by decide +kernel) (by decide +kernel) (by rw [ea, k]; rfl) ?_
    conv => whnf
    refine AW_draw tok hP ?_
    conv => whnf
    refine AQ_pure (fun s Q h => poseThenC 16384 0 0 0 (-16384) 0 0 0 (-16384) 0 0 0 (by decide +kernel) (by decide +kernel) (by decide +kernel) h) ?_
    conv => whnf
    refine AQ_pure (fun s Q h => poseThenC 16384 0 0 0 (-16384) 0 0 0 (-16384) 0 0 0 (by decide +kernel) (by decide +kernel) (by decide +kernel) h) ?_
    conv => whnf
    refine AQ_pure (fun s Q h => poseThenC 16384 0 0 0 16384 0 0 0 16384 0 0 0 (by decide +kernel) (by decide +kernel) (by decide +kernel) h) ?_
    conv => whnf
    refine AQ_pure (fun s Q h => poseNone h) ?_
    conv => whnf
    refine AQ_pure (fun s Q h => poseThenC 16384 0 0 0 16384 0 0 0 16384 0 0 0 (by decide +kernel) (by decide +kernel) (by decide +kernel) h) ?_
    conv => whnf
    refine AQ_pure (fun s Q h => poseNone h) ?_
    conv => whnf
    refine AQ_pure (fun s Q h => poseThenC 16384 0 0 0 (-16384) 0 0 0 (-16384) 0 0 0 (by decide +kernel) (by decide +kernel) (by decide +kernel) h) ?_
    conv => whnf
    refine ⟨⟨by kernel_rfl⟩, ?_⟩
    conv => whnf
    refine refNear (fun v hv => ?_)
    cases v
    · conv => whnf
      refine posePut0 (by decide +kernel) x0 y0 z0 hv.symm ?_
      conv => whnf
      exact awake08 rfl
    · conv => whnf
      refine AW_draw tok hP ?_
      conv => whnf
      refine AQ_pure (fun s Q h => poseSz (fun v hv => by rw [hv, eK, if_neg (by omega), Int.ediv_one]; exact h)) ?_
      conv => whnf
      refine AQ_pure (fun s Q h => posePutC (rightK K1 K8) hv.symm (fun u v w hu hv hw => by rw [hu, hv, hw, m1, m2, m3]; exact h)) ?_
      conv => whnf
      refine ⟨⟨by kernel_rfl⟩, ?_⟩
      conv => whnf
      refine AW_draw tok hP ?_
      conv => whnf
      refine AQ_pure (fun s Q h => poseNone h) ?_
      conv => whnf
      refine AQ_pure (fun s Q h => posePutC (by decide +kernel) hv.symm (fun u v w hu hv hw => by rw [show u = x by omega, show v = y by omega, show w = z by omega]; exact h)) ?_
      conv => whnf
      rw [beq_self_eq_true x, beq_self_eq_true y, beq_self_eq_true z]
      conv => whnf
      rw [kq hv.symm]
      conv => whnf
      refine AQ_pure (fun s Q h => poseThenC 16384 0 0 0 16384 0 0 0 16384 0 0 0 (by decide +kernel) (by decide +kernel) (by decide +kernel) h) ?_
      conv => whnf
      refine AQ_pure (fun s Q h => posePutC (by decide +kernel) hv.symm (fun u v w hu hv hw => by rw [show u = x by omega, show v = y by omega, show w = z by omega]; exact h)) ?_
      conv => whnf
      rw [beq_self_eq_true x, beq_self_eq_true y, beq_self_eq_true z]
      conv => whnf
      refine AQ_pure (fun s Q h => awake08 h) ?_
      conv => whnf
      exact ⟨⟨by kernel_rfl⟩, rfl⟩
  · refine poseTurnL (c := 0) (t := 16384) (r := .agg [.int .i64 0, .int .i64 0, .int .i64 16384, .int .i64 0, .int .i64 16384, .int .i64 0, .int .i64 (-16384), .int .i64 0, .int .i64 0, .int .i64 0, .int .i64 0, .int .i64 0]) (by unfold I64; omega) (by decide +kernel) (by decide +kernel) (by rw [ea, k]; rfl) ?_
    conv => whnf
    refine poseTurnL (c := -16384) (t := 0) (r := .agg [.int .i64 (-16384), .int .i64 0, .int .i64 0, .int .i64 0, .int .i64 16384, .int .i64 0, .int .i64 0, .int .i64 0, .int .i64 (-16384), .int .i64 0, .int .i64 0, .int .i64 0]) (by unfold I64; omega) (by decide +kernel) (by decide +kernel) (by rw [ea, k]; rfl) ?_
    conv => whnf
    refine AW_draw tok hP ?_
    conv => whnf
    refine AQ_pure (fun s Q h => poseThenC (-16384) 0 0 0 16384 0 0 0 (-16384) 0 0 0 (by decide +kernel) (by decide +kernel) (by decide +kernel) h) ?_
    conv => whnf
    refine AQ_pure (fun s Q h => poseThenC (-16384) 0 0 0 16384 0 0 0 (-16384) 0 0 0 (by decide +kernel) (by decide +kernel) (by decide +kernel) h) ?_
    conv => whnf
    refine AQ_pure (fun s Q h => poseThenC 16384 0 0 0 16384 0 0 0 16384 0 0 0 (by decide +kernel) (by decide +kernel) (by decide +kernel) h) ?_
    conv => whnf
    refine AQ_pure (fun s Q h => poseNone h) ?_
    conv => whnf
    refine AQ_pure (fun s Q h => poseThenC 16384 0 0 0 16384 0 0 0 16384 0 0 0 (by decide +kernel) (by decide +kernel) (by decide +kernel) h) ?_
    conv => whnf
    refine AQ_pure (fun s Q h => poseNone h) ?_
    conv => whnf
    refine AQ_pure (fun s Q h => poseThenC (-16384) 0 0 0 16384 0 0 0 (-16384) 0 0 0 (by decide +kernel) (by decide +kernel) (by decide +kernel) h) ?_
    conv => whnf
    refine ⟨⟨by kernel_rfl⟩, ?_⟩
    conv => whnf
    refine refNear (fun v hv => ?_)
    cases v
    · conv => whnf
      refine posePut0 (by decide +kernel) x0 y0 z0 hv.symm ?_
      conv => whnf
      exact awake08 rfl
    · conv => whnf
      refine AW_draw tok hP ?_
      conv => whnf
      refine AQ_pure (fun s Q h => poseSz (fun v hv => by rw [hv, eK, if_neg (by omega), Int.ediv_one]; exact h)) ?_
      conv => whnf
      refine AQ_pure (fun s Q h => posePutC (rightK K1 K8) hv.symm (fun u v w hu hv hw => by rw [hu, hv, hw, m1, m2, m3]; exact h)) ?_
      conv => whnf
      refine ⟨⟨by kernel_rfl⟩, ?_⟩
      conv => whnf
      refine AW_draw tok hP ?_
      conv => whnf
      refine AQ_pure (fun s Q h => poseNone h) ?_
      conv => whnf
      refine AQ_pure (fun s Q h => posePutC (by decide +kernel) hv.symm (fun u v w hu hv hw => by rw [show u = x by omega, show v = y by omega, show w = z by omega]; exact h)) ?_
      conv => whnf
      rw [beq_self_eq_true x, beq_self_eq_true y, beq_self_eq_true z]
      conv => whnf
      rw [kq hv.symm]
      conv => whnf
      refine AQ_pure (fun s Q h => poseThenC 16384 0 0 0 16384 0 0 0 16384 0 0 0 (by decide +kernel) (by decide +kernel) (by decide +kernel) h) ?_
      conv => whnf
      refine AQ_pure (fun s Q h => posePutC (by decide +kernel) hv.symm (fun u v w hu hv hw => by rw [show u = x by omega, show v = y by omega, show w = z by omega]; exact h)) ?_
      conv => whnf
      rw [beq_self_eq_true x, beq_self_eq_true y, beq_self_eq_true z]
      conv => whnf
      refine AQ_pure (fun s Q h => awake08 h) ?_
      conv => whnf
      exact ⟨⟨by kernel_rfl⟩, rfl⟩
  · refine poseTurnL (c := 0) (t := 16384) (r := .agg [.int .i64 0, .int .i64 (-16384), .int .i64 0, .int .i64 16384, .int .i64 0, .int .i64 0, .int .i64 0, .int .i64 0, .int .i64 16384, .int .i64 0, .int .i64 0, .int .i64 0]) (by unfold I64; omega) (by decide +kernel) (by decide +kernel) (by rw [ea, k]; rfl) ?_
    conv => whnf
    refine poseTurnL (c := -16384) (t := 0) (r := .agg [.int .i64 (-16384), .int .i64 0, .int .i64 0, .int .i64 0, .int .i64 (-16384), .int .i64 0, .int .i64 0, .int .i64 0, .int .i64 16384, .int .i64 0, .int .i64 0, .int .i64 0]) (by unfold I64; omega) (by decide +kernel) (by decide +kernel) (by rw [ea, k]; rfl) ?_
    conv => whnf
    refine AW_draw tok hP ?_
    conv => whnf
    refine AQ_pure (fun s Q h => poseThenC (-16384) 0 0 0 (-16384) 0 0 0 16384 0 0 0 (by decide +kernel) (by decide +kernel) (by decide +kernel) h) ?_
    conv => whnf
    refine AQ_pure (fun s Q h => poseThenC (-16384) 0 0 0 (-16384) 0 0 0 16384 0 0 0 (by decide +kernel) (by decide +kernel) (by decide +kernel) h) ?_
    conv => whnf
    refine AQ_pure (fun s Q h => poseThenC 16384 0 0 0 16384 0 0 0 16384 0 0 0 (by decide +kernel) (by decide +kernel) (by decide +kernel) h) ?_
    conv => whnf
    refine AQ_pure (fun s Q h => poseNone h) ?_
    conv => whnf
    refine AQ_pure (fun s Q h => poseThenC 16384 0 0 0 16384 0 0 0 16384 0 0 0 (by decide +kernel) (by decide +kernel) (by decide +kernel) h) ?_
    conv => whnf
    refine AQ_pure (fun s Q h => poseNone h) ?_
    conv => whnf
    refine AQ_pure (fun s Q h => poseThenC (-16384) 0 0 0 (-16384) 0 0 0 16384 0 0 0 (by decide +kernel) (by decide +kernel) (by decide +kernel) h) ?_
    conv => whnf
    refine ⟨⟨by kernel_rfl⟩, ?_⟩
    conv => whnf
    refine refNear (fun v hv => ?_)
    cases v
    · conv => whnf
      refine posePut0 (by decide +kernel) x0 y0 z0 hv.symm ?_
      conv => whnf
      exact awake08 rfl
    · conv => whnf
      refine AW_draw tok hP ?_
      conv => whnf
      refine AQ_pure (fun s Q h => poseSz (fun v hv => by rw [hv, eK, if_neg (by omega), Int.ediv_one]; exact h)) ?_
      conv => whnf
      refine AQ_pure (fun s Q h => posePutC (rightK K1 K8) hv.symm (fun u v w hu hv hw => by rw [hu, hv, hw, m1, m2, m3]; exact h)) ?_
      conv => whnf
      refine ⟨⟨by kernel_rfl⟩, ?_⟩
      conv => whnf
      refine AW_draw tok hP ?_
      conv => whnf
      refine AQ_pure (fun s Q h => poseNone h) ?_
      conv => whnf
      refine AQ_pure (fun s Q h => posePutC (by decide +kernel) hv.symm (fun u v w hu hv hw => by rw [show u = x by omega, show v = y by omega, show w = z by omega]; exact h)) ?_
      conv => whnf
      rw [beq_self_eq_true x, beq_self_eq_true y, beq_self_eq_true z]
      conv => whnf
      rw [kq hv.symm]
      conv => whnf
      refine AQ_pure (fun s Q h => poseThenC 16384 0 0 0 16384 0 0 0 16384 0 0 0 (by decide +kernel) (by decide +kernel) (by decide +kernel) h) ?_
      conv => whnf
      refine AQ_pure (fun s Q h => posePutC (by decide +kernel) hv.symm (fun u v w hu hv hw => by rw [show u = x by omega, show v = y by omega, show w = z by omega]; exact h)) ?_
      conv => whnf
      rw [beq_self_eq_true x, beq_self_eq_true y, beq_self_eq_true z]
      conv => whnf
      refine AQ_pure (fun s Q h => awake08 h) ?_
      conv => whnf
      exact ⟨⟨by kernel_rfl⟩, rfl⟩
