/- Part of the proof of a law of the seat: its functions, walked. No condition. -/
import Derived.Test.YtmihhfiefhgaiaaA5PoseL
import Derived.Test.YtmihhfiefhgaiaaPPose
import Derived.Test.YtmihhfiefhgaiaaPTone
namespace Go.AW.A5
open Go Go.AW Go.Proofs
set_option maxRecDepth 100000
set_option linter.unusedVariables false
/-- a quarter turn's rows -/
theorem turnU {ax k : Int} (h0 : 0 ≤ k) (h1 : k ≤ 1000) (ha : 0 ≤ ax) (ha' : ax ≤ 2) : ∃ q1 q2 q3 q4 q5 q6 q7 q8 q9 : Int, turnA ax (cosI (16384 * k)) (sinI (16384 * k)) = .agg [.int .i64 q1, .int .i64 q2, .int .i64 q3, .int .i64 q4, .int .i64 q5, .int .i64 q6, .int .i64 q7, .int .i64 q8, .int .i64 q9, .int .i64 0, .int .i64 0, .int .i64 0] ∧ PQ.Un q1 q2 q3 ∧ PQ.Un q4 q5 q6 ∧ PQ.Un q7 q8 q9 := by
  have c : ax = 0 ∨ ax = 1 ∨ ax = 2 := by omega
  unfold PQ.Un
  rcases PQ.quarter k h0 h1 with ⟨e1, e2⟩ | ⟨e1, e2⟩ | ⟨e1, e2⟩ | ⟨e1, e2⟩ <;> rw [e1, e2] <;> rcases c with rfl | rfl | rfl <;> exact ⟨_, _, _, _, _, _, _, _, _, rfl, by omega, by omega, by omega⟩
set_option maxHeartbeats 2000000 in
theorem lawPoseQuarters (avs : List AV) (obs : List Ob) (ha : ArgC 0 [.sl 3 [.ik .i64], .flat (.ik .i64), .flat (.ik .i64), .flat (.ik .i64)] avs obs) : AC Try.prog 4 (groupK [none, some 3] avs) obs fun r _ => r = .bool true := by
  cases ha with
  | nils ha =>
    cases ha with | int wx ha => cases ha with | int wy ha => cases ha with | int wz ha =>
    cases ha
    rename_i x0 y0 z0
    refine AC_body tok 1 Try.func4 rfl (by kernel_rfl) ?_
    conv => whnf
    refine AW_draw tok hP ?_
    conv => whnf
    refine AQ_pure (fun s Q h => poseNone h) ?_
    conv => whnf
    refine ⟨⟨by kernel_rfl⟩, ?_⟩
    conv => whnf
    have xb := PQ.rem_b x0; have yb := PQ.rem_b y0; have zb := PQ.rem_b z0
    have vn : nearI (Z.rem .i64 x0 1001) (Z.rem .i64 y0 1001) (Z.rem .i64 z0 1001) = true := by rw [PV.near_iff]; omega
    refine AW_draw tok hP ?_
    conv => whnf
    refine AQ_pure (fun s Q h => posePutC (by decide +kernel) vn (fun u v w hu hv hw => by rw [show u = Z.rem .i64 x0 1001 by rw [hu]; omega, show v = Z.rem .i64 y0 1001 by rw [hv]; omega, show w = Z.rem .i64 z0 1001 by rw [hw]; omega]; exact h)) ?_
    conv => whnf
    rw [beq_self_eq_true (Z.rem .i64 x0 1001), beq_self_eq_true (Z.rem .i64 y0 1001), beq_self_eq_true (Z.rem .i64 z0 1001)]
    conv => whnf
    refine AQ_pure (fun s Q h => awake08 h) ?_
    conv => whnf
    exact ⟨⟨by kernel_rfl⟩, rfl⟩
  | sl0 ha =>
    cases ha with | int wx ha => cases ha with | int wy ha => cases ha with | int wz ha =>
    cases ha
    rename_i x0 y0 z0
    refine AC_body tok 1 Try.func4 rfl (by kernel_rfl) ?_
    conv => whnf
    refine AW_draw tok hP ?_
    conv => whnf
    refine AQ_pure (fun s Q h => poseNone h) ?_
    conv => whnf
    refine ⟨⟨by kernel_rfl⟩, ?_⟩
    conv => whnf
    have xb := PQ.rem_b x0; have yb := PQ.rem_b y0; have zb := PQ.rem_b z0
    have vn : nearI (Z.rem .i64 x0 1001) (Z.rem .i64 y0 1001) (Z.rem .i64 z0 1001) = true := by rw [PV.near_iff]; omega
    refine AW_draw tok hP ?_
    conv => whnf
    refine AQ_pure (fun s Q h => posePutC (by decide +kernel) vn (fun u v w hu hv hw => by rw [show u = Z.rem .i64 x0 1001 by rw [hu]; omega, show v = Z.rem .i64 y0 1001 by rw [hv]; omega, show w = Z.rem .i64 z0 1001 by rw [hw]; omega]; exact h)) ?_
    conv => whnf
    rw [beq_self_eq_true (Z.rem .i64 x0 1001), beq_self_eq_true (Z.rem .i64 y0 1001), beq_self_eq_true (Z.rem .i64 z0 1001)]
    conv => whnf
    refine AQ_pure (fun s Q h => awake08 h) ?_
    conv => whnf
    exact ⟨⟨by kernel_rfl⟩, rfl⟩
  | sl hl hf ha =>
    cases ha with | int wx ha => cases ha with | int wy ha => cases ha with | int wz ha =>
    cases ha
    rename_i rows x0 y0 z0
    refine AC_body tok 0 Try.func4 rfl (by kernel_rfl) ?_
    conv => whnf
    by_cases g12 : (rows.length : Int) > 12
    · rw [decide_eq_true g12]
      conv => whnf
      exact awake08 rfl
    rw [decide_eq_false g12]
    conv => whnf
    refine AW_draw tok hP ?_
    conv => whnf
    refine AQ_pure (fun s Q h => poseNone h) ?_
    conv => whnf
    refine ⟨⟨by kernel_rfl⟩, ?_⟩
    conv => whnf
    have xb := PQ.rem_b x0; have yb := PQ.rem_b y0; have zb := PQ.rem_b z0
    have vn : nearI (Z.rem .i64 x0 1001) (Z.rem .i64 y0 1001) (Z.rem .i64 z0 1001) = true := by rw [PV.near_iff]; omega
    refine ALs.invD (ι := QS) tok 0 [true, false, false, true, true, true, true, true] (fun t => 0 ≤ t.k ∧ t.k ≤ rows.length ∧ PQ.Ro (2000 * t.k) (Z.rem .i64 x0 1001) (Z.rem .i64 y0 1001) (Z.rem .i64 z0 1001) t.a t.b t.c t.p t.u ∧ PQ.Ro (2000 * t.k) (Z.rem .i64 x0 1001) (Z.rem .i64 y0 1001) (Z.rem .i64 z0 1001) t.d t.e t.f t.q t.v ∧ PQ.Ro (2000 * t.k) (Z.rem .i64 x0 1001) (Z.rem .i64 y0 1001) (Z.rem .i64 z0 1001) t.g t.i t.j t.r t.w) (fun t => ((rows.length : Int) - t.k).toNat)
      (fun t => [.sl 0 0 rows.length none, .junk, .junk, .ptr 1 0 0, .bool false, .ptr 2 0 0, .ptr 3 0 0, .int .i64 t.k] ++ junks 59)
      (fun t => [.row false 3 [.ik .i64] rows, .cells 0 [.int .i64 (Z.rem .i64 x0 1001), .int .i64 (Z.rem .i64 y0 1001), .int .i64 (Z.rem .i64 z0 1001)], .cells 0 [.int .i64 t.a, .int .i64 t.b, .int .i64 t.c, .int .i64 t.d, .int .i64 t.e, .int .i64 t.f, .int .i64 t.g, .int .i64 t.i, .int .i64 t.j, .int .i64 t.p, .int .i64 t.q, .int .i64 t.r], .cells 0 [.int .i64 t.u, .int .i64 t.v, .int .i64 t.w]]) (fun _ => ()) ⟨0, 16384, 0, 0, 0, 16384, 0, 0, 0, 16384, 0, 0, 0, Z.rem .i64 x0 1001, Z.rem .i64 y0 1001, Z.rem .i64 z0 1001⟩ ⟨by show (0:Int) ≤ 0; omega, by show (0:Int) ≤ _; omega, by show PQ.Ro (2000 * 0) (Z.rem .i64 x0 1001) (Z.rem .i64 y0 1001) (Z.rem .i64 z0 1001) 16384 0 0 0 (Z.rem .i64 x0 1001); unfold PQ.Ro PQ.En; omega, by show PQ.Ro (2000 * 0) (Z.rem .i64 x0 1001) (Z.rem .i64 y0 1001) (Z.rem .i64 z0 1001) 0 16384 0 0 (Z.rem .i64 y0 1001); unfold PQ.Ro PQ.En; omega, by show PQ.Ro (2000 * 0) (Z.rem .i64 x0 1001) (Z.rem .i64 y0 1001) (Z.rem .i64 z0 1001) 0 0 16384 0 (Z.rem .i64 z0 1001); unfold PQ.Ro PQ.En; omega⟩ (by rfl) ⟨[], rfl⟩ rfl (fun _ => Nat.le_add_left 1 3) (fun _ => rfl) ?_
    rintro ⟨k, a, b, c, d, e, f, g, i, j, p, q, r, u, v, w⟩ ⟨k1, k2, r1, r2, r3⟩
    replace k1 : 0 ≤ k := k1
    replace k2 : k ≤ rows.length := k2
    replace r1 : PQ.Ro (2000 * k) (Z.rem .i64 x0 1001) (Z.rem .i64 y0 1001) (Z.rem .i64 z0 1001) a b c p u := r1
    replace r2 : PQ.Ro (2000 * k) (Z.rem .i64 x0 1001) (Z.rem .i64 y0 1001) (Z.rem .i64 z0 1001) d e f q v := r2
    replace r3 : PQ.Ro (2000 * k) (Z.rem .i64 x0 1001) (Z.rem .i64 y0 1001) (Z.rem .i64 z0 1001) g i j r w := r3
    have rp : rightI [a, b, c, d, e, f, g, i, j, p, q, r] = true := by
      show (nearI _ _ _ && (nearI _ _ _ && (nearI _ _ _ && nearI _ _ _))) = true
      simp only [Bool.and_eq_true, PV.near_iff]
      obtain ⟨a1, a2, a3, a4, a5, -⟩ := r1
      obtain ⟨b1, b2, b3, b4, b5, -⟩ := r2
      obtain ⟨c1, c2, c3, c4, c5, -⟩ := r3
      have := PQ.en_b a1; have := PQ.en_b a2; have := PQ.en_b a3; have := PQ.en_b b1; have := PQ.en_b b2; have := PQ.en_b b3; have := PQ.en_b c1; have := PQ.en_b c2; have := PQ.en_b c3
      clear a1 a2 a3 b1 b2 b3 c1 c2 c3
      refine ⟨⟨?_, ?_, ?_⟩, ⟨?_, ?_, ?_⟩, ⟨?_, ?_, ?_⟩, ?_, ?_, ?_⟩ <;> omega
    have wn : nearI u v w = true := by
      rw [PV.near_iff]
      clear rp
      obtain ⟨a1, a2, a3, a4, a5, -⟩ := r1
      obtain ⟨b1, b2, b3, b4, b5, -⟩ := r2
      obtain ⟨c1, c2, c3, c4, c5, -⟩ := r3
      omega
    conv => whnf
    by_cases dk : k < rows.length
    · refine ifT (decide_eq_true dk) ?_
      conv => whnf
      refine ixI k1 dk ?_
      conv => whnf
      refine andP (show 0 + k.toNat < rows.length by omega) ?_
      conv => whnf
      have nb := PQ.rem_b ((rows.getD (0 + k.toNat) []).headD 0)
      obtain ⟨n, en⟩ : ∃ n, Z.rem .i64 ((rows.getD (0 + k.toNat) []).headD 0) 1001 = n := ⟨_, rfl⟩
      rw [en] at nb
      have e2 : Z.mul .i64 2 n = 2 * n := Z.wrap_iid (by omega) (by omega)
      have e3 : Z.neg .i64 n = -n := by rw [show Z.neg .i64 n = 0 - n from Z.wrap_iid (by omega) (by omega)]; omega
      refine poseMoved (x := Z.rem .i64 ((rows.getD (0 + k.toNat) []).headD 0) 1001) (y := Z.mul .i64 2 (Z.rem .i64 ((rows.getD (0 + k.toNat) []).headD 0) 1001)) (z := Z.neg .i64 (Z.rem .i64 ((rows.getD (0 + k.toNat) []).headD 0) 1001)) (by rw [en]; constructor <;> omega) (by rw [en, e2]; constructor <;> omega) (by rw [en, e3]; constructor <;> omega) (fun o1 o2 o3 ho _ => ?_)
      obtain ⟨ho1, ho2, ho3⟩ := ho (by rw [en, e2, e3, PV.near_iff]; omega)
      conv => whnf
      by_cases gn : n < 0
      · refine ifT (decide_eq_true (show Z.rem .i64 ((rows.getD (0 + k.toNat) []).headD 0) 1001 < 0 by rw [en]; exact gn)) ?_
        conv => whnf
        have e4 : Z.rem .i64 (Z.neg .i64 n) 3 = (-n) % 3 := by rw [e3]; exact Int.tmod_eq_emod_of_nonneg (by omega)
        have e5 : Z.mul .i64 16384 (Z.neg .i64 n) = 16384 * (-n) := by rw [e3]; exact Z.wrap_iid (by omega) (by omega)
        obtain ⟨q1, q2, q3, q4, q5, q6, q7, q8, q9, et, u1, u2, u3⟩ := turnU (ax := (-n) % 3) (k := -n) (by omega) (by omega) (by omega) (by omega)
        refine poseTurnL (axis := Z.rem .i64 (Z.neg .i64 (Z.rem .i64 ((rows.getD (0 + k.toNat) []).headD 0) 1001)) 3) (n := Z.mul .i64 16384 (Z.neg .i64 (Z.rem .i64 ((rows.getD (0 + k.toNat) []).headD 0) 1001))) (c := cosI (16384 * -n)) (t := sinI (16384 * -n)) (r := .agg [.int .i64 q1, .int .i64 q2, .int .i64 q3, .int .i64 q4, .int .i64 q5, .int .i64 q6, .int .i64 q7, .int .i64 q8, .int .i64 q9, .int .i64 0, .int .i64 0, .int .i64 0]) (by rw [en, e5]; constructor <;> omega) (by rw [en, e5]) (by rw [en, e5]) (by rw [en, e4]; exact et) ?_
        conv => whnf
        have rq : rightI [q1, q2, q3, q4, q5, q6, q7, q8, q9, 0, 0, 0] = true := by
          show (nearI _ _ _ && (nearI _ _ _ && (nearI _ _ _ && nearI _ _ _))) = true
          simp only [Bool.and_eq_true, PV.near_iff]
          refine ⟨?_, ?_, ?_, by omega⟩
          · unfold PQ.Un at u1; omega
          · unfold PQ.Un at u2; omega
          · unfold PQ.Un at u3; omega
        refine poseThenC ((q1 * a + q2 * d + q3 * g) / 16384) ((q1 * b + q2 * e + q3 * i) / 16384) ((q1 * c + q2 * f + q3 * j) / 16384) ((q4 * a + q5 * d + q6 * g) / 16384) ((q4 * b + q5 * e + q6 * i) / 16384) ((q4 * c + q5 * f + q6 * j) / 16384) ((q7 * a + q8 * d + q9 * g) / 16384) ((q7 * b + q8 * e + q9 * i) / 16384) ((q7 * c + q8 * f + q9 * j) / 16384) ((q1 * p + q2 * q + q3 * r) / 16384 + 0) ((q4 * p + q5 * q + q6 * r) / 16384 + 0) ((q7 * p + q8 * q + q9 * r) / 16384 + 0) rp rq rfl ?_
        conv => whnf
        refine posePutC rq wn (fun u' v' w' hu hv hw => ?_)
        conv => whnf
        have ek : Z.add .i64 k 1 = k + 1 := Z.wrap_iid (by omega) (by omega)
        refine ⟨⟨Z.add .i64 k 1, ((q1 * a + q2 * d + q3 * g) / 16384), ((q1 * b + q2 * e + q3 * i) / 16384), ((q1 * c + q2 * f + q3 * j) / 16384), ((q4 * a + q5 * d + q6 * g) / 16384), ((q4 * b + q5 * e + q6 * i) / 16384), ((q4 * c + q5 * f + q6 * j) / 16384), ((q7 * a + q8 * d + q9 * g) / 16384), ((q7 * b + q8 * e + q9 * i) / 16384), ((q7 * c + q8 * f + q9 * j) / 16384), ((q1 * p + q2 * q + q3 * r) / 16384 + 0), ((q4 * p + q5 * q + q6 * r) / 16384 + 0), ((q7 * p + q8 * q + q9 * r) / 16384 + 0), u', v', w'⟩, _, rfl, rfl, rfl, ?_, ?_⟩
        · show (rows.length - Z.add .i64 k 1).toNat < (rows.length - k).toNat; rw [ek]; omega
        · refine ⟨by show 0 ≤ Z.add .i64 k 1; rw [ek]; omega, by show Z.add .i64 k 1 ≤ _; rw [ek]; omega, ?_, ?_, ?_⟩
          · rw [hu]; have := PQ.step (T := 2000) u1 (tq := 0) (by omega) r1 r2 r3; rw [show 2000 * k + 2000 = 2000 * Z.add .i64 k 1 by rw [ek]; omega] at this; exact this
          · rw [hv]; have := PQ.step (T := 2000) u2 (tq := 0) (by omega) r1 r2 r3; rw [show 2000 * k + 2000 = 2000 * Z.add .i64 k 1 by rw [ek]; omega] at this; exact this
          · rw [hw]; have := PQ.step (T := 2000) u3 (tq := 0) (by omega) r1 r2 r3; rw [show 2000 * k + 2000 = 2000 * Z.add .i64 k 1 by rw [ek]; omega] at this; exact this
      · refine ifF (decide_eq_false (show ¬ Z.rem .i64 ((rows.getD (0 + k.toNat) []).headD 0) 1001 < 0 by rw [en]; exact gn)) ?_
        conv => whnf
        subst ho1 ho2 ho3
        have rq : rightI [16384, 0, 0, 0, 16384, 0, 0, 0, 16384, Z.rem .i64 ((rows.getD (0 + k.toNat) []).headD 0) 1001, Z.mul .i64 2 (Z.rem .i64 ((rows.getD (0 + k.toNat) []).headD 0) 1001), Z.neg .i64 (Z.rem .i64 ((rows.getD (0 + k.toNat) []).headD 0) 1001)] = true := by
          rw [en, e2, e3]
          simp only [rightI, Bool.and_eq_true, PV.near_iff]
          refine ⟨?_, ?_, ?_, ?_⟩ <;> omega
        have u1 : PQ.Un 16384 0 0 := by unfold PQ.Un; omega
        have u2 : PQ.Un 0 16384 0 := by unfold PQ.Un; omega
        have u3 : PQ.Un 0 0 16384 := by unfold PQ.Un; omega
        refine poseThenC ((16384 * a + 0 * d + 0 * g) / 16384) ((16384 * b + 0 * e + 0 * i) / 16384) ((16384 * c + 0 * f + 0 * j) / 16384) ((0 * a + 16384 * d + 0 * g) / 16384) ((0 * b + 16384 * e + 0 * i) / 16384) ((0 * c + 16384 * f + 0 * j) / 16384) ((0 * a + 0 * d + 16384 * g) / 16384) ((0 * b + 0 * e + 16384 * i) / 16384) ((0 * c + 0 * f + 16384 * j) / 16384) ((16384 * p + 0 * q + 0 * r) / 16384 + Z.rem .i64 ((rows.getD (0 + k.toNat) []).headD 0) 1001) ((0 * p + 16384 * q + 0 * r) / 16384 + Z.mul .i64 2 (Z.rem .i64 ((rows.getD (0 + k.toNat) []).headD 0) 1001)) ((0 * p + 0 * q + 16384 * r) / 16384 + Z.neg .i64 (Z.rem .i64 ((rows.getD (0 + k.toNat) []).headD 0) 1001)) rp rq rfl ?_
        conv => whnf
        refine posePutC rq wn (fun u' v' w' hu hv hw => ?_)
        conv => whnf
        have ek : Z.add .i64 k 1 = k + 1 := Z.wrap_iid (by omega) (by omega)
        refine ⟨⟨Z.add .i64 k 1, ((16384 * a + 0 * d + 0 * g) / 16384), ((16384 * b + 0 * e + 0 * i) / 16384), ((16384 * c + 0 * f + 0 * j) / 16384), ((0 * a + 16384 * d + 0 * g) / 16384), ((0 * b + 16384 * e + 0 * i) / 16384), ((0 * c + 16384 * f + 0 * j) / 16384), ((0 * a + 0 * d + 16384 * g) / 16384), ((0 * b + 0 * e + 16384 * i) / 16384), ((0 * c + 0 * f + 16384 * j) / 16384), ((16384 * p + 0 * q + 0 * r) / 16384 + Z.rem .i64 ((rows.getD (0 + k.toNat) []).headD 0) 1001), ((0 * p + 16384 * q + 0 * r) / 16384 + Z.mul .i64 2 (Z.rem .i64 ((rows.getD (0 + k.toNat) []).headD 0) 1001)), ((0 * p + 0 * q + 16384 * r) / 16384 + Z.neg .i64 (Z.rem .i64 ((rows.getD (0 + k.toNat) []).headD 0) 1001)), u', v', w'⟩, _, rfl, rfl, rfl, ?_, ?_⟩
        · show (rows.length - Z.add .i64 k 1).toNat < (rows.length - k).toNat; rw [ek]; omega
        · refine ⟨by show 0 ≤ Z.add .i64 k 1; rw [ek]; omega, by show Z.add .i64 k 1 ≤ _; rw [ek]; omega, ?_, ?_, ?_⟩
          · rw [hu]; have := PQ.step (T := 2000) u1 (tq := Z.rem .i64 ((rows.getD (0 + k.toNat) []).headD 0) 1001) (by rw [en]; omega) r1 r2 r3; rw [show 2000 * k + 2000 = 2000 * Z.add .i64 k 1 by rw [ek]; omega] at this; exact this
          · rw [hv]; have := PQ.step (T := 2000) u2 (tq := Z.mul .i64 2 (Z.rem .i64 ((rows.getD (0 + k.toNat) []).headD 0) 1001)) (by rw [en, e2]; omega) r1 r2 r3; rw [show 2000 * k + 2000 = 2000 * Z.add .i64 k 1 by rw [ek]; omega] at this; exact this
          · rw [hw]; have := PQ.step (T := 2000) u3 (tq := Z.neg .i64 (Z.rem .i64 ((rows.getD (0 + k.toNat) []).headD 0) 1001)) (by rw [en, e3]; omega) r1 r2 r3; rw [show 2000 * k + 2000 = 2000 * Z.add .i64 k 1 by rw [ek]; omega] at this; exact this
    · refine ifF (decide_eq_false dk) ?_
      conv => whnf
      refine AWs.go tok 0 ?_
      conv => whnf
      refine AW_draw tok hP ?_
      conv => whnf
      refine AQ_pure (fun s Q h => posePutC rp vn (fun u' v' w' hu hv hw => by rw [show u' = u by rw [hu, r1.2.2.2.2.2]; omega, show v' = v by rw [hv, r2.2.2.2.2.2]; omega, show w' = w by rw [hw, r3.2.2.2.2.2]; omega]; exact h)) ?_
      conv => whnf
      rw [beq_self_eq_true u, beq_self_eq_true v, beq_self_eq_true w]
      conv => whnf
      refine AQ_pure (fun s Q h => awake08 h) ?_
      conv => whnf
      exact ⟨⟨by kernel_rfl⟩, rfl⟩
