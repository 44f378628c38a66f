/- Part of the proof of a law of the seat: its functions, walked. No condition. -/
import Derived.Test.YtmihhfiefhgaiaaA5PoseTells1
namespace Go.AW.A5
open Go Go.AW Go.Proofs
set_option maxRecDepth 100000
set_option linter.unusedVariables false
set_option maxHeartbeats 4000000 in
theorem lawPoseTells (avs : List AV) (obs : List Ob) (ha : ArgC 0 [.flat (.ik .i64), .flat (.ik .i64), .flat (.ik .i64), .flat (.ik .i64), .flat (.ik .i64), .flat (.ik .i64), .flat (.ik .i64), .flat (.ik .i64), .flat (.ik .i64), .flat (.ik .i64), .flat (.ik .i64), .flat (.ik .i64), .flat (.ik .i64), .flat (.ik .i64), .flat (.ik .i64), .flat (.ik .i64), .flat (.ik .i64), .flat (.ik .i64), .flat (.ik .i64), .flat (.ik .i64), .flat (.ik .i64), .flat (.ik .i64), .flat (.ik .i64), .flat (.ik .i64), .flat (.ik .i64), .flat (.ik .i64), .flat (.ik .i64), .flat (.ik .i64), .sl 23 [.ik .i64, .ik .i64, .ik .i64]] avs obs) : AC Try.prog 5 (groupK [some 12, some 12, none, none, none, none, none] avs) obs fun r _ => r = .bool true := by
  cases ha with | int w_a ha => cases ha with | int w_b ha => cases ha with | int w_c ha => cases ha with | int w_d ha => cases ha with | int w_e ha => cases ha with | int w_f ha => cases ha with | int w_g ha => cases ha with | int w_i ha => cases ha with | int w_j ha => cases ha with | int w_p ha => cases ha with | int w_q ha => cases ha with | int w_r ha => cases ha with | int w_a1 ha => cases ha with | int w_b1 ha => cases ha with | int w_c1 ha => cases ha with | int w_d1 ha => cases ha with | int w_e1 ha => cases ha with | int w_f1 ha => cases ha with | int w_g1 ha => cases ha with | int w_i1 ha => cases ha with | int w_j1 ha => cases ha with | int w_p1 ha => cases ha with | int w_q1 ha => cases ha with | int w_r1 ha => cases ha with | int w_axis ha => cases ha with | int w_hh ha => cases ha with | int w_n ha => cases ha with | int w_d0 ha =>
  rename_i a b c d e f g i j p q r a' b' c' d' e' f' g' i' j' p' q' r' axis hh n d0 avs0
  have h_a : I64 a := wf_i64 w_a
  have h_b : I64 b := wf_i64 w_b
  have h_c : I64 c := wf_i64 w_c
  have h_d : I64 d := wf_i64 w_d
  have h_e : I64 e := wf_i64 w_e
  have h_f : I64 f := wf_i64 w_f
  have h_g : I64 g := wf_i64 w_g
  have h_i : I64 i := wf_i64 w_i
  have h_j : I64 j := wf_i64 w_j
  have h_p : I64 p := wf_i64 w_p
  have h_q : I64 q := wf_i64 w_q
  have h_r : I64 r := wf_i64 w_r
  have h_a' : I64 a' := wf_i64 w_a1
  have h_b' : I64 b' := wf_i64 w_b1
  have h_c' : I64 c' := wf_i64 w_c1
  have h_d' : I64 d' := wf_i64 w_d1
  have h_e' : I64 e' := wf_i64 w_e1
  have h_f' : I64 f' := wf_i64 w_f1
  have h_g' : I64 g' := wf_i64 w_g1
  have h_i' : I64 i' := wf_i64 w_i1
  have h_j' : I64 j' := wf_i64 w_j1
  have h_p' : I64 p' := wf_i64 w_p1
  have h_q' : I64 q' := wf_i64 w_q1
  have h_r' : I64 r' := wf_i64 w_r1
  have h_axis : I64 axis := wf_i64 w_axis
  have h_hh : I64 hh := wf_i64 w_hh
  have h_n : I64 n := wf_i64 w_n
  have h_d0 : I64 d0 := wf_i64 w_d0
  obtain ⟨R, hR⟩ : ∃ R, R = (nearI a b c && (nearI d e f && (nearI g i j && nearI p q r))) := ⟨_, rfl⟩
  obtain ⟨S, hS⟩ : ∃ S, S = (if n < 1 ∨ d0 < 1 ∨ n > 64 ∨ d0 > 64 then 16384 else 16384 * n / d0) := ⟨_, rfl⟩
  obtain ⟨t0, t1, t2, t3, t4, t5, t6, t7, t8, t9, t10, t11, et⟩ := turn12 axis (cosI hh) (sinI hh)
  obtain ⟨m0, m1, m2, m3, m4, m5, m6, m7, m8, m9, m10, m11, th1, th2⟩ := then12 h_a h_b h_c h_d h_e h_f h_g h_i h_j h_p h_q h_r h_a' h_b' h_c' h_d' h_e' h_f' h_g' h_i' h_j' h_p' h_q' h_r'
  cases ha with
  | nils ha =>
    cases ha
    refine AC_body tok 1 Try.func5 rfl (by kernel_rfl) ?_
    conv => whnf
    refine AW_draw tok hP ?_
    conv => whnf
    refine AQ_pure (fun s Q h => lawOf8 h) ?_
    conv => whnf
    refine AQ_pure (fun s Q h => poseRight h_a h_b h_c h_d h_e h_f h_g h_i h_j h_p h_q h_r (fun v hv => by rw [hv, ← hR]; exact h)) ?_
    conv => whnf
    refine AQ_pure (fun s Q h => refRightP (fun v hv => by rw [hv, ← hR]; exact h)) ?_
    conv => whnf
    rw [show (R == R) = true by cases R <;> rfl]
    conv => whnf
    refine AQ_pure (fun s Q h => poseNone h) ?_
    conv => whnf
    refine AQ_pure (fun s Q h => refPNone h) ?_
    conv => whnf
    refine AQ_pure (fun s Q h => lawOf8 h) ?_
    conv => whnf
    refine AQ_pure (fun s Q h => poseTurned h_hh (by rw [et]; exact h)) ?_
    conv => whnf
    refine AQ_pure (fun s Q h => refPTurned h_hh (by rw [et]; exact h)) ?_
    conv => whnf
    refine AQ_pure (fun s Q h => lawOf8 h) ?_
    conv => whnf
    rw [beq_self_eq_true t0, beq_self_eq_true t1, beq_self_eq_true t2, beq_self_eq_true t3, beq_self_eq_true t4, beq_self_eq_true t5, beq_self_eq_true t6, beq_self_eq_true t7, beq_self_eq_true t8, beq_self_eq_true t9, beq_self_eq_true t10, beq_self_eq_true t11]
    conv => whnf
    refine AQ_pure (fun s Q h => poseSz (fun v hv => by rw [hv, ← hS]; exact h)) ?_
    conv => whnf
    refine AQ_pure (fun s Q h => refPSized (fun v hv => by rw [hv, ← hS]; exact h)) ?_
    conv => whnf
    refine AQ_pure (fun s Q h => lawOf8 h) ?_
    conv => whnf
    rw [beq_self_eq_true S]
    conv => whnf
    refine AQ_pure (fun s Q h => lawOf8 h) ?_
    conv => whnf
    refine AQ_pure (fun s Q h => lawOf8 h) ?_
    conv => whnf
    refine AQ_pure (fun s Q h => th1 _ _ h) ?_
    conv => whnf
    refine AQ_pure (fun s Q h => th2 _ _ h) ?_
    conv => whnf
    refine AQ_pure (fun s Q h => lawOf8 h) ?_
    conv => whnf
    rw [beq_self_eq_true m0, beq_self_eq_true m1, beq_self_eq_true m2, beq_self_eq_true m3, beq_self_eq_true m4, beq_self_eq_true m5, beq_self_eq_true m6, beq_self_eq_true m7, beq_self_eq_true m8, beq_self_eq_true m9, beq_self_eq_true m10, beq_self_eq_true m11]
    conv => whnf
    refine ⟨⟨by kernel_rfl⟩, ?_⟩
    conv => whnf
    refine lawOf8 ?_
    conv => whnf
    refine poseAll_n h_a h_b h_c h_d h_e h_f h_g h_i h_j h_p h_q h_r (.inl rfl) ?_
    conv => whnf
    exact awake08 rfl
  | sl0 ha =>
    cases ha
    refine AC_body tok 1 Try.func5 rfl (by kernel_rfl) ?_
    conv => whnf
    refine AW_draw tok hP ?_
    conv => whnf
    refine AQ_pure (fun s Q h => lawOf8 h) ?_
    conv => whnf
    refine AQ_pure (fun s Q h => poseRight h_a h_b h_c h_d h_e h_f h_g h_i h_j h_p h_q h_r (fun v hv => by rw [hv, ← hR]; exact h)) ?_
    conv => whnf
    refine AQ_pure (fun s Q h => refRightP (fun v hv => by rw [hv, ← hR]; exact h)) ?_
    conv => whnf
    rw [show (R == R) = true by cases R <;> rfl]
    conv => whnf
    refine AQ_pure (fun s Q h => poseNone h) ?_
    conv => whnf
    refine AQ_pure (fun s Q h => refPNone h) ?_
    conv => whnf
    refine AQ_pure (fun s Q h => lawOf8 h) ?_
    conv => whnf
    refine AQ_pure (fun s Q h => poseTurned h_hh (by rw [et]; exact h)) ?_
    conv => whnf
    refine AQ_pure (fun s Q h => refPTurned h_hh (by rw [et]; exact h)) ?_
    conv => whnf
    refine AQ_pure (fun s Q h => lawOf8 h) ?_
    conv => whnf
    rw [beq_self_eq_true t0, beq_self_eq_true t1, beq_self_eq_true t2, beq_self_eq_true t3, beq_self_eq_true t4, beq_self_eq_true t5, beq_self_eq_true t6, beq_self_eq_true t7, beq_self_eq_true t8, beq_self_eq_true t9, beq_self_eq_true t10, beq_self_eq_true t11]
    conv => whnf
    refine AQ_pure (fun s Q h => poseSz (fun v hv => by rw [hv, ← hS]; exact h)) ?_
    conv => whnf
    refine AQ_pure (fun s Q h => refPSized (fun v hv => by rw [hv, ← hS]; exact h)) ?_
    conv => whnf
    refine AQ_pure (fun s Q h => lawOf8 h) ?_
    conv => whnf
    rw [beq_self_eq_true S]
    conv => whnf
    refine AQ_pure (fun s Q h => lawOf8 h) ?_
    conv => whnf
    refine AQ_pure (fun s Q h => lawOf8 h) ?_
    conv => whnf
    refine AQ_pure (fun s Q h => th1 _ _ h) ?_
    conv => whnf
    refine AQ_pure (fun s Q h => th2 _ _ h) ?_
    conv => whnf
    refine AQ_pure (fun s Q h => lawOf8 h) ?_
    conv => whnf
    rw [beq_self_eq_true m0, beq_self_eq_true m1, beq_self_eq_true m2, beq_self_eq_true m3, beq_self_eq_true m4, beq_self_eq_true m5, beq_self_eq_true m6, beq_self_eq_true m7, beq_self_eq_true m8, beq_self_eq_true m9, beq_self_eq_true m10, beq_self_eq_true m11]
    conv => whnf
    refine ⟨⟨by kernel_rfl⟩, ?_⟩
    conv => whnf
    refine lawOf8 ?_
    conv => whnf
    refine poseAll_n h_a h_b h_c h_d h_e h_f h_g h_i h_j h_p h_q h_r (.inr rfl) ?_
    conv => whnf
    exact awake08 rfl
  | sl hl hf ha =>
    cases ha
    rename_i rows
    refine AC_body tok 0 Try.func5 rfl (by kernel_rfl) ?_
    conv => whnf
    by_cases g10 : (rows.length : Int) > 10
    · rw [decide_eq_true g10]
      conv => whnf
      exact awake08 rfl
    rw [decide_eq_false g10]
    conv => whnf
    refine AW_draw tok hP ?_
    conv => whnf
    refine AQ_pure (fun s Q h => lawOf8 h) ?_
    conv => whnf
    refine AQ_pure (fun s Q h => poseRight h_a h_b h_c h_d h_e h_f h_g h_i h_j h_p h_q h_r (fun v hv => by rw [hv, ← hR]; exact h)) ?_
    conv => whnf
    refine AQ_pure (fun s Q h => refRightP (fun v hv => by rw [hv, ← hR]; exact h)) ?_
    conv => whnf
    rw [show (R == R) = true by cases R <;> rfl]
    conv => whnf
    refine AQ_pure (fun s Q h => poseNone h) ?_
    conv => whnf
    refine AQ_pure (fun s Q h => refPNone h) ?_
    conv => whnf
    refine AQ_pure (fun s Q h => lawOf8 h) ?_
    conv => whnf
    refine AQ_pure (fun s Q h => poseTurned h_hh (by rw [et]; exact h)) ?_
    conv => whnf
    refine AQ_pure (fun s Q h => refPTurned h_hh (by rw [et]; exact h)) ?_
    conv => whnf
    refine AQ_pure (fun s Q h => lawOf8 h) ?_
    conv => whnf
    rw [beq_self_eq_true t0, beq_self_eq_true t1, beq_self_eq_true t2, beq_self_eq_true t3, beq_self_eq_true t4, beq_self_eq_true t5, beq_self_eq_true t6, beq_self_eq_true t7, beq_self_eq_true t8, beq_self_eq_true t9, beq_self_eq_true t10, beq_self_eq_true t11]
    conv => whnf
    refine AQ_pure (fun s Q h => poseSz (fun v hv => by rw [hv, ← hS]; exact h)) ?_
    conv => whnf
    refine AQ_pure (fun s Q h => refPSized (fun v hv => by rw [hv, ← hS]; exact h)) ?_
    conv => whnf
    refine AQ_pure (fun s Q h => lawOf8 h) ?_
    conv => whnf
    rw [beq_self_eq_true S]
    conv => whnf
    refine AQ_pure (fun s Q h => lawOf8 h) ?_
    conv => whnf
    refine AQ_pure (fun s Q h => lawOf8 h) ?_
    conv => whnf
    refine AQ_pure (fun s Q h => th1 _ _ h) ?_
    conv => whnf
    refine AQ_pure (fun s Q h => th2 _ _ h) ?_
    conv => whnf
    refine AQ_pure (fun s Q h => lawOf8 h) ?_
    conv => whnf
    rw [beq_self_eq_true m0, beq_self_eq_true m1, beq_self_eq_true m2, beq_self_eq_true m3, beq_self_eq_true m4, beq_self_eq_true m5, beq_self_eq_true m6, beq_self_eq_true m7, beq_self_eq_true m8, beq_self_eq_true m9, beq_self_eq_true m10, beq_self_eq_true m11]
    conv => whnf
    refine ⟨⟨by kernel_rfl⟩, ?_⟩
    conv => whnf
    refine lawOf8 ?_
    conv => whnf
    have hfit : ∀ (k : Nat), k < rows.length → ∃ x y z : Int, rows.getD k [] = [x, y, z] ∧ I64 x ∧ I64 y ∧ I64 z := by
      intro k hk
      have := hf _ (getD_mem (rows := rows) (i := k) hk [])
      generalize rows.getD k [] = r at *
      obtain ⟨x, r1, rfl, hx, y, r2, rfl, hy, z, r3, rfl, hz, rfl⟩ := this
      exact ⟨x, y, z, rfl, wf_i64 hx, wf_i64 hy, wf_i64 hz⟩
    refine poseAll h_a h_b h_c h_d h_e h_f h_g h_i h_j h_p h_q h_r (by omega) hfit rfl ?_
    conv => whnf
    rw [bne_s (rows.length : Int)]
    conv => whnf
    refine ALs.invD (ι := Int) tok 0 [false, false, false, false, false, false, true, true, false, false, false, false, false, false, true, true, true] (fun i => 0 ≤ i ∧ i ≤ rows.length) (fun i => ((rows.length : Int) - i).toNat)
      (fun k => junks 6 ++ ([.sl 0 0 rows.length none, .ptr 1 0 0] ++ (junks 6 ++ ([.bool false, .sl 3 0 rows.length none, .int .i64 k] ++ junks 105))))
      (fun k => [.row false 23 [.ik .i64, .ik .i64, .ik .i64] rows, .cells 0 [.int .i64 a, .int .i64 b, .int .i64 c, .int .i64 d, .int .i64 e, .int .i64 f, .int .i64 g, .int .i64 i, .int .i64 j, .int .i64 p, .int .i64 q, .int .i64 r], .cells 0 [.int .i64 a', .int .i64 b', .int .i64 c', .int .i64 d', .int .i64 e', .int .i64 f', .int .i64 g', .int .i64 i', .int .i64 j', .int .i64 p', .int .i64 q', .int .i64 r'], .row true 23 [.ik .i64, .ik .i64, .ik .i64] (rows.map (putI [a, b, c, d, e, f, g, i, j, p, q, r]))]) (fun _ => ()) 0 ⟨by omega, by omega⟩ (by rfl) ⟨[], rfl⟩ rfl (fun _ => Nat.le_add_left 1 3) (fun _ => rfl) ?_
    rintro k ⟨k1, k2⟩
    conv => whnf
    by_cases dk : k < rows.length
    · rw [decide_eq_true dk]
      obtain ⟨x, y, z, ek, hx, hy, hz⟩ := hfit (0 + k.toNat) (by omega)
      obtain ⟨u, v, w, eu⟩ := @put3 a b c d e f g i j p q r x y z
      obtain ⟨v1, v2, v3, mv1, mv2⟩ := moved3 (x := (rows.getD (0 + k.toNat) []).headD 0) (y := (rows.getD (0 + k.toNat) []).tail.headD 0) (z := (rows.getD (0 + k.toNat) []).tail.tail.headD 0) (by rw [ek]; exact hx) (by rw [ek]; exact hy) (by rw [ek]; exact hz)
      have em : (rows.map (putI [a, b, c, d, e, f, g, i, j, p, q, r])).getD (0 + k.toNat) [] = [u, v, w] := by
        rw [← eu, ← ek]; simp [List.getD_eq_getElem?_getD, List.getElem?_map, List.getElem?_eq_getElem (show k.toNat < rows.length by omega)]
      conv => whnf
      refine AW_draw tok hP ?_
      conv => whnf
      refine ixI k1 dk ?_
      conv => whnf
      refine andP (by simp; omega) ?_
      conv => whnf
      refine ixI k1 dk ?_
      conv => whnf
      refine andP (by omega) ?_
      conv => whnf
      refine AQ_pure (fun s Q h => refPPutI (by rw [ek]; exact eu) h) ?_
      conv => whnf
      rw [show (((rows.map (putI [a, b, c, d, e, f, g, i, j, p, q, r])).getD (0 + k.toNat) []).headD 0 == u && (((rows.map (putI [a, b, c, d, e, f, g, i, j, p, q, r])).getD (0 + k.toNat) []).tail.headD 0 == v && (((rows.map (putI [a, b, c, d, e, f, g, i, j, p, q, r])).getD (0 + k.toNat) []).tail.tail.headD 0 == w && true))) = true by rw [em]; simp]
      conv => whnf
      refine AQ_pure (fun s Q h => lawOf8 h) ?_
      conv => whnf
      refine ixI k1 dk ?_
      conv => whnf
      refine andP (by omega) ?_
      conv => whnf
      refine AQ_pure (fun s Q h => posePutI h_a h_b h_c h_d h_e h_f h_g h_i h_j h_p h_q h_r (by rw [ek]; exact hx) (by rw [ek]; exact hy) (by rw [ek]; exact hz) (by rw [ek]; exact eu) h) ?_
      conv => whnf
      refine ixI k1 dk ?_
      conv => whnf
      refine andP (by omega) ?_
      conv => whnf
      refine AQ_pure (fun s Q h => refPPutI (by rw [ek]; exact eu) h) ?_
      conv => whnf
      rw [beq_self_eq_true u, beq_self_eq_true v, beq_self_eq_true w]
      conv => whnf
      refine ixI k1 dk ?_
      conv => whnf
      refine andP (by omega) ?_
      conv => whnf
      refine AQ_pure (fun s Q h => mv1 _ _ h) ?_
      conv => whnf
      refine ixI k1 dk ?_
      conv => whnf
      refine andP (by omega) ?_
      conv => whnf
      refine AQ_pure (fun s Q h => mv2 _ _ h) ?_
      conv => whnf
      refine AQ_pure (fun s Q h => lawOf8 h) ?_
      conv => whnf
      rw [beq_self_eq_true v1, beq_self_eq_true v2, beq_self_eq_true v3]
      conv => whnf
      refine ⟨⟨by kernel_rfl⟩, ?_⟩
      conv => whnf
      have e1 : Z.add .i64 k 1 = k + 1 := Z.wrap_iid (by omega) (by omega)
      refine ⟨Z.add .i64 k 1, [], rfl, rfl, rfl, ?_, ?_⟩
      · show (rows.length - Z.add .i64 k 1).toNat < (rows.length - k).toNat; rw [e1]; omega
      · rw [e1]; omega
    · rw [decide_eq_false dk]
      conv => whnf
      refine AWs.go tok 0 ?_
      conv => whnf
      exact awake08 rfl
