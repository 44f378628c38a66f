/- Part of the proof of a law of the seat: its functions, walked. No condition. -/
import Derived.Test.YtgajnkfaelecaaaA9BoxHitF
import Derived.Test.YtgajnkfaelecaaaA9Basis
namespace Go.AW.A9
open Go Go.AW Go.Proofs
set_option maxRecDepth 100000
set_option maxHeartbeats 8000000
set_option linter.unusedVariables false
theorem boxHeld {x y z : Int} {s : List Ob} {Q : AV → List Ob → Prop} (h : ∀ u v w, u = holdI x (-1048576) 1048576 → v = holdI y (-1048576) 1048576 → w = holdI z (-1048576) 1048576 → Q (.agg [.int .i64 u, .int .i64 v, .int .i64 w]) s) : AC Try.prog 67 [.agg [.int .i64 x, .int .i64 y, .int .i64 z]] s Q := by
  refine AC_pure rfl ?_
  refine AC_body tok 3 Try.func67 rfl (by kernel_rfl) ?_
  conv => whnf
  try (refine AW_draw tok hP ?_; conv => whnf)
  first | refine AQ_int (fun sK QK hK => numHold hK) (fun u hu => ?_) | refine numHold (fun u hu => ?_)
  conv => whnf
  try (refine And.intro (OkD.mk (by kernel_rfl)) ?_; conv => whnf)
  try (refine AW_draw tok hP ?_; conv => whnf)
  first | refine AQ_int (fun sK QK hK => numHold hK) (fun v hv => ?_) | refine numHold (fun v hv => ?_)
  conv => whnf
  try (refine And.intro (OkD.mk (by kernel_rfl)) ?_; conv => whnf)
  try (refine AW_draw tok hP ?_; conv => whnf)
  first | refine AQ_int (fun sK QK hK => numHold hK) (fun w hw => ?_) | refine numHold (fun w hw => ?_)
  conv => whnf
  try (refine And.intro (OkD.mk (by kernel_rfl)) ?_; conv => whnf)
  exact ⟨rfl, h _ _ _ hu hv hw⟩
theorem awake10 {s : List Ob} {Q : AV → List Ob → Prop} (hq : Q (.bool true) s) : AC Try.prog 17 [] s Q := by
  refine AC_pure rfl ?_
  refine AC_body tok 12 Try.func17 rfl (by kernel_rfl) ?_
  conv => whnf
  refine boxArea (by decide) (by decide) (by decide) (by decide) (by decide) (by decide) (fun v hv => ?_)
  conv => whnf
  obtain rfl : v = 26 := by rw [hv]; decide
  conv => whnf
  refine boxHit (by decide) (by decide) (by decide) (by decide) (by decide) (by decide) (by decide) (by decide) (by decide) (by decide) (by decide) (by decide) (by decide) (by decide) (fun v hv => ?_)
  conv => whnf
  obtain rfl : v = true := hv.2 ⟨by decide, by decide, by decide, 1, 1, by decide, by decide, by decide, by intro x hx; simp at hx; rcases hx with rfl | rfl | rfl <;> decide⟩
  conv => whnf
  refine boxHit (by decide) (by decide) (by decide) (by decide) (by decide) (by decide) (by decide) (by decide) (by decide) (by decide) (by decide) (by decide) (by decide) (by decide) (fun v hv => ?_)
  conv => whnf
  obtain rfl : v = false := by
    cases v
    · rfl
    · obtain ⟨_, _, _, n, d, h1, h2, h3, h4⟩ := hv.1 rfl
      have a := h3 (by decide)
      have b := h4 (0, 2, -1, 1) (by simp)
      simp at b; omega
  conv => whnf
  refine boxMid (by decide) (by decide) (by decide) (by decide) (by decide) (by decide) (fun v hv => ?_)
  conv => whnf
  obtain rfl : v = 3 := by rw [hv]; decide
  conv => whnf
  refine AC_body tok 12 Try.func41 rfl (by kernel_rfl) ?_
  conv => whnf
  refine boxRight (by decide) (by decide) (by decide) (by decide) (by decide) (by decide) (fun v hv => ?_)
  conv => whnf
  obtain rfl : v = true := by rw [hv]; decide
  conv => whnf
  try (refine AW_draw tok hP ?_; conv => whnf)
  first | refine AQ_vec (fun sK QK hK => vecSub (by decide) (by decide) (by decide) (by decide) (by decide) (by decide) hK) (fun u1 v1 y1 e1 e2 e3 => ?_) | refine vecSub (by decide) (by decide) (by decide) (by decide) (by decide) (by decide) (fun u1 v1 y1 e1 e2 e3 => ?_)
  conv => whnf
  try (refine And.intro (OkD.mk (by kernel_rfl)) ?_; conv => whnf)
  try (refine AW_draw tok hP ?_; conv => whnf)
  first | refine AQ_vec (fun sK QK hK => boxHeld hK) (fun u2 v2 y2 e4 e5 e6 => ?_) | refine boxHeld (fun u2 v2 y2 e4 e5 e6 => ?_)
  conv => whnf
  try (refine And.intro (OkD.mk (by kernel_rfl)) ?_; conv => whnf)
  try (refine AW_draw tok hP ?_; conv => whnf)
  first | refine AQ_vec (fun sK QK hK => vecAdd (by decide) (by decide) (by decide) (by decide) (by decide) (by decide) hK) (fun u3 v3 y3 e7 e8 e9 => ?_) | refine vecAdd (by decide) (by decide) (by decide) (by decide) (by decide) (by decide) (fun u3 v3 y3 e7 e8 e9 => ?_)
  conv => whnf
  try (refine And.intro (OkD.mk (by kernel_rfl)) ?_; conv => whnf)
  try (refine AW_draw tok hP ?_; conv => whnf)
  first | refine AQ_vec (fun sK QK hK => boxHeld hK) (fun u4 v4 y4 e10 e11 e12 => ?_) | refine boxHeld (fun u4 v4 y4 e10 e11 e12 => ?_)
  conv => whnf
  try (refine And.intro (OkD.mk (by kernel_rfl)) ?_; conv => whnf)
  obtain rfl : u4 = 3 := by rw [e10, e7]; decide
  obtain rfl : v4 = 4 := by rw [e11, e8]; decide
  obtain rfl : y4 = 5 := by rw [e12, e9]; decide
  exact ⟨rfl, hq⟩
theorem AQ_six {P : Program} {f : FuncId} {args : List AV} {s : List Ob} {K : List Nat → AV → List (Nat × Ob) → List Ob → Prop} {k : IntKind} {a b c d e g : Int} (h : ∀ (s : List Ob) (Q : AV → List Ob → Prop), (∀ u v w x y z, u = a → v = b → w = c → x = d → y = e → z = g → Q (.agg [.int k u, .int k v, .int k w, .int k x, .int k y, .int k z]) s) → AC P f args s Q) (hk : ∀ u v w x y z, u = a → v = b → w = c → x = d → y = e → z = g → K [] (.agg [.int k u, .int k v, .int k w, .int k x, .int k y, .int k z]) [] []) : AQ P f args s K :=
  AQ_pure (fun s Q q => h s Q fun u v w x y z h1 h2 h3 h4 h5 h6 => by rw [h1, h2, h3, h4, h5, h6]; exact q) (hk a b c d e g rfl rfl rfl rfl rfl rfl)
theorem boxOf10 {a b c d e f : Int} {s : List Ob} {Q : AV → List Ob → Prop} (h : Q (.agg [.int .i64 a, .int .i64 b, .int .i64 c, .int .i64 d, .int .i64 e, .int .i64 f]) s) : AC Try.prog 21 [.agg [.int .i64 a, .int .i64 b, .int .i64 c, .int .i64 d, .int .i64 e, .int .i64 f]] s Q := by
  refine AC_pure rfl ?_
  refine AC_body tok 3 Try.func21 rfl (by kernel_rfl) ?_
  conv => whnf
  exact ⟨rfl, h⟩
def coordI (x y z k : Int) : Int := if k = 0 then x else if k = 1 then y else z
theorem refCoord {x y z k : Int} {s : List Ob} {Q : AV → List Ob → Prop} (h : ∀ v, v = coordI x y z k → Q (.int .i64 v) s) : AC Try.prog 26 [.agg [.int .i64 x, .int .i64 y, .int .i64 z], .int .i64 k] s Q := by
  unfold coordI at h
  refine AC_pure rfl ?_
  refine AC_body tok 3 Try.func26 rfl (by kernel_rfl) ?_
  conv => whnf
  refine ifE (fun g => ?_) (fun g => ?_)
  · conv => whnf
    exact ⟨rfl, h _ (by rw [if_pos g])⟩
  conv => whnf
  refine ifE (fun g2 => ?_) (fun g2 => ?_)
  · conv => whnf
    exact ⟨rfl, h _ (by rw [if_neg g, if_pos g2])⟩
  conv => whnf
  exact ⟨rfl, h _ (by rw [if_neg g, if_neg g2])⟩
theorem lawBoxJoin (avs : List AV) (obs : List Ob) (ha : ArgC 0 [.flat (.ik .i64), .flat (.ik .i64), .flat (.ik .i64), .flat (.ik .i64), .flat (.ik .i64), .flat (.ik .i64), .flat (.ik .i64), .flat (.ik .i64), .flat (.ik .i64), .flat (.ik .i64), .flat (.ik .i64), .flat (.ik .i64), .flat (.ik .i64), .flat (.ik .i64), .flat (.ik .i64)] avs obs) : AC Try.prog 6 (groupK [some 6, some 6, some 3] avs) obs fun r _ => r = .bool true := by
  cases ha with | int w1 ha => cases ha with | int w2 ha => cases ha with | int w3 ha => cases ha with | int w4 ha => cases ha with | int w5 ha => cases ha with | int w6 ha => cases ha with | int w7 ha => cases ha with | int w8 ha => cases ha with | int w9 ha => cases ha with | int w10 ha => cases ha with | int w11 ha => cases ha with | int w12 ha => cases ha with | int w13 ha => cases ha with | int w14 ha => cases ha with | int w15 ha =>
  cases ha
  rename_i a b c d e f a' b' c' d' e' f' x y z
  replace w1 := wf_i64 w1; replace w2 := wf_i64 w2; replace w3 := wf_i64 w3; replace w4 := wf_i64 w4; replace w5 := wf_i64 w5; replace w6 := wf_i64 w6; replace w7 := wf_i64 w7; replace w8 := wf_i64 w8; replace w9 := wf_i64 w9; replace w10 := wf_i64 w10; replace w11 := wf_i64 w11; replace w12 := wf_i64 w12; replace w13 := wf_i64 w13; replace w14 := wf_i64 w14; replace w15 := wf_i64 w15
  refine AC_body tok 0 Try.func6 rfl (by kernel_rfl) ?_
  conv => whnf
  refine refBoxRight (fun v hv => ?_)
  conv => whnf
  cases v
  · conv => whnf
    exact awake10 rfl
  conv => whnf
  refine refBoxRight (fun v hv2 => ?_)
  conv => whnf
  cases v
  · conv => whnf
    exact awake10 rfl
  conv => whnf
  try (refine AW_draw tok hP ?_; conv => whnf)
  first | refine AQ_pure (fun sK QK hK => boxOf10 hK) ?_ | refine boxOf10 ?_
  conv => whnf
  try (refine And.intro (OkD.mk (by kernel_rfl)) ?_; conv => whnf)
  try (refine AW_draw tok hP ?_; conv => whnf)
  first | refine AQ_pure (fun sK QK hK => boxOf10 hK) ?_ | refine boxOf10 ?_
  conv => whnf
  try (refine And.intro (OkD.mk (by kernel_rfl)) ?_; conv => whnf)
  have bx := PB.box_iff.1 hv.symm
  have by' := PB.box_iff.1 hv2.symm
  refine boxJoin w1 w2 w3 w4 w5 w6 w7 w8 w9 w10 w11 w12 hv.symm hv2.symm (fun u v w p q r eu ev ew ep eq er => ?_)
  conv => whnf
  have allB := PB.box_join hv.symm hv2.symm eu ev ew ep eq er
  obtain ⟨i1, i2, i3, i4, i5, i6⟩ := PB.box_i64 allB
  try (refine AW_draw tok hP ?_; conv => whnf)
  refine AQ_six (fun s Q hK => boxJoin w7 w8 w9 w10 w11 w12 w1 w2 w3 w4 w5 w6 hv2.symm hv.symm hK) (fun u1 v1 y1 p1 q1 r1 eu1 ev1 ew1 ep1 eq1 er1 => ?_)
  conv => whnf
  obtain rfl := PB.mm_comm eu eu1
  obtain rfl := PB.mm_comm ev ev1
  obtain rfl := PB.mm_comm ew ew1
  obtain rfl := PB.mx_comm ep ep1
  obtain rfl := PB.mx_comm eq eq1
  obtain rfl := PB.mx_comm er er1
  rw [beq_self_eq_true u1, beq_self_eq_true v1, beq_self_eq_true y1, beq_self_eq_true p1, beq_self_eq_true q1, beq_self_eq_true r1]
  conv => whnf
  try (refine AW_draw tok hP ?_; conv => whnf)
  first | refine AQ_bool (fun sK QK hK => boxRight i1 i2 i3 i4 i5 i6 hK) (fun t ht => ?_) | refine boxRight i1 i2 i3 i4 i5 i6 (fun t ht => ?_)
  conv => whnf
  try (refine And.intro (OkD.mk (by kernel_rfl)) ?_; conv => whnf)
  obtain rfl : t = true := by rw [ht, allB]
  conv => whnf
  try (refine AW_draw tok hP ?_; conv => whnf)
  first | refine AQ_int (fun sK QK hK => boxArea i1 i2 i3 i4 i5 i6 hK) (fun A hA => ?_) | refine boxArea i1 i2 i3 i4 i5 i6 (fun A hA => ?_)
  conv => whnf
  try (refine And.intro (OkD.mk (by kernel_rfl)) ?_; conv => whnf)
  try (refine AW_draw tok hP ?_; conv => whnf)
  first | refine AQ_int (fun sK QK hK => boxArea w1 w2 w3 w4 w5 w6 hK) (fun B hB => ?_) | refine boxArea w1 w2 w3 w4 w5 w6 (fun B hB => ?_)
  conv => whnf
  try (refine And.intro (OkD.mk (by kernel_rfl)) ?_; conv => whnf)
  have ab := PB.area_mono hv.symm allB (PB.mm_le eu).1.1 (PB.mm_le ev).1.1 (PB.mm_le ew).1.1 (PB.mx_le ep).1.1 (PB.mx_le eq).1.1 (PB.mx_le er).1.1
  rw [← hA, ← hB] at ab
  rw [decide_eq_false (Int.not_lt.2 ab)]
  conv => whnf
  try (refine AW_draw tok hP ?_; conv => whnf)
  first | refine AQ_int (fun sK QK hK => boxArea i1 i2 i3 i4 i5 i6 hK) (fun A2 hA2 => ?_) | refine boxArea i1 i2 i3 i4 i5 i6 (fun A2 hA2 => ?_)
  conv => whnf
  try (refine And.intro (OkD.mk (by kernel_rfl)) ?_; conv => whnf)
  try (refine AW_draw tok hP ?_; conv => whnf)
  first | refine AQ_int (fun sK QK hK => boxArea w7 w8 w9 w10 w11 w12 hK) (fun C hC => ?_) | refine boxArea w7 w8 w9 w10 w11 w12 (fun C hC => ?_)
  conv => whnf
  try (refine And.intro (OkD.mk (by kernel_rfl)) ?_; conv => whnf)
  have ac := PB.area_mono hv2.symm allB (PB.mm_le eu).1.2 (PB.mm_le ev).1.2 (PB.mm_le ew).1.2 (PB.mx_le ep).1.2 (PB.mx_le eq).1.2 (PB.mx_le er).1.2
  rw [← hA2, ← hC] at ac
  rw [decide_eq_false (Int.not_lt.2 ac)]
  conv => whnf
  refine AQ_six (fun s Q hK => boxJoin w1 w2 w3 w4 w5 w6 w1 w2 w3 w4 w5 w6 hv.symm hv.symm hK) (fun a2 b2 c2 d2 e2 f2 j1 j2 j3 j4 j5 j6 => ?_)
  conv => whnf
  obtain rfl := PB.mm_self j1
  obtain rfl := PB.mm_self j2
  obtain rfl := PB.mm_self j3
  obtain rfl := PB.mx_self j4
  obtain rfl := PB.mx_self j5
  obtain rfl := PB.mx_self j6
  rw [beq_self_eq_true a2, beq_self_eq_true b2, beq_self_eq_true c2, beq_self_eq_true d2, beq_self_eq_true e2, beq_self_eq_true f2]
  conv => whnf
  refine AQ_six (fun s Q hK => boxJoin i1 i2 i3 i4 i5 i6 w1 w2 w3 w4 w5 w6 allB hv.symm hK) (fun a3 b3 c3 d3 e3 f3 k1 k2 k3 k4 k5 k6 => ?_)
  conv => whnf
  obtain rfl := PB.mm_abs eu k1
  obtain rfl := PB.mm_abs ev k2
  obtain rfl := PB.mm_abs ew k3
  obtain rfl := PB.mx_abs ep k4
  obtain rfl := PB.mx_abs eq k5
  obtain rfl := PB.mx_abs er k6
  rw [beq_self_eq_true a3, beq_self_eq_true b3, beq_self_eq_true c3, beq_self_eq_true d3, beq_self_eq_true e3, beq_self_eq_true f3]
  conv => whnf
  refine ⟨⟨by kernel_rfl⟩, ?_⟩
  conv => whnf
  have hu := PB.mm_le eu; have hv' := PB.mm_le ev; have hw := PB.mm_le ew; have hp := PB.mx_le ep; have hq := PB.mx_le eq; have hr := PB.mx_le er
  clear eu ev ew ep eq er eu1 ev1 ew1 ep1 eq1 er1 j1 j2 j3 j4 j5 j6 k1 k2 k3 k4 k5 k6
  refine boxHas w1 w2 w3 w4 w5 w6 (fun t1 ht1 => ?_)
  conv => whnf
  cases t1
  · conv => whnf
    refine boxHas w7 w8 w9 w10 w11 w12 (fun t2 ht2 => ?_)
    conv => whnf
    cases t2
    · conv => whnf
      refine ALs.lp (ι := Int) tok 5 [10] (fun k => [.int .i64 k]) [] (fun k => []) (fun _ => ()) (fun k => 0 ≤ k ∧ k ≤ 3) (fun k => (3 - k).toNat) (0) (⟨by omega, by omega⟩) (by rfl) (by rfl) rfl (Nat.le_of_ble_eq_true rfl) (fun _ => rfl) ?_
      rintro k ⟨k0, k1⟩
      conv => whnf
      by_cases dk : k < 3
      · rw [decide_eq_true dk]
        conv => whnf
        have ek : Z.add .i64 k 1 = k + 1 := Z.wrap_iid (by omega) (by omega)
        try (refine AW_draw tok hP ?_; conv => whnf)
        first | refine AQ_int (fun sK QK hK => refCoord hK) (fun lo hlo => ?_) | refine refCoord (fun lo hlo => ?_)
        conv => whnf
        try (refine And.intro (OkD.mk (by kernel_rfl)) ?_; conv => whnf)
        try (refine AW_draw tok hP ?_; conv => whnf)
        first | refine AQ_int (fun sK QK hK => refCoord hK) (fun hi hhi => ?_) | refine refCoord (fun hi hhi => ?_)
        conv => whnf
        try (refine And.intro (OkD.mk (by kernel_rfl)) ?_; conv => whnf)
        have cl : lo = coordI a2 b2 c2 k ∨ lo = coordI a' b' c' k := by rw [hlo]; unfold coordI; split; exact hu.2; split; exact hv'.2; exact hw.2
        have ch : hi = coordI d2 e2 f2 k ∨ hi = coordI d' e' f' k := by rw [hhi]; unfold coordI; split; exact hp.2; split; exact hq.2; exact hr.2
        try (refine AW_draw tok hP ?_; conv => whnf)
        first | refine AQ_int (fun sK QK hK => refCoord hK) (fun l1 hl1 => ?_) | refine refCoord (fun l1 hl1 => ?_)
        conv => whnf
        try (refine And.intro (OkD.mk (by kernel_rfl)) ?_; conv => whnf)
        by_cases e1 : lo = l1
        · rw [show (lo != l1) = false by simp [e1]]
          conv => whnf
          try (refine AW_draw tok hP ?_; conv => whnf)
          first | refine AQ_int (fun sK QK hK => refCoord hK) (fun h1 hh1 => ?_) | refine refCoord (fun h1 hh1 => ?_)
          conv => whnf
          try (refine And.intro (OkD.mk (by kernel_rfl)) ?_; conv => whnf)
          by_cases e2 : hi = h1
          · rw [show (hi != h1) = false by simp [e2]]
            conv => whnf
            try (refine And.intro (OkD.mk (by kernel_rfl)) ?_; conv => whnf)
            refine ⟨k + 1, [.int .i64 (Z.add .i64 k 1)], [], _, rfl, rfl, rfl, ?_, ?_, ?_⟩
            · exact (by rw [ek])
            · exact (rfl)
            · exact ⟨by omega, by omega, by omega⟩
          · rw [show (hi != h1) = true by simp [e2]]
            conv => whnf
            try (refine AW_draw tok hP ?_; conv => whnf)
            first | refine AQ_int (fun sK QK hK => refCoord hK) (fun h2 hh2 => ?_) | refine refCoord (fun h2 hh2 => ?_)
            conv => whnf
            try (refine And.intro (OkD.mk (by kernel_rfl)) ?_; conv => whnf)
            rw [show (hi != h2) = false by have : hi = h2 := by omega
                                           simp [this]]
            conv => whnf
            try (refine And.intro (OkD.mk (by kernel_rfl)) ?_; conv => whnf)
            refine ⟨k + 1, [.int .i64 (Z.add .i64 k 1)], [], _, rfl, rfl, rfl, ?_, ?_, ?_⟩
            · exact (by rw [ek])
            · exact (rfl)
            · exact ⟨by omega, by omega, by omega⟩
        · rw [show (lo != l1) = true by simp [e1]]
          conv => whnf
          try (refine AW_draw tok hP ?_; conv => whnf)
          first | refine AQ_int (fun sK QK hK => refCoord hK) (fun l2 hl2 => ?_) | refine refCoord (fun l2 hl2 => ?_)
          conv => whnf
          try (refine And.intro (OkD.mk (by kernel_rfl)) ?_; conv => whnf)
          rw [show (lo != l2) = false by have : lo = l2 := by omega
                                         simp [this]]
          conv => whnf
          try (refine AW_draw tok hP ?_; conv => whnf)
          first | refine AQ_int (fun sK QK hK => refCoord hK) (fun h1 hh1 => ?_) | refine refCoord (fun h1 hh1 => ?_)
          conv => whnf
          try (refine And.intro (OkD.mk (by kernel_rfl)) ?_; conv => whnf)
          by_cases e2 : hi = h1
          · rw [show (hi != h1) = false by simp [e2]]
            conv => whnf
            try (refine And.intro (OkD.mk (by kernel_rfl)) ?_; conv => whnf)
            refine ⟨k + 1, [.int .i64 (Z.add .i64 k 1)], [], _, rfl, rfl, rfl, ?_, ?_, ?_⟩
            · exact (by rw [ek])
            · exact (rfl)
            · exact ⟨by omega, by omega, by omega⟩
          · rw [show (hi != h1) = true by simp [e2]]
            conv => whnf
            try (refine AW_draw tok hP ?_; conv => whnf)
            first | refine AQ_int (fun sK QK hK => refCoord hK) (fun h2 hh2 => ?_) | refine refCoord (fun h2 hh2 => ?_)
            conv => whnf
            try (refine And.intro (OkD.mk (by kernel_rfl)) ?_; conv => whnf)
            rw [show (hi != h2) = false by have : hi = h2 := by omega
                                           simp [this]]
            conv => whnf
            try (refine And.intro (OkD.mk (by kernel_rfl)) ?_; conv => whnf)
            refine ⟨k + 1, [.int .i64 (Z.add .i64 k 1)], [], _, rfl, rfl, rfl, ?_, ?_, ?_⟩
            · exact (by rw [ek])
            · exact (rfl)
            · exact ⟨by omega, by omega, by omega⟩
      · rw [decide_eq_false dk]
        conv => whnf
        refine AWs.go tok 0 ?_
        conv => whnf
        refine boxHas i1 i2 i3 i4 i5 i6 (fun t4 ht4 => ?_)
        conv => whnf
        obtain rfl : t4 = true := by rw [ht4]; exact PB.has_in allB (by omega) (by omega) (by omega)
        conv => whnf
        refine boxHas i1 i2 i3 i4 i5 i6 (fun t5 ht5 => ?_)
        conv => whnf
        obtain rfl : t5 = true := by rw [ht5]; exact PB.has_in allB (by omega) (by omega) (by omega)
        conv => whnf
        try (refine AW_draw tok hP ?_; conv => whnf)
        first | refine AQ_pure (fun sK QK hK => awake10 hK) ?_ | refine awake10 ?_
        conv => whnf
        try (refine And.intro (OkD.mk (by kernel_rfl)) ?_; conv => whnf)
    · conv => whnf
      refine boxHas i1 i2 i3 i4 i5 i6 (fun t3 ht3 => ?_)
      conv => whnf
      obtain rfl : t3 = true := by rw [ht3]; exact PB.has_mono allB hu.1.2 hv'.1.2 hw.1.2 hp.1.2 hq.1.2 hr.1.2 ht2
      conv => whnf
      refine ALs.lp (ι := Int) tok 5 [10] (fun k => [.int .i64 k]) [] (fun k => []) (fun _ => ()) (fun k => 0 ≤ k ∧ k ≤ 3) (fun k => (3 - k).toNat) (0) (⟨by omega, by omega⟩) (by rfl) (by rfl) rfl (Nat.le_of_ble_eq_true rfl) (fun _ => rfl) ?_
      rintro k ⟨k0, k1⟩
      conv => whnf
      by_cases dk : k < 3
      · rw [decide_eq_true dk]
        conv => whnf
        have ek : Z.add .i64 k 1 = k + 1 := Z.wrap_iid (by omega) (by omega)
        try (refine AW_draw tok hP ?_; conv => whnf)
        first | refine AQ_int (fun sK QK hK => refCoord hK) (fun lo hlo => ?_) | refine refCoord (fun lo hlo => ?_)
        conv => whnf
        try (refine And.intro (OkD.mk (by kernel_rfl)) ?_; conv => whnf)
        try (refine AW_draw tok hP ?_; conv => whnf)
        first | refine AQ_int (fun sK QK hK => refCoord hK) (fun hi hhi => ?_) | refine refCoord (fun hi hhi => ?_)
        conv => whnf
        try (refine And.intro (OkD.mk (by kernel_rfl)) ?_; conv => whnf)
        have cl : lo = coordI a2 b2 c2 k ∨ lo = coordI a' b' c' k := by rw [hlo]; unfold coordI; split; exact hu.2; split; exact hv'.2; exact hw.2
        have ch : hi = coordI d2 e2 f2 k ∨ hi = coordI d' e' f' k := by rw [hhi]; unfold coordI; split; exact hp.2; split; exact hq.2; exact hr.2
        try (refine AW_draw tok hP ?_; conv => whnf)
        first | refine AQ_int (fun sK QK hK => refCoord hK) (fun l1 hl1 => ?_) | refine refCoord (fun l1 hl1 => ?_)
        conv => whnf
        try (refine And.intro (OkD.mk (by kernel_rfl)) ?_; conv => whnf)
        by_cases e1 : lo = l1
        · rw [show (lo != l1) = false by simp [e1]]
          conv => whnf
          try (refine AW_draw tok hP ?_; conv => whnf)
          first | refine AQ_int (fun sK QK hK => refCoord hK) (fun h1 hh1 => ?_) | refine refCoord (fun h1 hh1 => ?_)
          conv => whnf
          try (refine And.intro (OkD.mk (by kernel_rfl)) ?_; conv => whnf)
          by_cases e2 : hi = h1
          · rw [show (hi != h1) = false by simp [e2]]
            conv => whnf
            try (refine And.intro (OkD.mk (by kernel_rfl)) ?_; conv => whnf)
            refine ⟨k + 1, [.int .i64 (Z.add .i64 k 1)], [], _, rfl, rfl, rfl, ?_, ?_, ?_⟩
            · exact (by rw [ek])
            · exact (rfl)
            · exact ⟨by omega, by omega, by omega⟩
          · rw [show (hi != h1) = true by simp [e2]]
            conv => whnf
            try (refine AW_draw tok hP ?_; conv => whnf)
            first | refine AQ_int (fun sK QK hK => refCoord hK) (fun h2 hh2 => ?_) | refine refCoord (fun h2 hh2 => ?_)
            conv => whnf
            try (refine And.intro (OkD.mk (by kernel_rfl)) ?_; conv => whnf)
            rw [show (hi != h2) = false by have : hi = h2 := by omega
                                           simp [this]]
            conv => whnf
            try (refine And.intro (OkD.mk (by kernel_rfl)) ?_; conv => whnf)
            refine ⟨k + 1, [.int .i64 (Z.add .i64 k 1)], [], _, rfl, rfl, rfl, ?_, ?_, ?_⟩
            · exact (by rw [ek])
            · exact (rfl)
            · exact ⟨by omega, by omega, by omega⟩
        · rw [show (lo != l1) = true by simp [e1]]
          conv => whnf
          try (refine AW_draw tok hP ?_; conv => whnf)
          first | refine AQ_int (fun sK QK hK => refCoord hK) (fun l2 hl2 => ?_) | refine refCoord (fun l2 hl2 => ?_)
          conv => whnf
          try (refine And.intro (OkD.mk (by kernel_rfl)) ?_; conv => whnf)
          rw [show (lo != l2) = false by have : lo = l2 := by omega
                                         simp [this]]
          conv => whnf
          try (refine AW_draw tok hP ?_; conv => whnf)
          first | refine AQ_int (fun sK QK hK => refCoord hK) (fun h1 hh1 => ?_) | refine refCoord (fun h1 hh1 => ?_)
          conv => whnf
          try (refine And.intro (OkD.mk (by kernel_rfl)) ?_; conv => whnf)
          by_cases e2 : hi = h1
          · rw [show (hi != h1) = false by simp [e2]]
            conv => whnf
            try (refine And.intro (OkD.mk (by kernel_rfl)) ?_; conv => whnf)
            refine ⟨k + 1, [.int .i64 (Z.add .i64 k 1)], [], _, rfl, rfl, rfl, ?_, ?_, ?_⟩
            · exact (by rw [ek])
            · exact (rfl)
            · exact ⟨by omega, by omega, by omega⟩
          · rw [show (hi != h1) = true by simp [e2]]
            conv => whnf
            try (refine AW_draw tok hP ?_; conv => whnf)
            first | refine AQ_int (fun sK QK hK => refCoord hK) (fun h2 hh2 => ?_) | refine refCoord (fun h2 hh2 => ?_)
            conv => whnf
            try (refine And.intro (OkD.mk (by kernel_rfl)) ?_; conv => whnf)
            rw [show (hi != h2) = false by have : hi = h2 := by omega
                                           simp [this]]
            conv => whnf
            try (refine And.intro (OkD.mk (by kernel_rfl)) ?_; conv => whnf)
            refine ⟨k + 1, [.int .i64 (Z.add .i64 k 1)], [], _, rfl, rfl, rfl, ?_, ?_, ?_⟩
            · exact (by rw [ek])
            · exact (rfl)
            · exact ⟨by omega, by omega, by omega⟩
      · rw [decide_eq_false dk]
        conv => whnf
        refine AWs.go tok 0 ?_
        conv => whnf
        refine boxHas i1 i2 i3 i4 i5 i6 (fun t4 ht4 => ?_)
        conv => whnf
        obtain rfl : t4 = true := by rw [ht4]; exact PB.has_in allB (by omega) (by omega) (by omega)
        conv => whnf
        refine boxHas i1 i2 i3 i4 i5 i6 (fun t5 ht5 => ?_)
        conv => whnf
        obtain rfl : t5 = true := by rw [ht5]; exact PB.has_in allB (by omega) (by omega) (by omega)
        conv => whnf
        try (refine AW_draw tok hP ?_; conv => whnf)
        first | refine AQ_pure (fun sK QK hK => awake10 hK) ?_ | refine awake10 ?_
        conv => whnf
        try (refine And.intro (OkD.mk (by kernel_rfl)) ?_; conv => whnf)
  · conv => whnf
    refine boxHas i1 i2 i3 i4 i5 i6 (fun t3 ht3 => ?_)
    conv => whnf
    obtain rfl : t3 = true := by rw [ht3]; exact PB.has_mono allB hu.1.1 hv'.1.1 hw.1.1 hp.1.1 hq.1.1 hr.1.1 ht1
    conv => whnf
    refine ALs.lp (ι := Int) tok 5 [10] (fun k => [.int .i64 k]) [] (fun k => []) (fun _ => ()) (fun k => 0 ≤ k ∧ k ≤ 3) (fun k => (3 - k).toNat) (0) (⟨by omega, by omega⟩) (by rfl) (by rfl) rfl (Nat.le_of_ble_eq_true rfl) (fun _ => rfl) ?_
    rintro k ⟨k0, k1⟩
    conv => whnf
    by_cases dk : k < 3
    · rw [decide_eq_true dk]
      conv => whnf
      have ek : Z.add .i64 k 1 = k + 1 := Z.wrap_iid (by omega) (by omega)
      try (refine AW_draw tok hP ?_; conv => whnf)
      first | refine AQ_int (fun sK QK hK => refCoord hK) (fun lo hlo => ?_) | refine refCoord (fun lo hlo => ?_)
      conv => whnf
      try (refine And.intro (OkD.mk (by kernel_rfl)) ?_; conv => whnf)
      try (refine AW_draw tok hP ?_; conv => whnf)
      first | refine AQ_int (fun sK QK hK => refCoord hK) (fun hi hhi => ?_) | refine refCoord (fun hi hhi => ?_)
      conv => whnf
      try (refine And.intro (OkD.mk (by kernel_rfl)) ?_; conv => whnf)
      have cl : lo = coordI a2 b2 c2 k ∨ lo = coordI a' b' c' k := by rw [hlo]; unfold coordI; split; exact hu.2; split; exact hv'.2; exact hw.2
      have ch : hi = coordI d2 e2 f2 k ∨ hi = coordI d' e' f' k := by rw [hhi]; unfold coordI; split; exact hp.2; split; exact hq.2; exact hr.2
      try (refine AW_draw tok hP ?_; conv => whnf)
      first | refine AQ_int (fun sK QK hK => refCoord hK) (fun l1 hl1 => ?_) | refine refCoord (fun l1 hl1 => ?_)
      conv => whnf
      try (refine And.intro (OkD.mk (by kernel_rfl)) ?_; conv => whnf)
      by_cases e1 : lo = l1
      · rw [show (lo != l1) = false by simp [e1]]
        conv => whnf
        try (refine AW_draw tok hP ?_; conv => whnf)
        first | refine AQ_int (fun sK QK hK => refCoord hK) (fun h1 hh1 => ?_) | refine refCoord (fun h1 hh1 => ?_)
        conv => whnf
        try (refine And.intro (OkD.mk (by kernel_rfl)) ?_; conv => whnf)
        by_cases e2 : hi = h1
        · rw [show (hi != h1) = false by simp [e2]]
          conv => whnf
          try (refine And.intro (OkD.mk (by kernel_rfl)) ?_; conv => whnf)
          refine ⟨k + 1, [.int .i64 (Z.add .i64 k 1)], [], _, rfl, rfl, rfl, ?_, ?_, ?_⟩
          · exact (by rw [ek])
          · exact (rfl)
          · exact ⟨by omega, by omega, by omega⟩
        · rw [show (hi != h1) = true by simp [e2]]
          conv => whnf
          try (refine AW_draw tok hP ?_; conv => whnf)
          first | refine AQ_int (fun sK QK hK => refCoord hK) (fun h2 hh2 => ?_) | refine refCoord (fun h2 hh2 => ?_)
          conv => whnf
          try (refine And.intro (OkD.mk (by kernel_rfl)) ?_; conv => whnf)
          rw [show (hi != h2) = false by have : hi = h2 := by omega
                                         simp [this]]
          conv => whnf
          try (refine And.intro (OkD.mk (by kernel_rfl)) ?_; conv => whnf)
          refine ⟨k + 1, [.int .i64 (Z.add .i64 k 1)], [], _, rfl, rfl, rfl, ?_, ?_, ?_⟩
          · exact (by rw [ek])
          · exact (rfl)
          · exact ⟨by omega, by omega, by omega⟩
      · rw [show (lo != l1) = true by simp [e1]]
        conv => whnf
        try (refine AW_draw tok hP ?_; conv => whnf)
        first | refine AQ_int (fun sK QK hK => refCoord hK) (fun l2 hl2 => ?_) | refine refCoord (fun l2 hl2 => ?_)
        conv => whnf
        try (refine And.intro (OkD.mk (by kernel_rfl)) ?_; conv => whnf)
        rw [show (lo != l2) = false by have : lo = l2 := by omega
                                       simp [this]]
        conv => whnf
        try (refine AW_draw tok hP ?_; conv => whnf)
        first | refine AQ_int (fun sK QK hK => refCoord hK) (fun h1 hh1 => ?_) | refine refCoord (fun h1 hh1 => ?_)
        conv => whnf
        try (refine And.intro (OkD.mk (by kernel_rfl)) ?_; conv => whnf)
        by_cases e2 : hi = h1
        · rw [show (hi != h1) = false by simp [e2]]
          conv => whnf
          try (refine And.intro (OkD.mk (by kernel_rfl)) ?_; conv => whnf)
          refine ⟨k + 1, [.int .i64 (Z.add .i64 k 1)], [], _, rfl, rfl, rfl, ?_, ?_, ?_⟩
          · exact (by rw [ek])
          · exact (rfl)
          · exact ⟨by omega, by omega, by omega⟩
        · rw [show (hi != h1) = true by simp [e2]]
          conv => whnf
          try (refine AW_draw tok hP ?_; conv => whnf)
          first | refine AQ_int (fun sK QK hK => refCoord hK) (fun h2 hh2 => ?_) | refine refCoord (fun h2 hh2 => ?_)
          conv => whnf
          try (refine And.intro (OkD.mk (by kernel_rfl)) ?_; conv => whnf)
          rw [show (hi != h2) = false by have : hi = h2 := by omega
                                         simp [this]]
          conv => whnf
          try (refine And.intro (OkD.mk (by kernel_rfl)) ?_; conv => whnf)
          refine ⟨k + 1, [.int .i64 (Z.add .i64 k 1)], [], _, rfl, rfl, rfl, ?_, ?_, ?_⟩
          · exact (by rw [ek])
          · exact (rfl)
          · exact ⟨by omega, by omega, by omega⟩
    · rw [decide_eq_false dk]
      conv => whnf
      refine AWs.go tok 0 ?_
      conv => whnf
      refine boxHas i1 i2 i3 i4 i5 i6 (fun t4 ht4 => ?_)
      conv => whnf
      obtain rfl : t4 = true := by rw [ht4]; exact PB.has_in allB (by omega) (by omega) (by omega)
      conv => whnf
      refine boxHas i1 i2 i3 i4 i5 i6 (fun t5 ht5 => ?_)
      conv => whnf
      obtain rfl : t5 = true := by rw [ht5]; exact PB.has_in allB (by omega) (by omega) (by omega)
      conv => whnf
      try (refine AW_draw tok hP ?_; conv => whnf)
      first | refine AQ_pure (fun sK QK hK => awake10 hK) ?_ | refine awake10 ?_
      conv => whnf
      try (refine And.intro (OkD.mk (by kernel_rfl)) ?_; conv => whnf)
