/- Part of the proof of a law of the seat: its functions, walked. No condition. -/
import Derived.Test.YthhhgdefejogoaaA3Dither
namespace Go.AW.A3
open Go Go.AW Go.Proofs
set_option maxRecDepth 100000
set_option linter.unusedVariables false
set_option maxHeartbeats 4000000 in
theorem lawDitherNear (avs : List AV) (obs : List Ob) (ha : ArgC 0 [.flat (.ik .i32), .flat (.ik .i32), .flat (.ik .u8), .flat (.ik .u8)] avs obs) : AC Try.prog 3 (groupK [none, none, none, none] avs) obs fun r _ => r = .bool true := by
  cases ha with | int w1 ha => cases ha with | int w2 ha => cases ha with | int w3 ha => cases ha with | int w4 ha =>
  cases ha
  rename_i x0 y0 l0 at0
  replace w1 := wf_i32 w1; replace w2 := wf_i32 w2; replace w3 := wf_u8 w3; replace w4 := wf_u8 w4
  refine AC_body tok 3 Try.func3 rfl (by kernel_rfl) ?_
  conv => whnf
  have rm : ∀ (z : Int), (-2147483648 ≤ z ∧ z < 2147483648) → ∃ w, Z.rem .i64 (IntKind.i64.wrap z) 1048577 = w ∧ (-1048576 ≤ w ∧ w ≤ 1048576) := by
    intro z hz
    refine ⟨_, rfl, ?_⟩
    rw [show IntKind.i64.wrap z = z from Z.wrap_iid (by omega) (by omega)]
    unfold Z.rem
    rcases Int.le_total 0 z with g | g
    · rw [Int.tmod_eq_emod_of_nonneg g]; omega
    · have : z.tmod 1048577 = -((-z) % 1048577) := by rw [← Int.tmod_eq_emod_of_nonneg (by omega), Int.neg_tmod]; omega
      omega
  obtain ⟨n, en, hn⟩ : ∃ n, Z.add .i64 2 (Z.rem .i64 (IntKind.i64.wrap l0) 15) = n ∧ 2 ≤ n ∧ n ≤ 16 := by
    refine ⟨_, rfl, ?_⟩
    rw [show IntKind.i64.wrap l0 = l0 from Z.wrap_iid (by omega) (by omega)]
    have e : Z.rem .i64 l0 15 = l0 % 15 := by unfold Z.rem; exact Int.tmod_eq_emod_of_nonneg (by omega)
    rw [e, show Z.add .i64 2 (l0 % 15) = 2 + l0 % 15 from Z.wrap_iid (by omega) (by omega)]; omega
  rw [en]
  refine nzI (by omega) ?_
  conv => whnf
  obtain ⟨k, ek, hk⟩ : ∃ k, Z.rem .i64 (IntKind.i64.wrap at0) n = k ∧ 0 ≤ k ∧ k < n := by
    refine ⟨_, rfl, ?_⟩
    rw [show IntKind.i64.wrap at0 = at0 from Z.wrap_iid (by omega) (by omega)]
    unfold Z.rem
    rw [Int.tmod_eq_emod_of_nonneg (by omega)]
    exact ⟨Int.emod_nonneg _ (by omega), Int.emod_lt_of_pos _ (by omega)⟩
  obtain ⟨a, ea, ha⟩ := rm x0 w1
  obtain ⟨b, eb, hb⟩ := rm y0 w2
  rw [ek, ea, eb]
  refine ditNear (fun g => absurd ⟨hn, ha⟩ g) (fun _ _ p hp => ?_)
  conv => whnf
  refine ditNear (fun g => absurd ⟨hn, hb⟩ g) (fun _ _ q hq => ?_)
  conv => whnf
  have hp0 := hp.k0; have hp1 := hp.k1
  rw [decide_eq_false (show ¬ p < 0 by omega)]
  conv => whnf
  rw [decide_eq_false (show ¬ p ≥ n by omega)]
  conv => whnf
  have lk : levelI k n = lvI n k := by unfold levelI; rw [if_pos ⟨hn, hk⟩]
  have lb := PD.lv_b hn.1 hn.2 hk.1 hk.2
  have ns := PD.near_self hn.1 hn.2 hk.1 hk.2
  have tail : True := True.intro
  by_cases g : a ≤ b
  · rw [decide_eq_true g]
    conv => whnf
    have mono := PD.near_mono hn.1 hn.2 hp hq g
    rw [decide_eq_false (show ¬ p > q by omega)]
    conv => whnf
    refine ditLevel (fun v hv => ?_)
    conv => whnf
    rw [lk] at hv
    subst hv
    refine ditNear (fun g => absurd ⟨hn, by omega⟩ g) (fun _ _ r hr => ?_)
    conv => whnf
    obtain rfl := PD.near_uniq hr ns
    rw [show (r != r) = false by simp]
    conv => whnf
    have z0 : levelI 0 n = 0 := by unfold levelI; rw [if_pos ⟨hn, by omega, by omega⟩]; exact PD.lv_0 n
    have z1 : levelI (n - 1) n = 255 := by unfold levelI; rw [if_pos ⟨hn, by omega, by omega⟩]; exact PD.lv_last hn.1
    have en1 : Z.sub .i64 n 1 = n - 1 := Z.wrap_iid (by omega) (by omega)
    refine ditLevel (fun v hv => ?_)
    conv => whnf
    obtain rfl : v = 0 := by rw [hv, z0]
    conv => whnf
    try rw [en1]
    try (refine AW_draw tok hP ?_; conv => whnf)
    first | refine AQ_int (fun sK QK hK => ditLevel (k := n - 1) (n := n) hK) (fun v2 hv2 => ?_) | refine ditLevel (k := n - 1) (n := n) (fun v2 hv2 => ?_)
    conv => whnf
    try (refine And.intro (OkD.mk (by kernel_rfl)) ?_; conv => whnf)
    obtain rfl : v2 = 255 := by rw [hv2, z1]
    conv => whnf
    by_cases gr : r = 0
    · rw [show (r == 0) = true from beq_iff_eq.2 gr]
      conv => whnf
      by_cases ga : a > 0
      · rw [decide_eq_true ga]
        conv => whnf
        by_cases gb : a < 255
        · rw [decide_eq_true gb]
          conv => whnf
          try (refine AW_draw tok hP ?_; conv => whnf)
          first | refine AQ_pure (fun sK QK hK => awake52 hK) ?_ | refine awake52 ?_
          conv => whnf
          try (refine And.intro (OkD.mk (by kernel_rfl)) ?_; conv => whnf)
        · rw [decide_eq_false gb]
          conv => whnf
          have pn := PD.near_high hn.1 hn.2 (by omega) hp
          try rw [en1]
          rw [show (p == n - 1) = true from beq_iff_eq.2 pn]
          conv => whnf
          try (refine AW_draw tok hP ?_; conv => whnf)
          first | refine AQ_pure (fun sK QK hK => awake52 hK) ?_ | refine awake52 ?_
          conv => whnf
          try (refine And.intro (OkD.mk (by kernel_rfl)) ?_; conv => whnf)
      · rw [decide_eq_false ga]
        conv => whnf
        have pz := PD.near_low hn.1 hn.2 (by omega) hp
        rw [show (p == 0) = true from beq_iff_eq.2 pz]
        conv => whnf
        by_cases gb : a < 255
        · rw [decide_eq_true gb]
          conv => whnf
          try (refine AW_draw tok hP ?_; conv => whnf)
          first | refine AQ_pure (fun sK QK hK => awake52 hK) ?_ | refine awake52 ?_
          conv => whnf
          try (refine And.intro (OkD.mk (by kernel_rfl)) ?_; conv => whnf)
        · rw [decide_eq_false gb]
          conv => whnf
          have pn := PD.near_high hn.1 hn.2 (by omega) hp
          try rw [en1]
          rw [show (p == n - 1) = true from beq_iff_eq.2 pn]
          conv => whnf
          try (refine AW_draw tok hP ?_; conv => whnf)
          first | refine AQ_pure (fun sK QK hK => awake52 hK) ?_ | refine awake52 ?_
          conv => whnf
          try (refine And.intro (OkD.mk (by kernel_rfl)) ?_; conv => whnf)
    · rw [show (r == 0) = false from beq_eq_false_iff_ne.2 gr]
      conv => whnf
      have er : Z.sub .i64 r 1 = r - 1 := Z.wrap_iid (by omega) (by omega)
      try (refine AW_draw tok hP ?_; conv => whnf)
      first | refine AQ_int (fun sK QK hK => ditLevel (k := Z.sub .i64 r 1) (n := n) hK) (fun v3 hv3 => ?_) | refine ditLevel (k := Z.sub .i64 r 1) (n := n) (fun v3 hv3 => ?_)
      conv => whnf
      try (refine And.intro (OkD.mk (by kernel_rfl)) ?_; conv => whnf)
      rw [er] at hv3
      try (refine AW_draw tok hP ?_; conv => whnf)
      first | refine AQ_int (fun sK QK hK => ditLevel (k := r) (n := n) hK) (fun v4 hv4 => ?_) | refine ditLevel (k := r) (n := n) (fun v4 hv4 => ?_)
      conv => whnf
      try (refine And.intro (OkD.mk (by kernel_rfl)) ?_; conv => whnf)
      have l3 : levelI (r - 1) n = lvI n (r - 1) := by unfold levelI; rw [if_pos ⟨hn, by omega, by omega⟩]
      rw [l3] at hv3; rw [lk] at hv4
      have lt := PD.lv_lt hn.1 hn.2 (show 0 ≤ r - 1 by omega) (show r - 1 < r by omega)
      rw [decide_eq_true (show v3 < v4 by omega)]
      conv => whnf
      by_cases ga : a > 0
      · rw [decide_eq_true ga]
        conv => whnf
        by_cases gb : a < 255
        · rw [decide_eq_true gb]
          conv => whnf
          try (refine AW_draw tok hP ?_; conv => whnf)
          first | refine AQ_pure (fun sK QK hK => awake52 hK) ?_ | refine awake52 ?_
          conv => whnf
          try (refine And.intro (OkD.mk (by kernel_rfl)) ?_; conv => whnf)
        · rw [decide_eq_false gb]
          conv => whnf
          have pn := PD.near_high hn.1 hn.2 (by omega) hp
          try rw [en1]
          rw [show (p == n - 1) = true from beq_iff_eq.2 pn]
          conv => whnf
          try (refine AW_draw tok hP ?_; conv => whnf)
          first | refine AQ_pure (fun sK QK hK => awake52 hK) ?_ | refine awake52 ?_
          conv => whnf
          try (refine And.intro (OkD.mk (by kernel_rfl)) ?_; conv => whnf)
      · rw [decide_eq_false ga]
        conv => whnf
        have pz := PD.near_low hn.1 hn.2 (by omega) hp
        rw [show (p == 0) = true from beq_iff_eq.2 pz]
        conv => whnf
        by_cases gb : a < 255
        · rw [decide_eq_true gb]
          conv => whnf
          try (refine AW_draw tok hP ?_; conv => whnf)
          first | refine AQ_pure (fun sK QK hK => awake52 hK) ?_ | refine awake52 ?_
          conv => whnf
          try (refine And.intro (OkD.mk (by kernel_rfl)) ?_; conv => whnf)
        · rw [decide_eq_false gb]
          conv => whnf
          have pn := PD.near_high hn.1 hn.2 (by omega) hp
          try rw [en1]
          rw [show (p == n - 1) = true from beq_iff_eq.2 pn]
          conv => whnf
          try (refine AW_draw tok hP ?_; conv => whnf)
          first | refine AQ_pure (fun sK QK hK => awake52 hK) ?_ | refine awake52 ?_
          conv => whnf
          try (refine And.intro (OkD.mk (by kernel_rfl)) ?_; conv => whnf)
  · rw [decide_eq_false g]
    conv => whnf
    refine ditLevel (fun v hv => ?_)
    conv => whnf
    rw [lk] at hv
    subst hv
    refine ditNear (fun g => absurd ⟨hn, by omega⟩ g) (fun _ _ r hr => ?_)
    conv => whnf
    obtain rfl := PD.near_uniq hr ns
    rw [show (r != r) = false by simp]
    conv => whnf
    have z0 : levelI 0 n = 0 := by unfold levelI; rw [if_pos ⟨hn, by omega, by omega⟩]; exact PD.lv_0 n
    have z1 : levelI (n - 1) n = 255 := by unfold levelI; rw [if_pos ⟨hn, by omega, by omega⟩]; exact PD.lv_last hn.1
    have en1 : Z.sub .i64 n 1 = n - 1 := Z.wrap_iid (by omega) (by omega)
    refine ditLevel (fun v hv => ?_)
    conv => whnf
    obtain rfl : v = 0 := by rw [hv, z0]
    conv => whnf
    try rw [en1]
    try (refine AW_draw tok hP ?_; conv => whnf)
    first | refine AQ_int (fun sK QK hK => ditLevel (k := n - 1) (n := n) hK) (fun v2 hv2 => ?_) | refine ditLevel (k := n - 1) (n := n) (fun v2 hv2 => ?_)
    conv => whnf
    try (refine And.intro (OkD.mk (by kernel_rfl)) ?_; conv => whnf)
    obtain rfl : v2 = 255 := by rw [hv2, z1]
    conv => whnf
    by_cases gr : r = 0
    · rw [show (r == 0) = true from beq_iff_eq.2 gr]
      conv => whnf
      by_cases ga : a > 0
      · rw [decide_eq_true ga]
        conv => whnf
        by_cases gb : a < 255
        · rw [decide_eq_true gb]
          conv => whnf
          try (refine AW_draw tok hP ?_; conv => whnf)
          first | refine AQ_pure (fun sK QK hK => awake52 hK) ?_ | refine awake52 ?_
          conv => whnf
          try (refine And.intro (OkD.mk (by kernel_rfl)) ?_; conv => whnf)
        · rw [decide_eq_false gb]
          conv => whnf
          have pn := PD.near_high hn.1 hn.2 (by omega) hp
          try rw [en1]
          rw [show (p == n - 1) = true from beq_iff_eq.2 pn]
          conv => whnf
          try (refine AW_draw tok hP ?_; conv => whnf)
          first | refine AQ_pure (fun sK QK hK => awake52 hK) ?_ | refine awake52 ?_
          conv => whnf
          try (refine And.intro (OkD.mk (by kernel_rfl)) ?_; conv => whnf)
      · rw [decide_eq_false ga]
        conv => whnf
        have pz := PD.near_low hn.1 hn.2 (by omega) hp
        rw [show (p == 0) = true from beq_iff_eq.2 pz]
        conv => whnf
        by_cases gb : a < 255
        · rw [decide_eq_true gb]
          conv => whnf
          try (refine AW_draw tok hP ?_; conv => whnf)
          first | refine AQ_pure (fun sK QK hK => awake52 hK) ?_ | refine awake52 ?_
          conv => whnf
          try (refine And.intro (OkD.mk (by kernel_rfl)) ?_; conv => whnf)
        · rw [decide_eq_false gb]
          conv => whnf
          have pn := PD.near_high hn.1 hn.2 (by omega) hp
          try rw [en1]
          rw [show (p == n - 1) = true from beq_iff_eq.2 pn]
          conv => whnf
          try (refine AW_draw tok hP ?_; conv => whnf)
          first | refine AQ_pure (fun sK QK hK => awake52 hK) ?_ | refine awake52 ?_
          conv => whnf
          try (refine And.intro (OkD.mk (by kernel_rfl)) ?_; conv => whnf)
    · rw [show (r == 0) = false from beq_eq_false_iff_ne.2 gr]
      conv => whnf
      have er : Z.sub .i64 r 1 = r - 1 := Z.wrap_iid (by omega) (by omega)
      try (refine AW_draw tok hP ?_; conv => whnf)
      first | refine AQ_int (fun sK QK hK => ditLevel (k := Z.sub .i64 r 1) (n := n) hK) (fun v3 hv3 => ?_) | refine ditLevel (k := Z.sub .i64 r 1) (n := n) (fun v3 hv3 => ?_)
      conv => whnf
      try (refine And.intro (OkD.mk (by kernel_rfl)) ?_; conv => whnf)
      rw [er] at hv3
      try (refine AW_draw tok hP ?_; conv => whnf)
      first | refine AQ_int (fun sK QK hK => ditLevel (k := r) (n := n) hK) (fun v4 hv4 => ?_) | refine ditLevel (k := r) (n := n) (fun v4 hv4 => ?_)
      conv => whnf
      try (refine And.intro (OkD.mk (by kernel_rfl)) ?_; conv => whnf)
      have l3 : levelI (r - 1) n = lvI n (r - 1) := by unfold levelI; rw [if_pos ⟨hn, by omega, by omega⟩]
      rw [l3] at hv3; rw [lk] at hv4
      have lt := PD.lv_lt hn.1 hn.2 (show 0 ≤ r - 1 by omega) (show r - 1 < r by omega)
      rw [decide_eq_true (show v3 < v4 by omega)]
      conv => whnf
      by_cases ga : a > 0
      · rw [decide_eq_true ga]
        conv => whnf
        by_cases gb : a < 255
        · rw [decide_eq_true gb]
          conv => whnf
          try (refine AW_draw tok hP ?_; conv => whnf)
          first | refine AQ_pure (fun sK QK hK => awake52 hK) ?_ | refine awake52 ?_
          conv => whnf
          try (refine And.intro (OkD.mk (by kernel_rfl)) ?_; conv => whnf)
        · rw [decide_eq_false gb]
          conv => whnf
          have pn := PD.near_high hn.1 hn.2 (by omega) hp
          try rw [en1]
          rw [show (p == n - 1) = true from beq_iff_eq.2 pn]
          conv => whnf
          try (refine AW_draw tok hP ?_; conv => whnf)
          first | refine AQ_pure (fun sK QK hK => awake52 hK) ?_ | refine awake52 ?_
          conv => whnf
          try (refine And.intro (OkD.mk (by kernel_rfl)) ?_; conv => whnf)
      · rw [decide_eq_false ga]
        conv => whnf
        have pz := PD.near_low hn.1 hn.2 (by omega) hp
        rw [show (p == 0) = true from beq_iff_eq.2 pz]
        conv => whnf
        by_cases gb : a < 255
        · rw [decide_eq_true gb]
          conv => whnf
          try (refine AW_draw tok hP ?_; conv => whnf)
          first | refine AQ_pure (fun sK QK hK => awake52 hK) ?_ | refine awake52 ?_
          conv => whnf
          try (refine And.intro (OkD.mk (by kernel_rfl)) ?_; conv => whnf)
        · rw [decide_eq_false gb]
          conv => whnf
          have pn := PD.near_high hn.1 hn.2 (by omega) hp
          try rw [en1]
          rw [show (p == n - 1) = true from beq_iff_eq.2 pn]
          conv => whnf
          try (refine AW_draw tok hP ?_; conv => whnf)
          first | refine AQ_pure (fun sK QK hK => awake52 hK) ?_ | refine awake52 ?_
          conv => whnf
          try (refine And.intro (OkD.mk (by kernel_rfl)) ?_; conv => whnf)
