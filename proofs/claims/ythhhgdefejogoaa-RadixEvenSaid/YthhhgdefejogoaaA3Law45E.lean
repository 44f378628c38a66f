/- Part of the proof of a law of the seat: its functions, walked. No condition. -/
import Derived.Test.YthhhgdefejogoaaA3Law45
namespace Go.AW.A3
open Go Go.AW Go.Proofs
set_option maxRecDepth 100000
set_option linter.unusedVariables false
set_option maxHeartbeats 4000000
theorem lawRadixEven (avs : List AV) (obs : List Ob) (ha : ArgC 0 [.flat .bl, .flat (.ik .u8), .flat (.ik .u8), .flat (.ik .u8)] avs obs) : AC Try.prog 8 (groupK [none, none, none, none] avs) obs fun r _ => r = .bool true := by
  cases ha with | bool ha => cases ha with | int w2 ha => cases ha with | int w3 ha => cases ha with | int w4 ha =>
  cases ha
  rename_i three j0 more n0
  replace w2 := wf_u8 w2
  replace w3 := wf_u8 w3
  replace w4 := wf_u8 w4
  refine AC_body tok 0 Try.func8 rfl (by kernel_rfl) ?_
  conv => whnf
  have cv : ∀ z : Int, 0 ≤ z → z < 4294967296 → IntKind.i64.wrap z = z := fun z h1 h2 => Z.wrap_iid (by omega) (by omega)
  have rm : ∀ z q : Int, 0 ≤ z → Z.rem .i64 z q = z % q := fun z q h => Int.tmod_eq_emod_of_nonneg h
  obtain ⟨d, ed, d1, d2⟩ : ∃ d, Z.rem .i64 (IntKind.i64.wrap j0) 5 = d ∧ 0 ≤ d ∧ d ≤ 4 := by
    refine ⟨_, rfl, ?_⟩
    rw [cv _ (by omega) (by omega), rm _ _ (by omega)]
    omega
  obtain ⟨c, ec, c1, c2⟩ : ∃ c, Z.rem .i64 (IntKind.i64.wrap more) 5 = c ∧ 0 ≤ c ∧ c ≤ 4 := by
    refine ⟨_, rfl, ?_⟩
    rw [cv _ (by omega) (by omega), rm _ _ (by omega)]
    omega
  rw [ed]
  cases three
  · conv => whnf
    rw [ec]
    have hb : (2 : Int) = 2 ∨ (2 : Int) = 3 := by omega
    obtain ⟨k1, k2, k3⟩ := PR.powI_small (k := d + c) hb (by omega) (by omega)
    obtain ⟨q1, q2, q3⟩ := PR.powI_small (k := c) hb (by omega) (by omega)
    obtain ⟨r1, r2, r3⟩ := PR.powI_small (k := d) hb (by omega) (by omega)
    rw [show Z.add .i64 d c = d + c from Z.wrap_iid (by omega) (by omega)]
    try (refine AW_draw tok hP ?_; conv => whnf)
    try (refine AW_draw tok hP ?_; conv => whnf)
    first | refine AQ_int (fun sK QK hK => rxPowers (b := 2) (k := d + c) (by decide) (by unfold I64; omega) hK) (fun p hp => ?_) | refine rxPowers (b := 2) (k := d + c) (by decide) (by unfold I64; omega) (fun p hp => ?_)
    conv => whnf
    try (refine And.intro (OkD.mk (by kernel_rfl)) ?_; conv => whnf)
    rw [show Z.sub .i64 (d + c) d = c from (Z.wrap_iid (by omega) (by omega)).trans (by omega)]
    try (refine AW_draw tok hP ?_; conv => whnf)
    first | refine AQ_int (fun sK QK hK => rxPowers (b := 2) (k := c) (by decide) (by unfold I64; omega) hK) (fun part hpart => ?_) | refine rxPowers (b := 2) (k := c) (by decide) (by unfold I64; omega) (fun part hpart => ?_)
    conv => whnf
    try (refine And.intro (OkD.mk (by kernel_rfl)) ?_; conv => whnf)
    rw [k1] at hp
    rw [q1] at hpart
    refine ALs.invD (ι := Int) tok 0 [false, false, false, true, false, false, false, false, false, true, true, true, true, true, true, true] (fun i => 0 ≤ i ∧ i ≤ 2 ^ d.toNat) (fun i => (2 ^ d.toNat - i).toNat)
      (fun i => [.junk, .junk, .junk, .int .u8 n0, .junk, .junk, .junk, .junk, .junk, .int .i64 2, .int .i64 d, .int .i64 (d + c), .int .i64 p, .int .i64 part, .ptr 0 0 0, .int .i64 i] ++ junks 121)
      (fun i => [.row true 48 [.ik .i64] (metR (PR.evenR 2 d.toNat) 81 i.toNat)]) (fun _ => ()) 0 ⟨by omega, by omega⟩ rfl ⟨[], by rw [show (0 : Int).toNat = 0 from rfl, PR.met_zero]; rfl⟩ rfl (fun _ => Nat.zero_le _) (fun _ => rfl) ?_
    rintro i ⟨i0, i1⟩
    conv => whnf
    try (refine AW_draw tok hP ?_; conv => whnf)
    first | refine AQ_int (fun sK QK hK => rxPowers (b := 2) (k := d) (by decide) (by unfold I64; omega) hK) (fun pd hpd => ?_) | refine rxPowers (b := 2) (k := d) (by decide) (by unfold I64; omega) (fun pd hpd => ?_)
    conv => whnf
    try (refine And.intro (OkD.mk (by kernel_rfl)) ?_; conv => whnf)
    rw [r1] at hpd
    have l81 : (2 : Int) ^ d.toNat ≤ 81 := by
      have := PR.pow_mono (b := 2) (by omega) (show d.toNat ≤ 4 by omega)
      have e : (2 : Int) ^ 4 ≤ 81 := by decide
      omega
    by_cases g : i < pd
    · rw [decide_eq_true g]
      conv => whnf
      try (refine AW_draw tok hP ?_; conv => whnf)
      first | refine AQ_int (fun sK QK hK => rxTurn (n := i) (b := 2) (k := d + c) (by unfold I64; omega) (by decide) (by unfold I64; omega) hK) (fun x hx => ?_) | refine rxTurn (n := i) (b := 2) (k := d + c) (by unfold I64; omega) (by decide) (by unfold I64; omega) (fun x hx => ?_)
      conv => whnf
      try (refine And.intro (OkD.mk (by kernel_rfl)) ?_; conv => whnf)
      rw [PR.turnI_eq i0 (by omega), show (d + c).toNat = d.toNat + c.toNat by omega, PR.turn_few (by omega) c.toNat d.toNat i i0 (by omega)] at hx
      have tb := PR.turn_b (b := 2) (by omega) d.toNat i
      have eg := PR.even_get (b := 2) (d := d.toNat) i0 (by omega)
      obtain ⟨t, ht⟩ : ∃ t, turnR 2 d.toNat i = t := ⟨_, rfl⟩
      rw [ht] at tb hx eg
      rw [show d + c = c + d by omega] at k1 k2 k3 hp
      have x0 : 0 ≤ x := by rw [hx]; exact Int.mul_nonneg tb.1 (by omega)
      have x1 : x < p := by
        rw [hx, hp, show (c + d).toNat = d.toNat + c.toNat by omega, Int.pow_add]
        exact Int.mul_lt_mul_of_pos_right tb.2 (by omega)
      rw [decide_eq_false (show ¬ x < 0 by omega)]
      conv => whnf
      rw [decide_eq_false (show ¬ x ≥ p by omega)]
      conv => whnf
      rw [decide_eq_false (show ¬ part < 1 by omega)]
      conv => whnf
      refine nzI (by omega) ?_
      conv => whnf
      have xq : Z.quo .i64 x part = t := by
        rw [quo_pos x0 (by omega) (by omega), hx, hpart]
        exact Int.mul_ediv_cancel _ (by omega)
      rw [xq, decide_eq_false (show ¬ t > 80 by omega)]
      conv => whnf
      refine nzI (by omega) ?_
      conv => whnf
      rw [xq]
      refine ixI tb.1 (show t < ((81 : Nat) : Int) by omega) ?_
      conv => whnf
      refine andP (by rw [PR.met_len]; omega) ?_
      conv => whnf
      refine ixI tb.1 (show t < ((81 : Nat) : Int) by omega) ?_
      conv => whnf
      refine andP (by rw [PR.met_len]; omega) ?_
      conv => whnf
      have ei : Z.add .i64 i 1 = i + 1 := Z.wrap_iid (by omega) (by omega)
      have cb := PR.cnt_b (PR.evenR 2 d.toNat) i.toNat t
      have el := PR.even_len 2 d.toNat
      have em : (metR (PR.evenR 2 d.toNat) 81 i.toNat).set t.toNat [Z.add .i64 (((metR (PR.evenR 2 d.toNat) 81 i.toNat).getD t.toNat []).headD 0) 1] = metR (PR.evenR 2 d.toNat) 81 (Z.add .i64 i 1).toNat := by
        rw [PR.met_get _ _ tb.1 (show t < 81 by omega), show Z.add .i64 ([cntR (PR.evenR 2 d.toNat) i.toNat t].headD 0) 1 = cntR (PR.evenR 2 d.toNat) i.toNat t + 1 from Z.wrap_iid (by show -9223372036854775808 ≤ cntR (PR.evenR 2 d.toNat) i.toNat t + 1; omega) (by show cntR (PR.evenR 2 d.toNat) i.toNat t + 1 < _; omega), ei, show (i + 1).toNat = i.toNat + 1 by omega]
        exact PR.met_in _ (by omega) (by rw [eg]; rfl) tb.1 (by omega)
      exact ⟨Z.add .i64 i 1, [], rfl, by rw [← em]; rfl, rfl, by show (2 ^ d.toNat - Z.add .i64 i 1).toNat < (2 ^ d.toNat - i).toNat; rw [ei]; omega, by show 0 ≤ Z.add .i64 i 1; rw [ei]; omega, by show Z.add .i64 i 1 ≤ 2 ^ d.toNat; rw [ei]; omega⟩
    · rw [decide_eq_false g]
      conv => whnf
      refine AWs.go tok 0 ?_
      conv => whnf
      obtain rfl : i = 2 ^ d.toNat := by omega
      have el := PR.even_len 2 d.toNat
      rw [← el]
      refine ALs.invD (ι := Int) tok 0 [false, false, false, true, false, false, false, false, false, true, true, false, false, false, true, false, false, true] (fun i => 0 ≤ i ∧ i ≤ 2 ^ d.toNat) (fun i => (2 ^ d.toNat - i).toNat)
        (fun i => [.junk, .junk, .junk, .int .u8 n0, .junk, .junk, .junk, .junk, .junk, .int .i64 2, .int .i64 d, .junk, .junk, .junk, .ptr 0 0 0, .junk, .junk, .int .i64 i] ++ junks 119)
        (fun _ => [.row true 48 [.ik .i64] (metR (PR.evenR 2 d.toNat) 81 (PR.evenR 2 d.toNat).length)]) (fun _ => ()) 0 ⟨by omega, by omega⟩ rfl ⟨[], rfl⟩ rfl (fun _ => Nat.zero_le _) (fun _ => rfl) ?_
      rintro i ⟨i0, i1⟩
      conv => whnf
      try (refine AW_draw tok hP ?_; conv => whnf)
      first | refine AQ_int (fun sK QK hK => rxPowers (b := 2) (k := d) (by decide) (by unfold I64; omega) hK) (fun pd2 hpd2 => ?_) | refine rxPowers (b := 2) (k := d) (by decide) (by unfold I64; omega) (fun pd2 hpd2 => ?_)
      conv => whnf
      try (refine And.intro (OkD.mk (by kernel_rfl)) ?_; conv => whnf)
      rw [r1] at hpd2
      by_cases g3 : i < pd2
      · rw [decide_eq_true g3]
        conv => whnf
        refine ixI i0 (show i < ((81 : Nat) : Int) by omega) ?_
        conv => whnf
        refine andP (by rw [PR.met_len]; omega) ?_
        conv => whnf
        rw [PR.met_get _ _ i0 (show i < 81 by omega), PR.even_one hb (by omega) i0 (by omega)]
        conv => whnf
        have ei : Z.add .i64 i 1 = i + 1 := Z.wrap_iid (by omega) (by omega)
        exact ⟨Z.add .i64 i 1, _, rfl, rfl, rfl, by show (2 ^ d.toNat - Z.add .i64 i 1).toNat < (2 ^ d.toNat - i).toNat; rw [ei]; omega, by show 0 ≤ Z.add .i64 i 1; rw [ei]; omega, by show Z.add .i64 i 1 ≤ 2 ^ d.toNat; rw [ei]; omega⟩
      rw [decide_eq_false g3]
      conv => whnf
      refine AWs.go tok 0 ?_
      conv => whnf
      obtain ⟨m, em, m1, m2⟩ : ∃ m, Z.add .i64 1 (Z.rem .i64 (IntKind.i64.wrap n0) 64) = m ∧ 1 ≤ m ∧ m ≤ 64 := by
        refine ⟨_, rfl, ?_⟩
        rw [cv _ (by omega) (by omega), rm _ _ (by omega), show Z.add .i64 1 (n0 % 64) = 1 + n0 % 64 from Z.wrap_iid (by omega) (by omega)]
        omega
      rw [em]
      have e64 : (2 : Int) ^ (6 : Int).toNat = 64 := by decide
      refine rxPoints (n := m) (k := 6) (by decide) (by decide) m1 (by omega) ?_
      conv => whnf
      have ln := PR.ptsR_len m 6
      rw [show ((m.toNat : Int) != m) = false by rw [bne_eq_false_iff_eq]; omega]
      conv => whnf
      try (refine AW_draw tok hP ?_; conv => whnf)
      rw [← ln]
      refine rxEmpty (rows := ptsR m 6) (own := true) (by omega) (PR.pts_fit m1 m2) (by decide) (by decide) rfl (fun e he => ?_)
      rw [e64, PR.pts_empty' m1 m2] at he
      conv => whnf
      rw [show Z.sub .i64 64 m = 64 - m from Z.wrap_iid (by omega) (by omega), show (e != 64 - m) = false by rw [he]; simp]
      conv => whnf
      obtain ⟨MM, hMM⟩ : ∃ MM, metR (PR.evenR 2 d.toNat) 81 (PR.evenR 2 d.toNat).length = MM := ⟨_, rfl⟩
      refine ALs.invD (ι := Int) tok 0 [false, false, false, false, false, false, false, false, false, false, false, false, false, false, false, false, false, false, true, true, true] (fun i => 0 ≤ i ∧ i ≤ m) (fun i => (m - i).toNat)
        (fun i => junks 18 ++ [.int .i64 m, .sl 1 0 (ptsR m 6).length none, .int .i64 i] ++ junks 116)
        (fun _ => [.row true 48 [.ik .i64] MM, .row true 49 [.ik .i64, .ik .i64] (ptsR m 6)]) (fun _ => ()) 0 ⟨by omega, by omega⟩ rfl ⟨[], by rw [← hMM]; rfl⟩ rfl (fun _ => Nat.zero_le _) (fun _ => rfl) ?_
      rintro i ⟨i0, i1⟩
      conv => whnf
      by_cases g4 : i < m
      · rw [decide_eq_true g4]
        conv => whnf
        refine ALs.invD (ι := Int) tok 0 [false, false, false, false, false, false, false, false, false, false, false, false, false, false, false, false, false, false, true, true, true, true] (fun q => 0 ≤ q ∧ q ≤ i) (fun q => (i - q).toNat)
          (fun q => junks 18 ++ [.int .i64 m, .sl 1 0 (ptsR m 6).length none, .int .i64 i, .int .i64 q] ++ junks 115)
          (fun _ => [.row true 48 [.ik .i64] MM, .row true 49 [.ik .i64, .ik .i64] (ptsR m 6)]) (fun _ => ()) 0 ⟨by omega, by omega⟩ rfl ⟨[], rfl⟩ rfl (fun _ => Nat.zero_le _) (fun _ => rfl) ?_
        rintro q ⟨q0, q1⟩
        conv => whnf
        by_cases g5 : q < i
        · rw [decide_eq_true g5]
          conv => whnf
          have un := PR.pts_unlike m1 m2 q0 g5 g4
          have gi := PR.ptsR_get (n := m) (k := 6) i0 g4
          have gq := PR.ptsR_get (n := m) (k := 6) q0 (show q < m by omega)
          try (refine AW_draw tok hP ?_; conv => whnf)
          refine ixI i0 (by omega) ?_
          conv => whnf
          refine andP (by omega) ?_
          conv => whnf
          refine ixI q0 (by omega) ?_
          conv => whnf
          refine andP (by omega) ?_
          conv => whnf
          rw [Nat.zero_add, Nat.zero_add, gi, gq]
          rw [show ((ptRow m 6 i).headD 0 == (ptRow m 6 q).headD 0) = false from beq_eq_false_iff_ne.2 un.1]
          conv => whnf
          refine ixI i0 (by omega) ?_
          conv => whnf
          refine andP (by omega) ?_
          conv => whnf
          refine ixI q0 (by omega) ?_
          conv => whnf
          refine andP (by omega) ?_
          conv => whnf
          try (refine And.intro (OkD.mk (by kernel_rfl)) ?_; conv => whnf)
          rw [Nat.zero_add, Nat.zero_add, gi, gq]
          rw [show ((ptRow m 6 i).tail.headD 0 == (ptRow m 6 q).tail.headD 0) = false from beq_eq_false_iff_ne.2 un.2]
          conv => whnf
          have eq : Z.add .i64 q 1 = q + 1 := Z.wrap_iid (by omega) (by omega)
          exact ⟨Z.add .i64 q 1, _, rfl, rfl, rfl, by show (i - Z.add .i64 q 1).toNat < (i - q).toNat; rw [eq]; omega, by show 0 ≤ Z.add .i64 q 1; rw [eq]; omega, by show Z.add .i64 q 1 ≤ i; rw [eq]; omega⟩
        · rw [decide_eq_false g5]
          conv => whnf
          refine AWs.go tok 0 ?_
          conv => whnf
          have ei : Z.add .i64 i 1 = i + 1 := Z.wrap_iid (by omega) (by omega)
          exact ⟨Z.add .i64 i 1, _, rfl, rfl, rfl, by show (m - Z.add .i64 i 1).toNat < (m - i).toNat; rw [ei]; omega, by show 0 ≤ Z.add .i64 i 1; rw [ei]; omega, by show Z.add .i64 i 1 ≤ m; rw [ei]; omega⟩
      · rw [decide_eq_false g4]
        conv => whnf
        refine AWs.go tok 0 ?_
        conv => whnf
        try (refine AW_draw tok hP ?_; conv => whnf)
        first | refine AQ_pure (fun sK QK hK => awake45 hK) ?_ | refine awake45 ?_
        conv => whnf
        try (refine And.intro (OkD.mk (by kernel_rfl)) ?_; conv => whnf)
  · conv => whnf
    rw [ec]
    have hb : (3 : Int) = 2 ∨ (3 : Int) = 3 := by omega
    obtain ⟨k1, k2, k3⟩ := PR.powI_small (k := d + c) hb (by omega) (by omega)
    obtain ⟨q1, q2, q3⟩ := PR.powI_small (k := c) hb (by omega) (by omega)
    obtain ⟨r1, r2, r3⟩ := PR.powI_small (k := d) hb (by omega) (by omega)
    rw [show Z.add .i64 d c = d + c from Z.wrap_iid (by omega) (by omega)]
    try (refine AW_draw tok hP ?_; conv => whnf)
    try (refine AW_draw tok hP ?_; conv => whnf)
    first | refine AQ_int (fun sK QK hK => rxPowers (b := 3) (k := d + c) (by decide) (by unfold I64; omega) hK) (fun p hp => ?_) | refine rxPowers (b := 3) (k := d + c) (by decide) (by unfold I64; omega) (fun p hp => ?_)
    conv => whnf
    try (refine And.intro (OkD.mk (by kernel_rfl)) ?_; conv => whnf)
    rw [show Z.sub .i64 (d + c) d = c from (Z.wrap_iid (by omega) (by omega)).trans (by omega)]
    try (refine AW_draw tok hP ?_; conv => whnf)
    first | refine AQ_int (fun sK QK hK => rxPowers (b := 3) (k := c) (by decide) (by unfold I64; omega) hK) (fun part hpart => ?_) | refine rxPowers (b := 3) (k := c) (by decide) (by unfold I64; omega) (fun part hpart => ?_)
    conv => whnf
    try (refine And.intro (OkD.mk (by kernel_rfl)) ?_; conv => whnf)
    rw [k1] at hp
    rw [q1] at hpart
    refine ALs.invD (ι := Int) tok 0 [false, false, false, true, false, false, false, false, false, true, true, true, true, true, true, true] (fun i => 0 ≤ i ∧ i ≤ 3 ^ d.toNat) (fun i => (3 ^ d.toNat - i).toNat)
      (fun i => [.junk, .junk, .junk, .int .u8 n0, .junk, .junk, .junk, .junk, .junk, .int .i64 3, .int .i64 d, .int .i64 (d + c), .int .i64 p, .int .i64 part, .ptr 0 0 0, .int .i64 i] ++ junks 121)
      (fun i => [.row true 48 [.ik .i64] (metR (PR.evenR 3 d.toNat) 81 i.toNat)]) (fun _ => ()) 0 ⟨by omega, by omega⟩ rfl ⟨[], by rw [show (0 : Int).toNat = 0 from rfl, PR.met_zero]; rfl⟩ rfl (fun _ => Nat.zero_le _) (fun _ => rfl) ?_
    rintro i ⟨i0, i1⟩
    conv => whnf
    try (refine AW_draw tok hP ?_; conv => whnf)
    first | refine AQ_int (fun sK QK hK => rxPowers (b := 3) (k := d) (by decide) (by unfold I64; omega) hK) (fun pd hpd => ?_) | refine rxPowers (b := 3) (k := d) (by decide) (by unfold I64; omega) (fun pd hpd => ?_)
    conv => whnf
    try (refine And.intro (OkD.mk (by kernel_rfl)) ?_; conv => whnf)
    rw [r1] at hpd
    have l81 : (3 : Int) ^ d.toNat ≤ 81 := by
      have := PR.pow_mono (b := 3) (by omega) (show d.toNat ≤ 4 by omega)
      have e : (3 : Int) ^ 4 ≤ 81 := by decide
      omega
    by_cases g : i < pd
    · rw [decide_eq_true g]
      conv => whnf
      try (refine AW_draw tok hP ?_; conv => whnf)
      first | refine AQ_int (fun sK QK hK => rxTurn (n := i) (b := 3) (k := d + c) (by unfold I64; omega) (by decide) (by unfold I64; omega) hK) (fun x hx => ?_) | refine rxTurn (n := i) (b := 3) (k := d + c) (by unfold I64; omega) (by decide) (by unfold I64; omega) (fun x hx => ?_)
      conv => whnf
      try (refine And.intro (OkD.mk (by kernel_rfl)) ?_; conv => whnf)
      rw [PR.turnI_eq i0 (by omega), show (d + c).toNat = d.toNat + c.toNat by omega, PR.turn_few (by omega) c.toNat d.toNat i i0 (by omega)] at hx
      have tb := PR.turn_b (b := 3) (by omega) d.toNat i
      have eg := PR.even_get (b := 3) (d := d.toNat) i0 (by omega)
      obtain ⟨t, ht⟩ : ∃ t, turnR 3 d.toNat i = t := ⟨_, rfl⟩
      rw [ht] at tb hx eg
      rw [show d + c = c + d by omega] at k1 k2 k3 hp
      have x0 : 0 ≤ x := by rw [hx]; exact Int.mul_nonneg tb.1 (by omega)
      have x1 : x < p := by
        rw [hx, hp, show (c + d).toNat = d.toNat + c.toNat by omega, Int.pow_add]
        exact Int.mul_lt_mul_of_pos_right tb.2 (by omega)
      rw [decide_eq_false (show ¬ x < 0 by omega)]
      conv => whnf
      rw [decide_eq_false (show ¬ x ≥ p by omega)]
      conv => whnf
      rw [decide_eq_false (show ¬ part < 1 by omega)]
      conv => whnf
      refine nzI (by omega) ?_
      conv => whnf
      have xq : Z.quo .i64 x part = t := by
        rw [quo_pos x0 (by omega) (by omega), hx, hpart]
        exact Int.mul_ediv_cancel _ (by omega)
      rw [xq, decide_eq_false (show ¬ t > 80 by omega)]
      conv => whnf
      refine nzI (by omega) ?_
      conv => whnf
      rw [xq]
      refine ixI tb.1 (show t < ((81 : Nat) : Int) by omega) ?_
      conv => whnf
      refine andP (by rw [PR.met_len]; omega) ?_
      conv => whnf
      refine ixI tb.1 (show t < ((81 : Nat) : Int) by omega) ?_
      conv => whnf
      refine andP (by rw [PR.met_len]; omega) ?_
      conv => whnf
      have ei : Z.add .i64 i 1 = i + 1 := Z.wrap_iid (by omega) (by omega)
      have cb := PR.cnt_b (PR.evenR 3 d.toNat) i.toNat t
      have el := PR.even_len 3 d.toNat
      have em : (metR (PR.evenR 3 d.toNat) 81 i.toNat).set t.toNat [Z.add .i64 (((metR (PR.evenR 3 d.toNat) 81 i.toNat).getD t.toNat []).headD 0) 1] = metR (PR.evenR 3 d.toNat) 81 (Z.add .i64 i 1).toNat := by
        rw [PR.met_get _ _ tb.1 (show t < 81 by omega), show Z.add .i64 ([cntR (PR.evenR 3 d.toNat) i.toNat t].headD 0) 1 = cntR (PR.evenR 3 d.toNat) i.toNat t + 1 from Z.wrap_iid (by show -9223372036854775808 ≤ cntR (PR.evenR 3 d.toNat) i.toNat t + 1; omega) (by show cntR (PR.evenR 3 d.toNat) i.toNat t + 1 < _; omega), ei, show (i + 1).toNat = i.toNat + 1 by omega]
        exact PR.met_in _ (by omega) (by rw [eg]; rfl) tb.1 (by omega)
      exact ⟨Z.add .i64 i 1, [], rfl, by rw [← em]; rfl, rfl, by show (3 ^ d.toNat - Z.add .i64 i 1).toNat < (3 ^ d.toNat - i).toNat; rw [ei]; omega, by show 0 ≤ Z.add .i64 i 1; rw [ei]; omega, by show Z.add .i64 i 1 ≤ 3 ^ d.toNat; rw [ei]; omega⟩
    · rw [decide_eq_false g]
      conv => whnf
      refine AWs.go tok 0 ?_
      conv => whnf
      obtain rfl : i = 3 ^ d.toNat := by omega
      have el := PR.even_len 3 d.toNat
      rw [← el]
      refine ALs.invD (ι := Int) tok 0 [false, false, false, true, false, false, false, false, false, true, true, false, false, false, true, false, false, true] (fun i => 0 ≤ i ∧ i ≤ 3 ^ d.toNat) (fun i => (3 ^ d.toNat - i).toNat)
        (fun i => [.junk, .junk, .junk, .int .u8 n0, .junk, .junk, .junk, .junk, .junk, .int .i64 3, .int .i64 d, .junk, .junk, .junk, .ptr 0 0 0, .junk, .junk, .int .i64 i] ++ junks 119)
        (fun _ => [.row true 48 [.ik .i64] (metR (PR.evenR 3 d.toNat) 81 (PR.evenR 3 d.toNat).length)]) (fun _ => ()) 0 ⟨by omega, by omega⟩ rfl ⟨[], rfl⟩ rfl (fun _ => Nat.zero_le _) (fun _ => rfl) ?_
      rintro i ⟨i0, i1⟩
      conv => whnf
      try (refine AW_draw tok hP ?_; conv => whnf)
      first | refine AQ_int (fun sK QK hK => rxPowers (b := 3) (k := d) (by decide) (by unfold I64; omega) hK) (fun pd2 hpd2 => ?_) | refine rxPowers (b := 3) (k := d) (by decide) (by unfold I64; omega) (fun pd2 hpd2 => ?_)
      conv => whnf
      try (refine And.intro (OkD.mk (by kernel_rfl)) ?_; conv => whnf)
      rw [r1] at hpd2
      by_cases g3 : i < pd2
      · rw [decide_eq_true g3]
        conv => whnf
        refine ixI i0 (show i < ((81 : Nat) : Int) by omega) ?_
        conv => whnf
        refine andP (by rw [PR.met_len]; omega) ?_
        conv => whnf
        rw [PR.met_get _ _ i0 (show i < 81 by omega), PR.even_one hb (by omega) i0 (by omega)]
        conv => whnf
        have ei : Z.add .i64 i 1 = i + 1 := Z.wrap_iid (by omega) (by omega)
        exact ⟨Z.add .i64 i 1, _, rfl, rfl, rfl, by show (3 ^ d.toNat - Z.add .i64 i 1).toNat < (3 ^ d.toNat - i).toNat; rw [ei]; omega, by show 0 ≤ Z.add .i64 i 1; rw [ei]; omega, by show Z.add .i64 i 1 ≤ 3 ^ d.toNat; rw [ei]; omega⟩
      rw [decide_eq_false g3]
      conv => whnf
      refine AWs.go tok 0 ?_
      conv => whnf
      obtain ⟨m, em, m1, m2⟩ : ∃ m, Z.add .i64 1 (Z.rem .i64 (IntKind.i64.wrap n0) 64) = m ∧ 1 ≤ m ∧ m ≤ 64 := by
        refine ⟨_, rfl, ?_⟩
        rw [cv _ (by omega) (by omega), rm _ _ (by omega), show Z.add .i64 1 (n0 % 64) = 1 + n0 % 64 from Z.wrap_iid (by omega) (by omega)]
        omega
      rw [em]
      have e64 : (2 : Int) ^ (6 : Int).toNat = 64 := by decide
      refine rxPoints (n := m) (k := 6) (by decide) (by decide) m1 (by omega) ?_
      conv => whnf
      have ln := PR.ptsR_len m 6
      rw [show ((m.toNat : Int) != m) = false by rw [bne_eq_false_iff_eq]; omega]
      conv => whnf
      try (refine AW_draw tok hP ?_; conv => whnf)
      rw [← ln]
      refine rxEmpty (rows := ptsR m 6) (own := true) (by omega) (PR.pts_fit m1 m2) (by decide) (by decide) rfl (fun e he => ?_)
      rw [e64, PR.pts_empty' m1 m2] at he
      conv => whnf
      rw [show Z.sub .i64 64 m = 64 - m from Z.wrap_iid (by omega) (by omega), show (e != 64 - m) = false by rw [he]; simp]
      conv => whnf
      obtain ⟨MM, hMM⟩ : ∃ MM, metR (PR.evenR 3 d.toNat) 81 (PR.evenR 3 d.toNat).length = MM := ⟨_, rfl⟩
      refine ALs.invD (ι := Int) tok 0 [false, false, false, false, false, false, false, false, false, false, false, false, false, false, false, false, false, false, true, true, true] (fun i => 0 ≤ i ∧ i ≤ m) (fun i => (m - i).toNat)
        (fun i => junks 18 ++ [.int .i64 m, .sl 1 0 (ptsR m 6).length none, .int .i64 i] ++ junks 116)
        (fun _ => [.row true 48 [.ik .i64] MM, .row true 49 [.ik .i64, .ik .i64] (ptsR m 6)]) (fun _ => ()) 0 ⟨by omega, by omega⟩ rfl ⟨[], by rw [← hMM]; rfl⟩ rfl (fun _ => Nat.zero_le _) (fun _ => rfl) ?_
      rintro i ⟨i0, i1⟩
      conv => whnf
      by_cases g4 : i < m
      · rw [decide_eq_true g4]
        conv => whnf
        refine ALs.invD (ι := Int) tok 0 [false, false, false, false, false, false, false, false, false, false, false, false, false, false, false, false, false, false, true, true, true, true] (fun q => 0 ≤ q ∧ q ≤ i) (fun q => (i - q).toNat)
          (fun q => junks 18 ++ [.int .i64 m, .sl 1 0 (ptsR m 6).length none, .int .i64 i, .int .i64 q] ++ junks 115)
          (fun _ => [.row true 48 [.ik .i64] MM, .row true 49 [.ik .i64, .ik .i64] (ptsR m 6)]) (fun _ => ()) 0 ⟨by omega, by omega⟩ rfl ⟨[], rfl⟩ rfl (fun _ => Nat.zero_le _) (fun _ => rfl) ?_
        rintro q ⟨q0, q1⟩
        conv => whnf
        by_cases g5 : q < i
        · rw [decide_eq_true g5]
          conv => whnf
          have un := PR.pts_unlike m1 m2 q0 g5 g4
          have gi := PR.ptsR_get (n := m) (k := 6) i0 g4
          have gq := PR.ptsR_get (n := m) (k := 6) q0 (show q < m by omega)
          try (refine AW_draw tok hP ?_; conv => whnf)
          refine ixI i0 (by omega) ?_
          conv => whnf
          refine andP (by omega) ?_
          conv => whnf
          refine ixI q0 (by omega) ?_
          conv => whnf
          refine andP (by omega) ?_
          conv => whnf
          rw [Nat.zero_add, Nat.zero_add, gi, gq]
          rw [show ((ptRow m 6 i).headD 0 == (ptRow m 6 q).headD 0) = false from beq_eq_false_iff_ne.2 un.1]
          conv => whnf
          refine ixI i0 (by omega) ?_
          conv => whnf
          refine andP (by omega) ?_
          conv => whnf
          refine ixI q0 (by omega) ?_
          conv => whnf
          refine andP (by omega) ?_
          conv => whnf
          try (refine And.intro (OkD.mk (by kernel_rfl)) ?_; conv => whnf)
          rw [Nat.zero_add, Nat.zero_add, gi, gq]
          rw [show ((ptRow m 6 i).tail.headD 0 == (ptRow m 6 q).tail.headD 0) = false from beq_eq_false_iff_ne.2 un.2]
          conv => whnf
          have eq : Z.add .i64 q 1 = q + 1 := Z.wrap_iid (by omega) (by omega)
          exact ⟨Z.add .i64 q 1, _, rfl, rfl, rfl, by show (i - Z.add .i64 q 1).toNat < (i - q).toNat; rw [eq]; omega, by show 0 ≤ Z.add .i64 q 1; rw [eq]; omega, by show Z.add .i64 q 1 ≤ i; rw [eq]; omega⟩
        · rw [decide_eq_false g5]
          conv => whnf
          refine AWs.go tok 0 ?_
          conv => whnf
          have ei : Z.add .i64 i 1 = i + 1 := Z.wrap_iid (by omega) (by omega)
          exact ⟨Z.add .i64 i 1, _, rfl, rfl, rfl, by show (m - Z.add .i64 i 1).toNat < (m - i).toNat; rw [ei]; omega, by show 0 ≤ Z.add .i64 i 1; rw [ei]; omega, by show Z.add .i64 i 1 ≤ m; rw [ei]; omega⟩
      · rw [decide_eq_false g4]
        conv => whnf
        refine AWs.go tok 0 ?_
        conv => whnf
        try (refine AW_draw tok hP ?_; conv => whnf)
        first | refine AQ_pure (fun sK QK hK => awake45 hK) ?_ | refine awake45 ?_
        conv => whnf
        try (refine And.intro (OkD.mk (by kernel_rfl)) ?_; conv => whnf)
