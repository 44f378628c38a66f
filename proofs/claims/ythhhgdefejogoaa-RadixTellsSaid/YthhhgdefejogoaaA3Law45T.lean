/- Part of the proof of a law of the seat: its functions, walked. No condition. -/
import Derived.Test.YthhhgdefejogoaaA3Law45
namespace Go.AW.A3
open Go Go.AW Go.Proofs
set_option maxRecDepth 100000
set_option linter.unusedVariables false
theorem same45N {s : List Ob} {Q : AV → List Ob → Prop} (hq : Q (.bool true) s) : AC Try.prog 31 [.nils, .nils] s Q := by
  refine AC_pure rfl ?_
  refine AC_body tok 0 Try.func31 rfl (by kernel_rfl) ?_
  conv => whnf
  refine ALs.round tok 0 ?_
  conv => whnf
  refine AWs.go tok 0 ?_
  conv => whnf
  exact ⟨rfl, hq⟩
theorem same45 {rows : List (List Int)} {e : TypeId} {i j : Nat} (hij : i ≠ j) (hl : rows.length ≤ 1000000) {s : List Ob} (hs : s[i]? = some (.row true e [.ik .i64, .ik .i64] rows)) (hs2 : s[j]? = some (.row true e [.ik .i64, .ik .i64] rows)) {Q : AV → List Ob → Prop} (hq : Q (.bool true) s) : AC Try.prog 31 [.sl i 0 rows.length none, .sl j 0 rows.length none] s Q := by
  refine AC_read (args' := [.sl 0 0 rows.length none, .sl 1 0 rows.length none]) (L := [.row true e [.ik .i64, .ik .i64] rows, .row true e [.ik .i64, .ik .i64] rows]) [i, j] (by simp [hij]) rfl rfl (by rintro (_ | _ | i') j' ob h1 h2 <;> simp at h1 h2 <;> subst h1 h2 <;> assumption) ?_
  refine AC_body tok 0 Try.func31 rfl (by kernel_rfl) ?_
  conv => whnf
  rw [show ((rows.length : Int) != rows.length) = false by simp]
  conv => whnf
  refine ALs.invD (ι := Int) tok 0 [true, true, false, false, false, true] (fun k => 0 ≤ k ∧ k ≤ rows.length) (fun k => ((rows.length : Int) - k).toNat)
    (fun k => [.sl 0 0 rows.length none, .sl 1 0 rows.length none, .junk, .junk, .junk, .int .i64 k] ++ junks 20)
    (fun _ => [.row true e [.ik .i64, .ik .i64] rows, .row true e [.ik .i64, .ik .i64] rows]) (fun _ => ()) 0 ⟨by omega, by omega⟩ rfl ⟨[], rfl⟩ rfl (fun _ => Nat.le_refl 2) (fun _ => rfl) ?_
  rintro k ⟨k0, k1⟩
  conv => whnf
  by_cases c : k < rows.length
  · rw [decide_eq_true c]
    conv => whnf
    try (refine AW_draw tok hP ?_; conv => whnf)
    refine ixI k0 (by omega) ?_
    conv => whnf
    refine andP (by omega) ?_
    conv => whnf
    refine ixI k0 (by omega) ?_
    conv => whnf
    refine andP (by omega) ?_
    conv => whnf
    refine ⟨⟨by kernel_rfl⟩, ?_⟩
    conv => whnf
    generalize rows.getD (0 + k.toNat) [] = r
    rw [beq_self_eq_true (r.headD 0), beq_self_eq_true (r.tail.headD 0)]
    conv => whnf
    have ei : Z.add .i64 k 1 = k + 1 := Z.wrap_iid (by omega) (by omega)
    exact ⟨Z.add .i64 k 1, _, rfl, rfl, rfl, by show (rows.length - Z.add .i64 k 1).toNat < (rows.length - k).toNat; rw [ei]; omega, by show 0 ≤ Z.add .i64 k 1; rw [ei]; omega, by show Z.add .i64 k 1 ≤ rows.length; rw [ei]; omega⟩
  · rw [decide_eq_false c]
    conv => whnf
    refine AWs.go tok 0 ?_
    conv => whnf
    exact ⟨rfl, rfl, hq⟩
theorem same45' {rows : List (List Int)} {n : Nat} (hn : rows.length = n) {e : TypeId} {i j : Nat} (hij : i ≠ j) (hl : n ≤ 1000000) {s : List Ob} (hs : s[i]? = some (.row true e [.ik .i64, .ik .i64] rows)) (hs2 : s[j]? = some (.row true e [.ik .i64, .ik .i64] rows)) {Q : AV → List Ob → Prop} (hq : Q (.bool true) s) : AC Try.prog 31 [.sl i 0 n none, .sl j 0 n none] s Q := by
  subst hn; exact same45 hij hl hs hs2 hq
theorem rrEmpty0 {k : Int} (hk : k < 0 ∨ k > 12) {v : AV} {s : List Ob} {Q : AV → List Ob → Prop} (hq : Q (.int .i64 0) s) : AC Try.prog 35 [v, .int .i64 k] s Q := by
  refine AC_body tok 0 Try.func35 rfl (by kernel_rfl) ?_
  conv => whnf
  refine ALs.round tok 0 ?_
  conv => whnf
  by_cases g1 : k ≥ 0
  · rw [decide_eq_true g1]
    conv => whnf
    rw [decide_eq_false (show ¬ k ≤ 12 by omega)]
    conv => whnf
    refine AWs.go tok 0 ?_
    conv => whnf
    exact hq
  · rw [decide_eq_false g1]
    conv => whnf
    refine AWs.go tok 0 ?_
    conv => whnf
    exact hq
theorem rxEmpty0 {k : Int} (hk : k < 0 ∨ k > 12) {v : AV} {s : List Ob} {Q : AV → List Ob → Prop} (hq : Q (.int .i64 0) s) : AC Try.prog 34 [v, .int .i64 k] s Q := by
  refine AC_body tok 0 Try.func34 rfl (by kernel_rfl) ?_
  conv => whnf
  by_cases g1 : k < 0
  · rw [decide_eq_true g1]
    conv => whnf
    exact hq
  · rw [decide_eq_false g1]
    conv => whnf
    rw [decide_eq_true (show k > 12 by omega)]
    conv => whnf
    exact hq
theorem rrEmpty {rows : List (List Int)} {e : TypeId} {own : Bool} (hl : rows.length ≤ 1000) (hfit : Fit2 rows) {k : Int} (h0 : 0 ≤ k) (h1 : k ≤ 12) {i : Nat} {s : List Ob} (hs : s[i]? = some (.row own e [.ik .i64, .ik .i64] rows)) {Q : AV → List Ob → Prop} (hq : ∀ v, v = emptyI rows (2 ^ k.toNat) → Q (.int .i64 v) s) : AC Try.prog 35 [.sl i 0 rows.length none, .int .i64 k] s Q := by
  cases own
  all_goals
    refine AC_read (args' := [.sl 0 0 rows.length none, .int .i64 k]) (L := [.row _ e [.ik .i64, .ik .i64] rows]) [i] (by simp) rfl rfl (by rintro (_ | i') j ob h1 h2 <;> simp at h1 h2; subst h1 h2; exact hs) ?_
    refine AC_body tok 0 Try.func35 rfl (by kernel_rfl) ?_
    conv => whnf
    have p12 : (2 : Int) ^ k.toNat ≤ 2 ^ 12 := PN.pow_le (by omega)
    have p0 := PN.pow_pos k.toNat
    have es : Z.shl .i64 1 k = 2 ^ k.toNat := by
      rw [PN.shl_one (by omega) (by show k.toNat ≤ 64; omega)]
      exact Z.wrap_iid (by omega) (by omega)
    obtain ⟨m, hm⟩ : ∃ m, (2 : Int) ^ k.toNat = m := ⟨_, rfl⟩
    rw [hm] at hq p12 p0 es
    refine ALs.invD (ι := Int) tok 0 [true, true, false, false, false, true, true] (fun c => 0 ≤ c ∧ c ≤ m) (fun c => (m - c).toNat)
      (fun c => [.sl 0 0 rows.length none, .int .i64 k, .junk, .junk, .junk, .int .i64 (PR.emptyTo rows c), .int .i64 c] ++ junks 37)
      (fun _ => [.row _ e [.ik .i64, .ik .i64] rows]) (fun _ => ()) 0 ⟨by omega, by omega⟩ rfl ⟨[], rfl⟩ rfl (fun _ => Nat.le_refl 1) (fun _ => rfl) ?_
    rintro c ⟨c0, c1⟩
    conv => whnf
    rw [decide_eq_true (show k ≥ 0 by omega)]
    conv => whnf
    rw [decide_eq_true (show k ≤ 12 by omega)]
    conv => whnf
    refine andP (by omega) ?_
    conv => whnf
    rw [es]
    by_cases g : c < m
    · rw [decide_eq_true g]
      conv => whnf
      refine ALs.invD (ι := Int) tok 0 [true, true, false, false, false, true, true, true, true] (fun j => 0 ≤ j ∧ j ≤ rows.length) (fun j => ((rows.length : Int) - j).toNat)
        (fun j => [.sl 0 0 rows.length none, .int .i64 k, .junk, .junk, .junk, .int .i64 (PR.emptyTo rows c), .int .i64 c, .bool (PR.isTo rows j.toNat c), .int .i64 j] ++ junks 35)
        (fun _ => [.row _ e [.ik .i64, .ik .i64] rows]) (fun _ => ()) 0 ⟨by omega, by omega⟩ (by rw [show (0 : Int).toNat = 0 from rfl, PR.isTo_0]; rfl) ⟨[], rfl⟩ rfl (fun _ => Nat.le_refl 1) (fun _ => rfl) ?_
      rintro j ⟨j0, j1⟩
      conv => whnf
      by_cases g2 : j < rows.length
      · rw [decide_eq_true g2]
        conv => whnf
        have ej : Z.add .i64 j 1 = j + 1 := Z.wrap_iid (by omega) (by omega)
        have et : (j + 1).toNat = j.toNat + 1 := by omega
        have nx := PR.isTo_next rows (j := j.toNat) (by omega) c
        have fn : (rows.length - Z.add .i64 j 1).toNat < (rows.length - j).toNat ∧ 0 ≤ Z.add .i64 j 1 ∧ Z.add .i64 j 1 ≤ rows.length := by rw [ej]; omega
        cases hb : PR.isTo rows j.toNat c
        · conv => whnf
          rw [hb] at nx
          refine ixI j0 g2 ?_
          conv => whnf
          refine rowI j0 g2 ?_
          conv => whnf
          refine ⟨Z.add .i64 j 1, [], ?_, rfl, rfl, fn⟩
          rw [ej, et, nx, ← ej, Nat.zero_add]; rfl
        · conv => whnf
          rw [hb] at nx
          exact ⟨Z.add .i64 j 1, _, by rw [ej, et, nx, ← ej]; rfl, rfl, rfl, fn⟩
      · rw [decide_eq_false g2]
        conv => whnf
        refine AWs.go tok 0 ?_
        conv => whnf
        have jl : j.toNat = rows.length := by omega
        rw [jl]
        have en := PR.emptyTo_next rows c0
        have eb := PR.emptyTo_b rows c
        have ec : Z.add .i64 c 1 = c + 1 := Z.wrap_iid (by omega) (by omega)
        have ea : Z.add .i64 (PR.emptyTo rows c) 1 = PR.emptyTo rows c + 1 := Z.wrap_iid (by omega) (by omega)
        have fn : (m - Z.add .i64 c 1).toNat < (m - c).toNat ∧ 0 ≤ Z.add .i64 c 1 ∧ Z.add .i64 c 1 ≤ m := by rw [ec]; omega
        cases hb : PR.isTo rows rows.length c
        · conv => whnf
          refine AWs.go tok 0 ?_
          conv => whnf
          have z : cntR rows rows.length c = 0 := by unfold PR.isTo at hb; simpa using hb
          rw [if_pos z] at en
          exact ⟨Z.add .i64 c 1, _, by rw [ec, en, ← ea, ← ec]; rfl, rfl, rfl, fn⟩
        · conv => whnf
          refine AWs.go tok 0 ?_
          conv => whnf
          have z : ¬ cntR rows rows.length c = 0 := by unfold PR.isTo at hb; simpa using hb
          rw [if_neg z, Int.add_zero] at en
          exact ⟨Z.add .i64 c 1, _, by rw [ec, en, ← ec]; rfl, rfl, rfl, fn⟩
    · rw [decide_eq_false g]
      conv => whnf
      refine AWs.go tok 0 ?_
      conv => whnf
      obtain rfl : c = m := by omega
      exact ⟨rfl, rfl, hq _ rfl⟩
theorem rrEmptyN {k : Int} (h0 : 0 ≤ k) (h1 : k ≤ 12) {v : AV} {s : List Ob} {Q : AV → List Ob → Prop} (hv : v = .nils ∨ v = .sl0) (hq : ∀ u, u = 2 ^ k.toNat → Q (.int .i64 u) s) : AC Try.prog 35 [v, .int .i64 k] s Q := by
  have p12 : (2 : Int) ^ k.toNat ≤ 2 ^ 12 := PN.pow_le (by omega)
  have p0 := PN.pow_pos k.toNat
  have es : Z.shl .i64 1 k = 2 ^ k.toNat := by
    rw [PN.shl_one (by omega) (by show k.toNat ≤ 64; omega)]
    exact Z.wrap_iid (by omega) (by omega)
  obtain ⟨m, hm⟩ : ∃ m, (2 : Int) ^ k.toNat = m := ⟨_, rfl⟩
  rw [hm] at hq p12 p0 es
  rcases hv with rfl | rfl
  · refine AC_pure rfl ?_
    refine AC_body tok 0 Try.func35 rfl (by kernel_rfl) ?_
    conv => whnf
    refine ALs.invD (ι := Int) tok 0 [true, true, false, false, false, true, true] (fun c => 0 ≤ c ∧ c ≤ m) (fun c => (m - c).toNat)
      (fun c => [.nils, .int .i64 k, .junk, .junk, .junk, .int .i64 c, .int .i64 c] ++ junks 37)
      (fun _ => []) (fun _ => ()) 0 ⟨by omega, by omega⟩ rfl ⟨[], rfl⟩ rfl (fun _ => Nat.zero_le _) (fun _ => rfl) ?_
    rintro c ⟨c0, c1⟩
    conv => whnf
    rw [decide_eq_true (show k ≥ 0 by omega)]
    conv => whnf
    rw [decide_eq_true (show k ≤ 12 by omega)]
    conv => whnf
    refine andP (by omega) ?_
    conv => whnf
    rw [es]
    by_cases g : c < m
    · rw [decide_eq_true g]
      conv => whnf
      refine ALs.round tok 0 ?_
      conv => whnf
      refine AWs.go tok 0 ?_
      conv => whnf
      refine AWs.go tok 0 ?_
      conv => whnf
      have ec : Z.add .i64 c 1 = c + 1 := Z.wrap_iid (by omega) (by omega)
      exact ⟨Z.add .i64 c 1, _, rfl, rfl, rfl, by show (m - Z.add .i64 c 1).toNat < (m - c).toNat; rw [ec]; omega, by show 0 ≤ Z.add .i64 c 1; rw [ec]; omega, by show Z.add .i64 c 1 ≤ m; rw [ec]; omega⟩
    · rw [decide_eq_false g]
      conv => whnf
      refine AWs.go tok 0 ?_
      conv => whnf
      obtain rfl : c = m := by omega
      exact ⟨rfl, hq _ rfl⟩
  · refine AC_pure rfl ?_
    refine AC_body tok 0 Try.func35 rfl (by kernel_rfl) ?_
    conv => whnf
    refine ALs.invD (ι := Int) tok 0 [true, true, false, false, false, true, true] (fun c => 0 ≤ c ∧ c ≤ m) (fun c => (m - c).toNat)
      (fun c => [.sl0, .int .i64 k, .junk, .junk, .junk, .int .i64 c, .int .i64 c] ++ junks 37)
      (fun _ => []) (fun _ => ()) 0 ⟨by omega, by omega⟩ rfl ⟨[], rfl⟩ rfl (fun _ => Nat.zero_le _) (fun _ => rfl) ?_
    rintro c ⟨c0, c1⟩
    conv => whnf
    rw [decide_eq_true (show k ≥ 0 by omega)]
    conv => whnf
    rw [decide_eq_true (show k ≤ 12 by omega)]
    conv => whnf
    refine andP (by omega) ?_
    conv => whnf
    rw [es]
    by_cases g : c < m
    · rw [decide_eq_true g]
      conv => whnf
      refine ALs.round tok 0 ?_
      conv => whnf
      refine AWs.go tok 0 ?_
      conv => whnf
      refine AWs.go tok 0 ?_
      conv => whnf
      have ec : Z.add .i64 c 1 = c + 1 := Z.wrap_iid (by omega) (by omega)
      exact ⟨Z.add .i64 c 1, _, rfl, rfl, rfl, by show (m - Z.add .i64 c 1).toNat < (m - c).toNat; rw [ec]; omega, by show 0 ≤ Z.add .i64 c 1; rw [ec]; omega, by show Z.add .i64 c 1 ≤ m; rw [ec]; omega⟩
    · rw [decide_eq_false g]
      conv => whnf
      refine AWs.go tok 0 ?_
      conv => whnf
      obtain rfl : c = m := by omega
      exact ⟨rfl, hq _ rfl⟩
theorem lawRadixTells (avs : List AV) (obs : List Ob) (ha : ArgC 0 [.flat (.ik .i64), .flat (.ik .i64), .flat (.ik .i64), .flat (.ik .i64), .sl 49 [.ik .i64, .ik .i64]] avs obs) : AC Try.prog 6 (groupK [none, none, none, none, none] avs) obs fun r _ => r = .bool true := by
  cases ha with | int w1 ha => cases ha with | int w2 ha => cases ha with | int w3 ha => cases ha with | int w4 ha =>
  rename_i n b k m rest
  replace w1 : I64 n := wf_i64 w1
  replace w2 : I64 b := wf_i64 w2
  replace w3 : I64 k := wf_i64 w3
  replace w4 : I64 m := wf_i64 w4
  cases ha with
  | nils ha =>
    cases ha
    refine AC_body tok 0 Try.func6 rfl (by kernel_rfl) ?_
    conv => whnf
    by_cases g : k > 8 ∧ k ≤ 12
    · rw [decide_eq_true g.1]
      conv => whnf
      rw [decide_eq_true g.2]
      conv => whnf
      exact awake45 rfl
    rcases Int.lt_or_le 8 k with g8 | g8
    case' inl =>
      rw [decide_eq_true (show k > 8 from g8)]
      conv => whnf
      rw [decide_eq_false (show ¬ k ≤ 12 by omega)]
      conv => whnf
    case' inr =>
      rw [decide_eq_false (show ¬ k > 8 by omega)]
      conv => whnf
    all_goals
      try (refine AW_draw tok hP ?_; conv => whnf)
      first | refine AQ_int (fun sK QK hK => rxPowers w2 w3 hK) (fun p1 h1 => ?_) | refine rxPowers w2 w3 (fun p1 h1 => ?_)
      conv => whnf
      try (refine And.intro (OkD.mk (by kernel_rfl)) ?_; conv => whnf)
      try (refine AW_draw tok hP ?_; conv => whnf)
      first | refine AQ_int (fun sK QK hK => rrPowers w2 w3 hK) (fun p2 h2 => ?_) | refine rrPowers w2 w3 (fun p2 h2 => ?_)
      conv => whnf
      try (refine And.intro (OkD.mk (by kernel_rfl)) ?_; conv => whnf)
      obtain rfl : p2 = p1 := by rw [h1, h2]
      rw [beq_self_eq_true p2]
      conv => whnf
      try (refine AW_draw tok hP ?_; conv => whnf)
      first | refine AQ_int (fun sK QK hK => rxTurn w1 w2 w3 hK) (fun t1 h3 => ?_) | refine rxTurn w1 w2 w3 (fun t1 h3 => ?_)
      conv => whnf
      try (refine And.intro (OkD.mk (by kernel_rfl)) ?_; conv => whnf)
      try (refine AW_draw tok hP ?_; conv => whnf)
      first | refine AQ_int (fun sK QK hK => rrTurn b w2 k.toNat k n rfl w3 w1 hK) (fun t2 h4 => ?_) | refine rrTurn b w2 k.toNat k n rfl w3 w1 (fun t2 h4 => ?_)
      conv => whnf
      try (refine And.intro (OkD.mk (by kernel_rfl)) ?_; conv => whnf)
      obtain rfl : t2 = t1 := by rw [h3, h4]
      rw [beq_self_eq_true t2]
      conv => whnf
      by_cases gp : 0 ≤ k ∧ k ≤ 12 ∧ 1 ≤ m ∧ m ≤ 2 ^ k.toNat
      case' pos =>
        refine rxPoints gp.1 gp.2.1 gp.2.2.1 gp.2.2.2 ?_
        conv => whnf
        refine rrPoints gp.1 gp.2.1 gp.2.2.1 gp.2.2.2 ?_
        conv => whnf
        have p12 : (2 : Int) ^ k.toNat ≤ 2 ^ 12 := PN.pow_le (by omega)
        refine same45' (rows := ptsR m k) (i := 1) (j := 2) (PR.ptsR_len m k) (by decide) (by omega) rfl rfl ?_
        conv => whnf
      case' neg =>
        refine rxPoints0 (by omega) ?_
        conv => whnf
        refine rrPoints0 w3 (by omega) ?_
        conv => whnf
        try (refine AW_draw tok hP ?_; conv => whnf)
        first | refine AQ_pure (fun sK QK hK => same45N hK) ?_ | refine same45N ?_
        conv => whnf
        try (refine And.intro (OkD.mk (by kernel_rfl)) ?_; conv => whnf)
      all_goals
        by_cases ge : 0 ≤ k ∧ k ≤ 12
        · refine rxEmptyN ge.1 ge.2 (.inl rfl) (fun e1 he1 => ?_)
          conv => whnf
          refine rrEmptyN ge.1 ge.2 (.inl rfl) (fun e2 he2 => ?_)
          conv => whnf
          obtain rfl : e2 = e1 := by rw [he1, he2]
          rw [beq_self_eq_true e2]
          conv => whnf
          try (refine AW_draw tok hP ?_; conv => whnf)
          first | refine AQ_pure (fun sK QK hK => awake45 hK) ?_ | refine awake45 ?_
          conv => whnf
          try (refine And.intro (OkD.mk (by kernel_rfl)) ?_; conv => whnf)
        · refine rxEmpty0 (by omega) ?_
          conv => whnf
          refine rrEmpty0 (by omega) ?_
          conv => whnf
          try (refine AW_draw tok hP ?_; conv => whnf)
          first | refine AQ_pure (fun sK QK hK => awake45 hK) ?_ | refine awake45 ?_
          conv => whnf
          try (refine And.intro (OkD.mk (by kernel_rfl)) ?_; conv => whnf)
  | sl0 ha =>
    cases ha
    refine AC_body tok 0 Try.func6 rfl (by kernel_rfl) ?_
    conv => whnf
    by_cases g : k > 8 ∧ k ≤ 12
    · rw [decide_eq_true g.1]
      conv => whnf
      rw [decide_eq_true g.2]
      conv => whnf
      exact awake45 rfl
    rcases Int.lt_or_le 8 k with g8 | g8
    case' inl =>
      rw [decide_eq_true (show k > 8 from g8)]
      conv => whnf
      rw [decide_eq_false (show ¬ k ≤ 12 by omega)]
      conv => whnf
    case' inr =>
      rw [decide_eq_false (show ¬ k > 8 by omega)]
      conv => whnf
    all_goals
      try (refine AW_draw tok hP ?_; conv => whnf)
      first | refine AQ_int (fun sK QK hK => rxPowers w2 w3 hK) (fun p1 h1 => ?_) | refine rxPowers w2 w3 (fun p1 h1 => ?_)
      conv => whnf
      try (refine And.intro (OkD.mk (by kernel_rfl)) ?_; conv => whnf)
      try (refine AW_draw tok hP ?_; conv => whnf)
      first | refine AQ_int (fun sK QK hK => rrPowers w2 w3 hK) (fun p2 h2 => ?_) | refine rrPowers w2 w3 (fun p2 h2 => ?_)
      conv => whnf
      try (refine And.intro (OkD.mk (by kernel_rfl)) ?_; conv => whnf)
      obtain rfl : p2 = p1 := by rw [h1, h2]
      rw [beq_self_eq_true p2]
      conv => whnf
      try (refine AW_draw tok hP ?_; conv => whnf)
      first | refine AQ_int (fun sK QK hK => rxTurn w1 w2 w3 hK) (fun t1 h3 => ?_) | refine rxTurn w1 w2 w3 (fun t1 h3 => ?_)
      conv => whnf
      try (refine And.intro (OkD.mk (by kernel_rfl)) ?_; conv => whnf)
      try (refine AW_draw tok hP ?_; conv => whnf)
      first | refine AQ_int (fun sK QK hK => rrTurn b w2 k.toNat k n rfl w3 w1 hK) (fun t2 h4 => ?_) | refine rrTurn b w2 k.toNat k n rfl w3 w1 (fun t2 h4 => ?_)
      conv => whnf
      try (refine And.intro (OkD.mk (by kernel_rfl)) ?_; conv => whnf)
      obtain rfl : t2 = t1 := by rw [h3, h4]
      rw [beq_self_eq_true t2]
      conv => whnf
      by_cases gp : 0 ≤ k ∧ k ≤ 12 ∧ 1 ≤ m ∧ m ≤ 2 ^ k.toNat
      case' pos =>
        refine rxPoints gp.1 gp.2.1 gp.2.2.1 gp.2.2.2 ?_
        conv => whnf
        refine rrPoints gp.1 gp.2.1 gp.2.2.1 gp.2.2.2 ?_
        conv => whnf
        have p12 : (2 : Int) ^ k.toNat ≤ 2 ^ 12 := PN.pow_le (by omega)
        refine same45' (rows := ptsR m k) (i := 1) (j := 2) (PR.ptsR_len m k) (by decide) (by omega) rfl rfl ?_
        conv => whnf
      case' neg =>
        refine rxPoints0 (by omega) ?_
        conv => whnf
        refine rrPoints0 w3 (by omega) ?_
        conv => whnf
        try (refine AW_draw tok hP ?_; conv => whnf)
        first | refine AQ_pure (fun sK QK hK => same45N hK) ?_ | refine same45N ?_
        conv => whnf
        try (refine And.intro (OkD.mk (by kernel_rfl)) ?_; conv => whnf)
      all_goals
        by_cases ge : 0 ≤ k ∧ k ≤ 12
        · refine rxEmptyN ge.1 ge.2 (.inr rfl) (fun e1 he1 => ?_)
          conv => whnf
          refine rrEmptyN ge.1 ge.2 (.inr rfl) (fun e2 he2 => ?_)
          conv => whnf
          obtain rfl : e2 = e1 := by rw [he1, he2]
          rw [beq_self_eq_true e2]
          conv => whnf
          try (refine AW_draw tok hP ?_; conv => whnf)
          first | refine AQ_pure (fun sK QK hK => awake45 hK) ?_ | refine awake45 ?_
          conv => whnf
          try (refine And.intro (OkD.mk (by kernel_rfl)) ?_; conv => whnf)
        · refine rxEmpty0 (by omega) ?_
          conv => whnf
          refine rrEmpty0 (by omega) ?_
          conv => whnf
          try (refine AW_draw tok hP ?_; conv => whnf)
          first | refine AQ_pure (fun sK QK hK => awake45 hK) ?_ | refine awake45 ?_
          conv => whnf
          try (refine And.intro (OkD.mk (by kernel_rfl)) ?_; conv => whnf)
  | sl hl hf ha =>
    cases ha
    rename_i rows
    have ft := fit2_of hf
    refine AC_body tok 0 Try.func6 rfl (by kernel_rfl) ?_
    conv => whnf
    by_cases g64 : (rows.length : Int) > 64
    · rw [decide_eq_true g64]
      conv => whnf
      exact awake45 rfl
    rw [decide_eq_false g64]
    conv => whnf
    by_cases g : k > 8 ∧ k ≤ 12
    · rw [decide_eq_true g.1]
      conv => whnf
      rw [decide_eq_true g.2]
      conv => whnf
      exact awake45 rfl
    rcases Int.lt_or_le 8 k with g8 | g8
    case' inl =>
      rw [decide_eq_true (show k > 8 from g8)]
      conv => whnf
      rw [decide_eq_false (show ¬ k ≤ 12 by omega)]
      conv => whnf
    case' inr =>
      rw [decide_eq_false (show ¬ k > 8 by omega)]
      conv => whnf
    all_goals
      try (refine AW_draw tok hP ?_; conv => whnf)
      first | refine AQ_int (fun sK QK hK => rxPowers w2 w3 hK) (fun p1 h1 => ?_) | refine rxPowers w2 w3 (fun p1 h1 => ?_)
      conv => whnf
      try (refine And.intro (OkD.mk (by kernel_rfl)) ?_; conv => whnf)
      try (refine AW_draw tok hP ?_; conv => whnf)
      first | refine AQ_int (fun sK QK hK => rrPowers w2 w3 hK) (fun p2 h2 => ?_) | refine rrPowers w2 w3 (fun p2 h2 => ?_)
      conv => whnf
      try (refine And.intro (OkD.mk (by kernel_rfl)) ?_; conv => whnf)
      obtain rfl : p2 = p1 := by rw [h1, h2]
      rw [beq_self_eq_true p2]
      conv => whnf
      try (refine AW_draw tok hP ?_; conv => whnf)
      first | refine AQ_int (fun sK QK hK => rxTurn w1 w2 w3 hK) (fun t1 h3 => ?_) | refine rxTurn w1 w2 w3 (fun t1 h3 => ?_)
      conv => whnf
      try (refine And.intro (OkD.mk (by kernel_rfl)) ?_; conv => whnf)
      try (refine AW_draw tok hP ?_; conv => whnf)
      first | refine AQ_int (fun sK QK hK => rrTurn b w2 k.toNat k n rfl w3 w1 hK) (fun t2 h4 => ?_) | refine rrTurn b w2 k.toNat k n rfl w3 w1 (fun t2 h4 => ?_)
      conv => whnf
      try (refine And.intro (OkD.mk (by kernel_rfl)) ?_; conv => whnf)
      obtain rfl : t2 = t1 := by rw [h3, h4]
      rw [beq_self_eq_true t2]
      conv => whnf
      by_cases gp : 0 ≤ k ∧ k ≤ 12 ∧ 1 ≤ m ∧ m ≤ 2 ^ k.toNat
      case' pos =>
        refine rxPoints gp.1 gp.2.1 gp.2.2.1 gp.2.2.2 ?_
        conv => whnf
        refine rrPoints gp.1 gp.2.1 gp.2.2.1 gp.2.2.2 ?_
        conv => whnf
        have p12 : (2 : Int) ^ k.toNat ≤ 2 ^ 12 := PN.pow_le (by omega)
        refine same45' (rows := ptsR m k) (i := 1) (j := 2) (PR.ptsR_len m k) (by decide) (by omega) rfl rfl ?_
        conv => whnf
      case' neg =>
        refine rxPoints0 (by omega) ?_
        conv => whnf
        refine rrPoints0 w3 (by omega) ?_
        conv => whnf
        try (refine AW_draw tok hP ?_; conv => whnf)
        first | refine AQ_pure (fun sK QK hK => same45N hK) ?_ | refine same45N ?_
        conv => whnf
        try (refine And.intro (OkD.mk (by kernel_rfl)) ?_; conv => whnf)
      all_goals
        by_cases ge : 0 ≤ k ∧ k ≤ 12
        · refine rxEmpty (by omega) ft ge.1 ge.2 rfl (fun e1 he1 => ?_)
          conv => whnf
          refine rrEmpty (by omega) ft ge.1 ge.2 rfl (fun e2 he2 => ?_)
          conv => whnf
          obtain rfl : e2 = e1 := by rw [he1, he2]
          rw [beq_self_eq_true e2]
          conv => whnf
          try (refine AW_draw tok hP ?_; conv => whnf)
          first | refine AQ_pure (fun sK QK hK => awake45 hK) ?_ | refine awake45 ?_
          conv => whnf
          try (refine And.intro (OkD.mk (by kernel_rfl)) ?_; conv => whnf)
        · refine rxEmpty0 (by omega) ?_
          conv => whnf
          refine rrEmpty0 (by omega) ?_
          conv => whnf
          try (refine AW_draw tok hP ?_; conv => whnf)
          first | refine AQ_pure (fun sK QK hK => awake45 hK) ?_ | refine awake45 ?_
          conv => whnf
          try (refine And.intro (OkD.mk (by kernel_rfl)) ?_; conv => whnf)
