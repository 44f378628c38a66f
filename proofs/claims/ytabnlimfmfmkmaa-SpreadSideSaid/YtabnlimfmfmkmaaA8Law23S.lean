/- Part of the proof of a law of the seat: its functions, walked. No condition. -/
import Derived.Test.YtabnlimfmfmkmaaA8Law23
import Derived.Test.YtabnlimfmfmkmaaPUp
namespace Go.AW.A8
open Go Go.AW Go.Proofs
set_option maxRecDepth 100000
set_option linter.unusedVariables false
theorem lawSpreadSide (avs : List AV) (obs : List Ob) (ha : ArgC 0 [.flat (.ik .i64), .flat (.ik .i64), .flat (.ik .i64), .flat (.ik .i64), .flat (.ik .i64), .flat (.ik .u16)] avs obs) : AC Try.prog 8 (groupK [some 3, none, none, none] avs) obs fun r _ => r = .bool true := by
  cases ha with | int w1 ha => cases ha with | int w2 ha => cases ha with | int w3 ha =>
  cases ha with | int a1 ha => cases ha with | int a2 ha => cases ha with | int a3 ha =>
  cases ha
  rename_i x y z u h k
  replace w1 : I64 x := wf_i64 w1; replace w2 : I64 y := wf_i64 w2; replace w3 : I64 z := wf_i64 w3
  replace a1 : I64 u := wf_i64 a1; replace a2 : I64 h := wf_i64 a2; replace a3 := wf_u16 a3
  refine AC_body tok 3 Try.func8 rfl (by kernel_rfl) ?_
  conv => whnf
  refine refUnit w1 w2 w3 (fun o d1 d2 d3 hd ho => ?_)
  conv => whnf
  cases o
  · conv => whnf
    try (refine AW_draw tok hP ?_; conv => whnf)
    first | refine AQ_tri (fun sK QK hK => spreadHalf w1 w2 w3 a1 a2 hK) (fun p q r e => ?_) | refine spreadHalf w1 w2 w3 a1 a2 (fun p q r e => ?_)
    conv => whnf
    try (refine And.intro (OkD.mk (by kernel_rfl)) ?_; conv => whnf)
    rw [PQ.about_no ho.symm] at e
    simp only [Prod.mk.injEq] at e
    obtain ⟨rfl, rfl, rfl⟩ := e
    conv => whnf
    try (refine AW_draw tok hP ?_; conv => whnf)
    first | refine AQ_pure (fun sK QK hK => awake23 hK) ?_ | refine awake23 ?_
    conv => whnf
    try (refine And.intro (OkD.mk (by kernel_rfl)) ?_; conv => whnf)
  conv => whnf
  obtain ⟨c, ec, c0, c1⟩ : ∃ c, Z.rem .i64 (IntKind.i64.wrap k) 16385 = c ∧ 0 ≤ c ∧ c ≤ 16384 := by
    refine ⟨_, rfl, ?_⟩
    rw [show IntKind.i64.wrap k = k from Z.wrap_iid (by omega) (by omega)]
    unfold Z.rem
    rw [Int.tmod_eq_emod_of_nonneg a3.1]
    omega
  rw [ec]
  have nd := PB.near_u (PU.unit_near w1 w2 w3 hd)
  obtain ⟨ha, hb, hc, he⟩ : ∃ a b c, (a, b, c) = halfV u h := ⟨_, _, _, rfl⟩
  obtain ⟨p1, p2, p3, hp⟩ : ∃ a b c', (a, b, c') = upI (coneZ c u) h := ⟨_, _, _, rfl⟩
  have hn := PS.half_near he
  have hc0 : 0 ≤ hc := by
    have := congrArg (fun t => t.2.2) he
    replace this : hc = legsI (u % 65536 * 4096) := this
    have := PS.legs_le (q := u % 65536 * 4096) (by omega) (by omega); omega
  have hl := PQ.half_len he
  have pn := PS.up_near hp
  obtain ⟨pl, pc⟩ := PQ.cone_len ⟨c0, c1⟩ hp
  try (refine AW_draw tok hP ?_; conv => whnf)
  first | refine AQ_tri (fun sK QK hK => spreadHalf w1 w2 w3 a1 a2 hK) (fun s1 s2 s3 es => ?_) | refine spreadHalf w1 w2 w3 a1 a2 (fun s1 s2 s3 es => ?_)
  conv => whnf
  try (refine And.intro (OkD.mk (by kernel_rfl)) ?_; conv => whnf)
  try (refine AW_draw tok hP ?_; conv => whnf)
  first | refine AQ_tri (fun sK QK hK => spreadCone w1 w2 w3 a1 a2 hK) (fun t1 t2 t3 et => ?_) | refine spreadCone w1 w2 w3 a1 a2 (fun t1 t2 t3 et => ?_)
  conv => whnf
  try (refine And.intro (OkD.mk (by kernel_rfl)) ?_; conv => whnf)
  rw [← he] at es
  unfold coneI at et
  rw [if_pos ⟨c0, c1⟩, ← hp] at et
  obtain ⟨ds, ls, _⟩ := PQ.about_side w1 w2 w3 ho.symm hd hn.1 hn.2.1 ⟨hc0, hn.2.2.2⟩ hl es
  obtain ⟨dt, _, lt⟩ := PQ.about_side w1 w2 w3 ho.symm hd pn.1 pn.2.1 ⟨by omega, pn.2.2.2⟩ pl et
  conv => whnf
  have ns := PQ.dir_near ds; have nt := PQ.dir_near dt
  have bs := PQ.dir_len ds; have bt := PQ.dir_len dt
  refine refDot6 (fun f hf => ?_)
  conv => whnf
  unfold dotI at hf
  rw [if_pos ⟨ns, nd⟩] at hf
  rw [← hf] at ls
  rw [decide_eq_false (show ¬ f < -262144 by omega)]
  conv => whnf
  refine refDot6 (fun g hg => ?_)
  conv => whnf
  unfold dotI at hg
  rw [if_pos ⟨nt, nd⟩] at hg
  rw [← hg] at lt
  have e1 : Z.sub .i64 c 256 = c - 256 := Z.wrap_iid (by omega) (by omega)
  have e2 : Z.mul .i64 (Z.sub .i64 c 256) 16384 = (c - 256) * 16384 := by rw [e1]; exact Z.wrap_iid (by omega) (by omega)
  rw [decide_eq_false (show ¬ g < Z.mul .i64 (Z.sub .i64 c 256) 16384 by rw [e2]; omega)]
  conv => whnf
  refine refLen (fun l hl => ?_)
  conv => whnf
  rw [← hl] at bs
  rw [decide_eq_true (show l ≥ 16382 by omega)]
  conv => whnf
  refine refLen (fun l2 hl2 => ?_)
  conv => whnf
  obtain rfl := hl2.trans hl.symm
  rw [decide_eq_true (show l2 ≤ 16384 by omega)]
  conv => whnf
  refine refLen (fun k hk => ?_)
  conv => whnf
  rw [← hk] at bt
  rw [decide_eq_true (show k ≥ 16382 by omega)]
  conv => whnf
  refine refLen (fun k2 hk2 => ?_)
  conv => whnf
  obtain rfl := hk2.trans hk.symm
  rw [decide_eq_true (show k2 ≤ 16384 by omega)]
  conv => whnf
  try (refine AW_draw tok hP ?_; conv => whnf)
  first | refine AQ_pure (fun sK QK hK => awake23 hK) ?_ | refine awake23 ?_
  conv => whnf
  try (refine And.intro (OkD.mk (by kernel_rfl)) ?_; conv => whnf)
