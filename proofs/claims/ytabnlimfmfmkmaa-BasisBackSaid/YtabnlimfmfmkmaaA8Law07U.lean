/- Part of the proof of a law of the seat: its functions, walked. No condition. -/
import Derived.Test.YtabnlimfmfmkmaaA8Law07
import Derived.Test.YtabnlimfmfmkmaaPUp
namespace Go.AW.A8
open Go Go.AW Go.Proofs
set_option maxRecDepth 100000
set_option linter.unusedVariables false
theorem lawLow {n m : Int} (hm : 0 ≤ m) (hm' : m < 9223372036854775808) (h1 : -m ≤ n) (h2 : n ≤ m) {s : List Ob} {Q : AV → List Ob → Prop} (hq : Q (.bool true) s) : AC Try.prog 13 [.int .i64 n, .int .i64 m] s Q := by
  refine AC_pure rfl ?_
  refine AC_body tok 3 Try.func13 rfl (by kernel_rfl) ?_
  conv => whnf
  have e : Z.neg .i64 m = -m := by rw [show Z.neg .i64 m = 0 - m from Z.wrap_iid (by omega) (by omega)]; omega
  rw [decide_eq_true h2]
  conv => whnf
  exact ⟨rfl, by rw [decide_eq_true (show n ≥ Z.neg .i64 m by rw [e]; omega)]; exact hq⟩
theorem lawBasisUpright (avs : List AV) (obs : List Ob) (ha : ArgC 0 [.flat (.ik .i64), .flat (.ik .i64), .flat (.ik .i64)] avs obs) : AC Try.prog 3 (groupK [some 3] avs) obs fun r _ => r = .bool true := by
  cases ha with | int w1 ha => cases ha with | int w2 ha => cases ha with | int w3 ha =>
  cases ha
  rename_i x0 y0 z0
  replace w1 := wf_i64 w1; replace w2 := wf_i64 w2; replace w3 := wf_i64 w3
  refine AC_body tok 3 Try.func3 rfl (by kernel_rfl) ?_
  conv => whnf
  have q4 : ∀ t : Int, (-9223372036854775808 ≤ t ∧ t < 9223372036854775808) → ∃ k, Z.quo .i64 t 4 = k ∧ -2305843009213693952 ≤ k ∧ k ≤ 2305843009213693952 := by
    intro t ht
    refine ⟨_, rfl, ?_⟩
    rw [quo_i (by omega) (by omega) (by omega)]
    rcases Int.le_total 0 t with q | q
    · rw [Int.tdiv_eq_ediv_of_nonneg q]; omega
    · obtain ⟨u, rfl⟩ : ∃ u, t = -u := ⟨-t, by omega⟩
      rw [Int.neg_tdiv, Int.tdiv_eq_ediv_of_nonneg (by omega)]; omega
  obtain ⟨x, ex, hx⟩ := q4 x0 w1
  obtain ⟨y, ey, hy⟩ := q4 y0 w2
  obtain ⟨z, ez, hz⟩ := q4 z0 w3
  rw [ex, ey, ez]
  have ix : I64 x := by unfold I64; omega
  have iy : I64 y := by unfold I64; omega
  have iz : I64 z := by unfold I64; omega
  refine basisOf ix iy iz (fun o u1 u2 u3 v1 v2 v3 n1 n2 n3 h ho => ?_)
  conv => whnf
  by_cases g : x = 0 ∧ y = 0 ∧ z = 0
  · obtain ⟨rfl, rfl, rfl⟩ := g
    obtain rfl : o = false := by rw [ho]; decide
    rw [PB.of_no (by decide)] at h
    simp only [Prod.mk.injEq] at h
    obtain ⟨⟨rfl, rfl, rfl⟩, ⟨rfl, rfl, rfl⟩, rfl, rfl, rfl⟩ := h
    conv => whnf
    try (refine AW_draw tok hP ?_; conv => whnf)
    first | refine AQ_pure (fun sK QK hK => awake07 hK) ?_ | refine awake07 ?_
    conv => whnf
    try (refine And.intro (OkD.mk (by kernel_rfl)) ?_; conv => whnf)
  have hB : (x == 0 && (y == 0 && (z == 0 && true))) = false := by
    rw [Bool.eq_false_iff]; intro h; simp at h; exact g h
  rw [hB]
  conv => whnf
  have ok : okI x y z = true := PQ.ok_of (by rw [PU.most_A_le]; omega) g
  obtain rfl : o = true := by rw [ho, ok]
  have bas := PQ.of_bas ix iy iz ok h
  have hn : (n1, n2, n3) = unitI x y z := (PB.of_parts h).elim fun _ h => h.elim fun _ h => h.elim fun _ h => h.1
  refine refUnit ix iy iz (fun o' d1 d2 d3 hd _ => ?_)
  conv => whnf
  rw [← hn] at hd
  simp only [Prod.mk.injEq] at hd
  obtain ⟨rfl, rfl, rfl⟩ := hd
  conv => whnf
  rw [beq3]
  conv => whnf
  refine refLen (fun l hl => ?_)
  conv => whnf
  have bl := PQ.dir_len bas.u
  rw [← hl] at bl
  rw [decide_eq_false (show ¬ l < 16382 by omega)]
  conv => whnf
  refine refLen (fun l2 hl2 => ?_)
  conv => whnf
  obtain rfl := hl2.trans hl.symm
  rw [decide_eq_false (show ¬ l2 > 16384 by omega)]
  conv => whnf
  refine refLen (fun k hk => ?_)
  conv => whnf
  have bk := PQ.dir_len bas.v
  rw [← hk] at bk
  rw [decide_eq_false (show ¬ k < 16382 by omega)]
  conv => whnf
  refine refLen (fun k2 hk2 => ?_)
  conv => whnf
  obtain rfl := hk2.trans hk.symm
  rw [decide_eq_false (show ¬ k2 > 16384 by omega)]
  conv => whnf
  have nu := PQ.dir_near bas.u; have nv := PQ.dir_near bas.v; have nn := PQ.dir_near bas.n
  have b1 := bas.uv; have b2 := bas.un; have b3 := bas.vn
  try (refine AW_draw tok hP ?_; conv => whnf)
  first | refine AQ_int (fun sK QK hK => refDot6 hK) (fun p1 hp1 => ?_) | refine refDot6 (fun p1 hp1 => ?_)
  conv => whnf
  try (refine And.intro (OkD.mk (by kernel_rfl)) ?_; conv => whnf)
  unfold dotI at hp1
  rw [if_pos ⟨nu, nv⟩] at hp1
  rw [← hp1] at b1
  try (refine AW_draw tok hP ?_; conv => whnf)
  first | refine AQ_pure (fun sK QK hK => lawLow (by omega) (by omega) (by omega) (by omega) hK) ?_ | refine lawLow (by omega) (by omega) (by omega) (by omega) ?_
  conv => whnf
  try (refine And.intro (OkD.mk (by kernel_rfl)) ?_; conv => whnf)
  try (refine AW_draw tok hP ?_; conv => whnf)
  first | refine AQ_int (fun sK QK hK => refDot6 hK) (fun p2 hp2 => ?_) | refine refDot6 (fun p2 hp2 => ?_)
  conv => whnf
  try (refine And.intro (OkD.mk (by kernel_rfl)) ?_; conv => whnf)
  unfold dotI at hp2
  rw [if_pos ⟨nu, nn⟩] at hp2
  rw [← hp2] at b2
  try (refine AW_draw tok hP ?_; conv => whnf)
  first | refine AQ_pure (fun sK QK hK => lawLow (by omega) (by omega) (by omega) (by omega) hK) ?_ | refine lawLow (by omega) (by omega) (by omega) (by omega) ?_
  conv => whnf
  try (refine And.intro (OkD.mk (by kernel_rfl)) ?_; conv => whnf)
  try (refine AW_draw tok hP ?_; conv => whnf)
  first | refine AQ_int (fun sK QK hK => refDot6 hK) (fun p3 hp3 => ?_) | refine refDot6 (fun p3 hp3 => ?_)
  conv => whnf
  try (refine And.intro (OkD.mk (by kernel_rfl)) ?_; conv => whnf)
  unfold dotI at hp3
  rw [if_pos ⟨nv, nn⟩] at hp3
  rw [← hp3] at b3
  try (refine AW_draw tok hP ?_; conv => whnf)
  first | refine AQ_pure (fun sK QK hK => lawLow (by omega) (by omega) (by omega) (by omega) hK) ?_ | refine lawLow (by omega) (by omega) (by omega) (by omega) ?_
  conv => whnf
  try (refine And.intro (OkD.mk (by kernel_rfl)) ?_; conv => whnf)
  try (refine AW_draw tok hP ?_; conv => whnf)
  first | refine AQ_pure (fun sK QK hK => awake07 hK) ?_ | refine awake07 ?_
  conv => whnf
  try (refine And.intro (OkD.mk (by kernel_rfl)) ?_; conv => whnf)
