/- Part of the proof of a law of the seat: its functions, walked. No condition. -/
import Derived.Test.YtmihhfiefhgaiaaA5Hue
namespace Go.AW.A5
open Go Go.AW Go.Proofs
set_option maxRecDepth 100000
set_option linter.unusedVariables false
theorem rhWithin {r g b n : Int} {s : List Ob} {Q : AV → List Ob → Prop} (h : ∀ v, v = decide ((0 ≤ r ∧ r ≤ n) ∧ (0 ≤ g ∧ g ≤ n) ∧ (0 ≤ b ∧ b ≤ n)) → Q (.bool v) s) : AC Try.prog 62 [.agg [.int .i64 r, .int .i64 g, .int .i64 b], .int .i64 n] s Q := by
  refine AC_pure rfl ?_
  refine AC_body tok 12 Try.func62 rfl (by kernel_rfl) ?_
  conv => whnf
  have no : ¬ ((0 ≤ r ∧ r ≤ n) ∧ (0 ≤ g ∧ g ≤ n) ∧ (0 ≤ b ∧ b ≤ n)) → Q (.bool false) s := fun q => h _ (by symm; rw [decide_eq_false_iff_not]; exact q)
  by_cases g1 : r ≥ 0
  case neg => rw [decide_eq_false g1]; conv => whnf
              exact ⟨rfl, no (by omega)⟩
  rw [decide_eq_true g1]
  conv => whnf
  by_cases g2 : r ≤ n
  case neg => rw [decide_eq_false g2]; conv => whnf
              exact ⟨rfl, no (by omega)⟩
  rw [decide_eq_true g2]
  conv => whnf
  by_cases g3 : g ≥ 0
  case neg => rw [decide_eq_false g3]; conv => whnf
              exact ⟨rfl, no (by omega)⟩
  rw [decide_eq_true g3]
  conv => whnf
  by_cases g4 : g ≤ n
  case neg => rw [decide_eq_false g4]; conv => whnf
              exact ⟨rfl, no (by omega)⟩
  rw [decide_eq_true g4]
  conv => whnf
  by_cases g5 : b ≥ 0
  case neg => rw [decide_eq_false g5]; conv => whnf
              exact ⟨rfl, no (by omega)⟩
  rw [decide_eq_true g5]
  conv => whnf
  exact ⟨rfl, h _ (decide_eq_decide.2 (by omega))⟩
theorem rhWeight {r g b : Int} {s : List Ob} {Q : AV → List Ob → Prop} (h : ∀ v, v = isWt r g b → Q (.bool v) s) : AC Try.prog 26 [.agg [.int .i64 r, .int .i64 g, .int .i64 b]] s Q := by
  refine AC_pure rfl ?_
  refine AC_body tok 3 Try.func26 rfl (by kernel_rfl) ?_
  conv => whnf
  try (refine AW_draw tok hP ?_; conv => whnf)
  first | refine AQ_bool (fun sK QK hK => rhWithin hK) (fun v hv => ?_) | refine rhWithin (fun v hv => ?_)
  conv => whnf
  try (refine And.intro (OkD.mk (by kernel_rfl)) ?_; conv => whnf)
  exact ⟨rfl, h _ hv⟩
theorem rhColor {r g b : Int} {s : List Ob} {Q : AV → List Ob → Prop} (h : ∀ v, v = isC r g b → Q (.bool v) s) : AC Try.prog 27 [.agg [.int .i64 r, .int .i64 g, .int .i64 b]] s Q := by
  refine AC_pure rfl ?_
  refine AC_body tok 3 Try.func27 rfl (by kernel_rfl) ?_
  conv => whnf
  try (refine AW_draw tok hP ?_; conv => whnf)
  first | refine AQ_bool (fun sK QK hK => rhWithin hK) (fun v hv => ?_) | refine rhWithin (fun v hv => ?_)
  conv => whnf
  try (refine And.intro (OkD.mk (by kernel_rfl)) ?_; conv => whnf)
  exact ⟨rfl, h _ hv⟩
theorem below09 {r g b x y z : Int} {s : List Ob} {Q : AV → List Ob → Prop} (h1 : r ≤ x) (h2 : g ≤ y) (h3 : b ≤ z) (h : Q (.bool true) s) : AC Try.prog 30 [.agg [.int .i64 r, .int .i64 g, .int .i64 b], .agg [.int .i64 x, .int .i64 y, .int .i64 z]] s Q := by
  refine AC_pure rfl ?_
  refine AC_body tok 3 Try.func30 rfl (by kernel_rfl) ?_
  conv => whnf
  rw [decide_eq_true h1]
  conv => whnf
  rw [decide_eq_true h2]
  conv => whnf
  rw [decide_eq_true h3]
  exact ⟨rfl, h⟩
theorem awake09 {s : List Ob} {Q : AV → List Ob → Prop} (hq : Q (.bool true) s) : AC Try.prog 28 [] s Q := by
  refine AC_pure rfl ?_
  refine AC_body tok 3 Try.func28 rfl (by kernel_rfl) ?_
  conv => whnf
  try (refine AW_draw tok hP ?_; conv => whnf)
  first | refine AQ_vec (fun sK QK hK => hueMix hK) (fun u v w hu hv hw => ?_) | refine hueMix (fun u v w hu hv hw => ?_)
  conv => whnf
  try (refine And.intro (OkD.mk (by kernel_rfl)) ?_; conv => whnf)
  obtain rfl : u = 100 := by rw [hu]; decide
  obtain rfl : v = 50 := by rw [hv]; decide
  obtain rfl : w = 0 := by rw [hw]; decide
  conv => whnf
  refine hueFold (rows := [[1, 0, 0], [2, 0, 3]]) (by decide) ?_ rfl ?_
  · intro k hk
    match k with
    | 0 => exact ⟨1, 0, 0, rfl, by decide, by decide, by decide⟩
    | 1 => exact ⟨2, 0, 3, rfl, by decide, by decide, by decide⟩
    | k + 2 => exact absurd hk (by simp)
  conv => whnf
  refine hueFoldN ?_
  conv => whnf
  try (refine AW_draw tok hP ?_; conv => whnf)
  first | refine AQ_bool (fun sK QK hK => hueBlack hK) (fun c hc => ?_) | refine hueBlack (fun c hc => ?_)
  conv => whnf
  try (refine And.intro (OkD.mk (by kernel_rfl)) ?_; conv => whnf)
  obtain rfl : c = true := by rw [hc]; decide
  conv => whnf
  try (refine AW_draw tok hP ?_; conv => whnf)
  first | refine AQ_int (fun sK QK hK => hueGrey hK) (fun g hg => ?_) | refine hueGrey (fun g hg => ?_)
  conv => whnf
  try (refine And.intro (OkD.mk (by kernel_rfl)) ?_; conv => whnf)
  obtain rfl : g = 4 := by rw [hg]; decide
  conv => whnf
  exact ⟨rfl, hq⟩
theorem hueMixC {r g b x y z u v w : Int} (hu : mixI (isWt r g b && isC x y z) r x = u) (hv : mixI (isWt r g b && isC x y z) g y = v) (hw : mixI (isWt r g b && isC x y z) b z = w) {s : List Ob} {Q : AV → List Ob → Prop} (h : Q (.agg [.int .i64 u, .int .i64 v, .int .i64 w]) s) : AC Try.prog 29 [.agg [.int .i64 r, .int .i64 g, .int .i64 b], .agg [.int .i64 x, .int .i64 y, .int .i64 z]] s Q :=
  hueMix (fun u' v' w' h1 h2 h3 => by rw [h1, h2, h3, hu, hv, hw]; exact h)
theorem huePartC {r g b n d u v w : Int} (hn : I64 n) (hd : I64 d) (hu : partW (isWt r g b && (decide (1 ≤ d) && decide (0 ≤ n))) r n d = u) (hv : partW (isWt r g b && (decide (1 ≤ d) && decide (0 ≤ n))) g n d = v) (hw : partW (isWt r g b && (decide (1 ≤ d) && decide (0 ≤ n))) b n d = w) {s : List Ob} {Q : AV → List Ob → Prop} (h : Q (.agg [.int .i64 u, .int .i64 v, .int .i64 w]) s) : AC Try.prog 33 [.agg [.int .i64 r, .int .i64 g, .int .i64 b], .agg [.int .i64 n, .int .i64 d]] s Q :=
  huePart hn hd (fun u' v' w' h1 h2 h3 => by rw [h1, h2, h3, hu, hv, hw]; exact h)
theorem lawHueMix (avs : List AV) (obs : List Ob) (ha : ArgC 0 [.flat (.ik .i64), .flat (.ik .i64), .flat (.ik .i64), .flat (.ik .i64), .flat (.ik .i64), .flat (.ik .i64), .flat (.ik .i64), .flat (.ik .i64), .flat (.ik .i64), .flat (.ik .i64), .flat (.ik .i64)] avs obs) : AC Try.prog 6 (groupK [some 3, some 3, some 3, some 2] avs) obs fun r _ => r = .bool true := by
  cases ha with | int w1 ha => cases ha with | int w2 ha => cases ha with | int w3 ha => cases ha with | int w4 ha => cases ha with | int w5 ha => cases ha with | int w6 ha => cases ha with | int w7 ha => cases ha with | int w8 ha => cases ha with | int w9 ha => cases ha with | int w10 ha => cases ha with | int w11 ha =>
  cases ha
  rename_i wr wg wb cr cg cb dr dg db n e
  replace w10 : I64 n := wf_i64 w10
  replace w11 : I64 e := wf_i64 w11
  clear w1 w2 w3 w4 w5 w6 w7 w8 w9
  refine AC_body tok 3 Try.func6 rfl (by kernel_rfl) ?_
  conv => whnf
  try (refine AW_draw tok hP ?_; conv => whnf)
  first | refine AQ_bool (fun sK QK hK => rhWeight hK) (fun p hp => ?_) | refine rhWeight (fun p hp => ?_)
  conv => whnf
  try (refine And.intro (OkD.mk (by kernel_rfl)) ?_; conv => whnf)
  cases p
  · conv => whnf
    exact awake09 rfl
  conv => whnf
  try (refine AW_draw tok hP ?_; conv => whnf)
  first | refine AQ_bool (fun sK QK hK => rhColor hK) (fun q hq => ?_) | refine rhColor (fun q hq => ?_)
  conv => whnf
  try (refine And.intro (OkD.mk (by kernel_rfl)) ?_; conv => whnf)
  cases q
  · conv => whnf
    exact awake09 rfl
  conv => whnf
  try (refine AW_draw tok hP ?_; conv => whnf)
  first | refine AQ_bool (fun sK QK hK => rhColor hK) (fun r hr => ?_) | refine rhColor (fun r hr => ?_)
  conv => whnf
  try (refine And.intro (OkD.mk (by kernel_rfl)) ?_; conv => whnf)
  cases r
  · conv => whnf
    exact awake09 rfl
  conv => whnf
  have a := PH.isWt_iff.1 hp.symm
  have b := PH.isC_iff.1 hq.symm
  have c := PH.isC_iff.1 hr.symm
  have m1 := PH.mix_b a.1 b.1
  have m2 := PH.mix_b a.2.1 b.2.1
  have m3 := PH.mix_b a.2.2 b.2.2
  try (refine AW_draw tok hP ?_; conv => whnf)
  first | refine AQ_vec (fun sK QK hK => hueMix hK) (fun x y z hx hy hz => ?_) | refine hueMix (fun x y z hx hy hz => ?_)
  conv => whnf
  try (refine And.intro (OkD.mk (by kernel_rfl)) ?_; conv => whnf)
  rw [← hp, ← hq] at hx hy hz
  replace hx : x = wr * cr / 65536 := hx
  replace hy : y = wg * cg / 65536 := hy
  replace hz : z = wb * cb / 65536 := hz
  have mw : isWt x y z = true := PH.isWt_iff.2 (by omega)
  try (refine AW_draw tok hP ?_; conv => whnf)
  first | refine AQ_pure (fun sK QK hK => below09 (by omega) (by omega) (by omega) hK) ?_ | refine below09 (by omega) (by omega) (by omega) ?_
  conv => whnf
  try (refine And.intro (OkD.mk (by kernel_rfl)) ?_; conv => whnf)
  try (refine AW_draw tok hP ?_; conv => whnf)
  first | refine AQ_bool (fun sK QK hK => hueWeight hK) (fun t ht => ?_) | refine hueWeight (fun t ht => ?_)
  conv => whnf
  try (refine And.intro (OkD.mk (by kernel_rfl)) ?_; conv => whnf)
  obtain rfl : t = true := by rw [ht]; exact mw
  conv => whnf
  have f1 : ∀ v : Int, mixI (isWt wr wg wb && isC 65536 65536 65536) v 65536 = v := fun v => by rw [← hp]; show v * 65536 / 65536 = v; omega
  have f0 : ∀ v : Int, mixI (isWt wr wg wb && isC 0 0 0) v 0 = 0 := fun v => by rw [← hp]; show v * 0 / 65536 = 0; omega
  try (refine AW_draw tok hP ?_; conv => whnf)
  first | refine AQ_pure (fun sK QK hK => hueMixC (f1 wr) (f1 wg) (f1 wb) hK) ?_ | refine hueMixC (f1 wr) (f1 wg) (f1 wb) ?_
  conv => whnf
  try (refine And.intro (OkD.mk (by kernel_rfl)) ?_; conv => whnf)
  rw [beq_self_eq_true wr, beq_self_eq_true wg, beq_self_eq_true wb]
  conv => whnf
  try (refine AW_draw tok hP ?_; conv => whnf)
  first | refine AQ_pure (fun sK QK hK => hueMixC (f0 wr) (f0 wg) (f0 wb) hK) ?_ | refine hueMixC (f0 wr) (f0 wg) (f0 wb) ?_
  conv => whnf
  try (refine And.intro (OkD.mk (by kernel_rfl)) ?_; conv => whnf)
  try (refine AW_draw tok hP ?_; conv => whnf)
  first | refine AQ_bool (fun sK QK hK => hueBlack hK) (fun u hu => ?_) | refine hueBlack (fun u hu => ?_)
  conv => whnf
  try (refine And.intro (OkD.mk (by kernel_rfl)) ?_; conv => whnf)
  obtain rfl : u = true := by rw [hu]; decide
  conv => whnf
  have e1 : ∀ v w : Int, mixI (isWt x y z && isC dr dg db) v w = v * w / 65536 := fun v w => by rw [mw, ← hr]; rfl
  have e2 : ∀ v w : Int, mixI (isWt wr wg wb && isC dr dg db) v w = v * w / 65536 := fun v w => by rw [← hp, ← hr]; rfl
  try (refine AW_draw tok hP ?_; conv => whnf)
  first | refine AQ_pure (fun sK QK hK => hueMixC (e1 x dr) (e1 y dg) (e1 z db) hK) ?_ | refine hueMixC (e1 x dr) (e1 y dg) (e1 z db) ?_
  conv => whnf
  try (refine And.intro (OkD.mk (by kernel_rfl)) ?_; conv => whnf)
  try (refine AW_draw tok hP ?_; conv => whnf)
  first | refine AQ_pure (fun sK QK hK => hueMixC (e2 wr dr) (e2 wg dg) (e2 wb db) hK) ?_ | refine hueMixC (e2 wr dr) (e2 wg dg) (e2 wb db) ?_
  conv => whnf
  try (refine And.intro (OkD.mk (by kernel_rfl)) ?_; conv => whnf)
  try (refine AW_draw tok hP ?_; conv => whnf)
  first | refine AQ_pure (fun sK QK hK => below09 (PH.mix_mono (by omega) (by omega)) (PH.mix_mono (by omega) (by omega)) (PH.mix_mono (by omega) (by omega)) hK) ?_ | refine below09 (PH.mix_mono (by omega) (by omega)) (PH.mix_mono (by omega) (by omega)) (PH.mix_mono (by omega) (by omega)) ?_
  conv => whnf
  try (refine And.intro (OkD.mk (by kernel_rfl)) ?_; conv => whnf)
  try (refine AW_draw tok hP ?_; conv => whnf)
  first | refine AQ_pure (fun sK QK hK => hueMixC (e1 x dr) (e1 y dg) (e1 z db) hK) ?_ | refine hueMixC (e1 x dr) (e1 y dg) (e1 z db) ?_
  conv => whnf
  try (refine And.intro (OkD.mk (by kernel_rfl)) ?_; conv => whnf)
  have k1 := PH.mix_b (w := x) (c := dr) (by omega) c.1
  have k2 := PH.mix_b (w := y) (c := dg) (by omega) c.2.1
  have k3 := PH.mix_b (w := z) (c := db) (by omega) c.2.2
  try (refine AW_draw tok hP ?_; conv => whnf)
  first | refine AQ_pure (fun sK QK hK => below09 (by omega) (by omega) (by omega) hK) ?_ | refine below09 (by omega) (by omega) (by omega) ?_
  conv => whnf
  try (refine And.intro (OkD.mk (by kernel_rfl)) ?_; conv => whnf)
  generalize hB : decide ((_ : Int) < 1) = bB
  replace hB : decide (e < 1) = bB := hB
  by_cases g1 : e < 1
  · rw [decide_eq_true g1] at hB; subst hB
    conv => whnf
    exact awake09 rfl
  rw [decide_eq_false g1] at hB; subst hB
  conv => whnf
  generalize hB : decide ((_ : Int) < 0) = bB
  replace hB : decide (n < 0) = bB := hB
  by_cases g2 : n < 0
  · rw [decide_eq_true g2] at hB; subst hB
    conv => whnf
    exact awake09 rfl
  rw [decide_eq_false g2] at hB; subst hB
  conv => whnf
  generalize hB : decide ((_ : Int) > _) = bB
  replace hB : decide (n > e) = bB := hB
  by_cases g3 : n > e
  · rw [decide_eq_true g3] at hB; subst hB
    conv => whnf
    exact awake09 rfl
  rw [decide_eq_false g3] at hB; subst hB
  conv => whnf
  have ok : (isWt wr wg wb && (decide (1 ≤ e) && decide (0 ≤ n))) = true := by rw [← hp, decide_eq_true (show 1 ≤ e by omega), decide_eq_true (show 0 ≤ n by omega)]; rfl
  try (refine AW_draw tok hP ?_; conv => whnf)
  first | refine AQ_pure (fun sK QK hK => huePartC w10 w11 (by rw [ok]) (by rw [ok]) (by rw [ok]) hK) ?_ | refine huePartC w10 w11 (by rw [ok]) (by rw [ok]) (by rw [ok]) ?_
  conv => whnf
  try (refine And.intro (OkD.mk (by kernel_rfl)) ?_; conv => whnf)
  try (refine AW_draw tok hP ?_; conv => whnf)
  first | refine AQ_pure (fun sK QK hK => below09 (PH.part_le a.1 (by omega) (by omega) (by omega)) (PH.part_le a.2.1 (by omega) (by omega) (by omega)) (PH.part_le a.2.2 (by omega) (by omega) (by omega)) hK) ?_ | refine below09 (PH.part_le a.1 (by omega) (by omega) (by omega)) (PH.part_le a.2.1 (by omega) (by omega) (by omega)) (PH.part_le a.2.2 (by omega) (by omega) (by omega)) ?_
  conv => whnf
  try (refine And.intro (OkD.mk (by kernel_rfl)) ?_; conv => whnf)
  have ok1 : (isWt wr wg wb && (decide ((1 : Int) ≤ 1) && decide ((0 : Int) ≤ 1))) = true := by rw [← hp]; rfl
  try (refine AW_draw tok hP ?_; conv => whnf)
  first | refine AQ_pure (fun sK QK hK => huePartC (n := 1) (d := 1) (u := wr) (v := wg) (w := wb) (by decide) (by decide) (by rw [ok1]; exact PH.part_one a.1) (by rw [ok1]; exact PH.part_one a.2.1) (by rw [ok1]; exact PH.part_one a.2.2) hK) ?_ | refine huePartC (n := 1) (d := 1) (u := wr) (v := wg) (w := wb) (by decide) (by decide) (by rw [ok1]; exact PH.part_one a.1) (by rw [ok1]; exact PH.part_one a.2.1) (by rw [ok1]; exact PH.part_one a.2.2) ?_
  conv => whnf
  try (refine And.intro (OkD.mk (by kernel_rfl)) ?_; conv => whnf)
  rw [beq_self_eq_true wr, beq_self_eq_true wg, beq_self_eq_true wb]
  conv => whnf
  have gb := PH.grey_b hp.symm
  try (refine AW_draw tok hP ?_; conv => whnf)
  first | refine AQ_int (fun sK QK hK => hueGrey hK) (fun g1' hg1 => ?_) | refine hueGrey (fun g1' hg1 => ?_)
  conv => whnf
  try (refine And.intro (OkD.mk (by kernel_rfl)) ?_; conv => whnf)
  try (refine AW_draw tok hP ?_; conv => whnf)
  first | refine AQ_int (fun sK QK hK => hueMost hK) (fun m1' hm1 => ?_) | refine hueMost (fun m1' hm1 => ?_)
  conv => whnf
  try (refine And.intro (OkD.mk (by kernel_rfl)) ?_; conv => whnf)
  rw [decide_eq_true (show g1' ≤ m1' by rw [hg1, hm1]; exact gb.1)]
  conv => whnf
  try (refine AW_draw tok hP ?_; conv => whnf)
  first | refine AQ_int (fun sK QK hK => hueGrey hK) (fun g2' hg2 => ?_) | refine hueGrey (fun g2' hg2 => ?_)
  conv => whnf
  try (refine And.intro (OkD.mk (by kernel_rfl)) ?_; conv => whnf)
  rw [decide_eq_true (show g2' ≥ 0 by rw [hg2]; exact gb.2)]
  conv => whnf
  try (refine AW_draw tok hP ?_; conv => whnf)
  first | refine AQ_pure (fun sK QK hK => awake09 hK) ?_ | refine awake09 ?_
  conv => whnf
  try (refine And.intro (OkD.mk (by kernel_rfl)) ?_; conv => whnf)
