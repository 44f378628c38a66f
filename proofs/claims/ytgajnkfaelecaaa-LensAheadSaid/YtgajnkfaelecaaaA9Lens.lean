/- Part of the proof of a law of the seat: its functions, walked. No condition. -/
import Derived.Test.YtgajnkfaelecaaaA9Disc
import Derived.Test.YtgajnkfaelecaaaPLens
namespace Go.AW.A9
open Go Go.AW Go.Proofs
set_option maxRecDepth 100000
set_option linter.unusedVariables false
theorem refWithin11 {n m : Int} (hm : 0 ≤ m) (hm' : m < 9223372036854775808) {s : List Ob} {Q : AV → List Ob → Prop} (h : ∀ v, v = decide (-m ≤ n ∧ n ≤ m) → Q (.bool v) s) : AC Try.prog 28 [.int .i64 n, .int .i64 m] s Q := by
  refine AC_pure rfl ?_
  refine AC_body tok 3 Try.func28 rfl (by kernel_rfl) ?_
  conv => whnf
  have e : Z.neg .i64 m = -m := by rw [show Z.neg .i64 m = 0 - m from Z.wrap_iid (by omega) (by omega)]; omega
  rw [e]
  by_cases g : n ≥ -m
  · rw [decide_eq_true g]
    conv => whnf
    exact ⟨rfl, h _ (decide_eq_decide.2 (by omega))⟩
  · rw [decide_eq_false g]
    conv => whnf
    exact ⟨rfl, h _ (decide_eq_false (by omega)).symm⟩
theorem refPlace {a b c : Int} {s : List Ob} {Q : AV → List Ob → Prop} (h : ∀ v, v = placeB a b c → Q (.bool v) s) : AC Try.prog 8 [.agg [.int .i64 a, .int .i64 b, .int .i64 c]] s Q := by
  refine AC_pure rfl ?_
  refine AC_body tok 3 Try.func8 rfl (by kernel_rfl) ?_
  conv => whnf
  rw [PL.place_and] at h
  refine refWithin11 (by omega) (by omega) (fun v hv => ?_)
  conv => whnf
  rw [← hv] at h
  cases v
  · conv => whnf
    exact ⟨rfl, h _ rfl⟩
  conv => whnf
  refine refWithin11 (by omega) (by omega) (fun w hw => ?_)
  conv => whnf
  rw [← hw] at h
  cases w
  · conv => whnf
    exact ⟨rfl, h _ rfl⟩
  conv => whnf
  refine refWithin11 (by omega) (by omega) (fun u hu => ?_)
  conv => whnf
  rw [← hu] at h
  exact ⟨rfl, h _ rfl⟩
theorem triPlace {a b c : Int} {s : List Ob} {Q : AV → List Ob → Prop} (h : ∀ v, v = placeB a b c → Q (.bool v) s) : AC Try.prog 33 [.agg [.int .i64 a, .int .i64 b, .int .i64 c]] s Q := by
  refine AC_pure rfl ?_
  refine AC_body tok 3 Try.func33 rfl (by kernel_rfl) ?_
  conv => whnf
  rw [PL.place_mm] at h
  generalize hB : decide (mmI true (mmI true a b) c ≤ 524288) = bB at *
  cases bB
  · conv => whnf
    exact ⟨rfl, h _ rfl⟩
  · conv => whnf
    exact ⟨rfl, h _ (by rfl)⟩
theorem lensPixel {e1 e2 e3 t1 t2 t3 u1 u2 u3 W H K L F x y : Int} (hW : 1 ≤ W ∧ W ≤ 256) (hH : 1 ≤ H ∧ H ≤ 256) (hx : -4611686018427387904 ≤ x ∧ x ≤ 4611686018427387903) (hy : -4611686018427387904 ≤ y ∧ y ≤ 4611686018427387903) {s : List Ob} {Q : AV → List Ob → Prop}
    (h : ∀ k o, k = pixK W H x y → o = inB W H (x + W / 2) (y + H / 2) → Q (.tup [.int .i64 k, .bool o]) s) : AC Try.prog 36 [.agg [.int .i64 e1, .int .i64 e2, .int .i64 e3, .int .i64 t1, .int .i64 t2, .int .i64 t3, .int .i64 u1, .int .i64 u2, .int .i64 u3, .int .i64 W, .int .i64 H, .int .i64 K, .int .i64 L, .int .i64 F], .int .i64 x, .int .i64 y] s Q := by
  refine AC_pure rfl ?_
  refine AC_body tok 3 Try.func36 rfl (by kernel_rfl) ?_
  conv => whnf
  have eW : Z.quo .i64 W 2 = W / 2 := quo_pos (by omega) (by omega) (by omega)
  have eH : Z.quo .i64 H 2 = H / 2 := quo_pos (by omega) (by omega) (by omega)
  have ex : Z.add .i64 x (Z.quo .i64 W 2) = x + W / 2 := by rw [eW]; exact Z.wrap_iid (by omega) (by omega)
  have ey : Z.add .i64 y (Z.quo .i64 H 2) = y + H / 2 := by rw [eH]; exact Z.wrap_iid (by omega) (by omega)
  try (refine AW_draw tok hP ?_; conv => whnf)
  refine ⟨⟨by kernel_rfl⟩, ?_⟩
  conv => whnf
  try (refine AW_draw tok hP ?_; conv => whnf)
  rw [ex]
  have fin : ∀ o, o = decide ((0 ≤ x + W / 2 ∧ x + W / 2 < W) ∧ 0 ≤ y + H / 2 ∧ y + H / 2 < H) → Q (.tup [.int .i64 (Z.add .i64 (Z.mul .i64 (Z.add .i64 y (Z.quo .i64 H 2)) W) (x + W / 2)), .bool o]) s := fun o ho => h _ o (by rw [ey]; rfl) ho
  clear h
  by_cases g1 : 0 ≤ x + W / 2
  · rw [decide_eq_true g1]
    conv => whnf
    by_cases g2 : x + W / 2 < W
    · rw [decide_eq_true g2]
      conv => whnf
      rw [ey] at *
      by_cases g3 : 0 ≤ y + H / 2
      · rw [decide_eq_true g3]
        conv => whnf
        refine ⟨⟨by kernel_rfl⟩, ?_⟩
        conv => whnf
        exact ⟨rfl, fin _ (decide_eq_decide.2 (by omega))⟩
      · rw [decide_eq_false g3]
        conv => whnf
        refine ⟨⟨by kernel_rfl⟩, ?_⟩
        conv => whnf
        exact ⟨rfl, fin _ (decide_eq_false (by omega)).symm⟩
    · rw [decide_eq_false g2]
      conv => whnf
      refine ⟨⟨by kernel_rfl⟩, ?_⟩
      conv => whnf
      exact ⟨rfl, fin _ (decide_eq_false (by omega)).symm⟩
  · rw [decide_eq_false g1]
    conv => whnf
    refine ⟨⟨by kernel_rfl⟩, ?_⟩
    conv => whnf
    exact ⟨rfl, fin _ (decide_eq_false (by omega)).symm⟩
theorem lensOf {e1 e2 e3 t1 t2 t3 u1 u2 u3 W H K L F : Int} (he : placeB e1 e2 e3 = true) (ht : placeB t1 t2 t3 = true) (hu : nearI u1 u2 u3 = true) {s : List Ob} {Q : AV → List Ob → Prop}
    (h : ∀ f1 f2 f3 r1 r2 r3 g1 g2 g3 o, ((f1, f2, f3), (r1, r2, r3), (g1, g2, g3), o) = frameI (t1 - e1) (t2 - e2) (t3 - e3) u1 u2 u3 → Q (.tup [.agg [.int .i64 f1, .int .i64 f2, .int .i64 f3, .int .i64 r1, .int .i64 r2, .int .i64 r3, .int .i64 g1, .int .i64 g2, .int .i64 g3], .bool o]) s) : AC Try.prog 10 [.agg [.int .i64 e1, .int .i64 e2, .int .i64 e3, .int .i64 t1, .int .i64 t2, .int .i64 t3, .int .i64 u1, .int .i64 u2, .int .i64 u3, .int .i64 W, .int .i64 H, .int .i64 K, .int .i64 L, .int .i64 F]] s Q := by
  refine AC_pure rfl ?_
  refine AC_body tok 3 Try.func10 rfl (by kernel_rfl) ?_
  conv => whnf
  have pe := PL.place_iff.1 he; have pt := PL.place_iff.1 ht
  have nv : nearI (t1 - e1) (t2 - e2) (t3 - e3) = true := by rw [PV.near_iff]; omega
  obtain ⟨iv1, iv2, iv3⟩ := PB.near_I nv
  obtain ⟨iu1, iu2, iu3⟩ := PB.near_I hu
  refine vecSub (by unfold I64; omega) (by unfold I64; omega) (by unfold I64; omega) (by unfold I64; omega) (by unfold I64; omega) (by unfold I64; omega) (fun a b c ha hb hc => ?_)
  conv => whnf
  rw [PB.sub_i (by omega) (by omega)] at ha hb hc
  subst ha hb hc
  refine vecUnit iv1 iv2 iv3 (fun o f1 f2 f3 hf ho => ?_)
  conv => whnf
  have bf := PU.unit_near iv1 iv2 iv3 hf
  have nf := PB.near_u bf
  obtain ⟨if1, if2, if3⟩ := PB.near_I nf
  cases o
  · conv => whnf
    exact ⟨rfl, h _ _ _ _ _ _ _ _ _ _ (PL.fr1 ho.symm).symm⟩
  conv => whnf
  obtain ⟨c1, c2, c3⟩ := PB.cross_i nf hu
  try (refine AW_draw tok hP ?_; conv => whnf)
  first | refine AQ_vec (fun sK QK hK => vecCross if1 if2 if3 iu1 iu2 iu3 hK) (fun x1 x2 x3 h1 h2 h3 => ?_) | refine vecCross if1 if2 if3 iu1 iu2 iu3 (fun x1 x2 x3 h1 h2 h3 => ?_)
  conv => whnf
  try (refine And.intro (OkD.mk (by kernel_rfl)) ?_; conv => whnf)
  rw [nf, hu] at h1 h2 h3
  replace h1 : x1 = f2 * u3 - f3 * u2 := h1
  replace h2 : x2 = f3 * u1 - f1 * u3 := h2
  replace h3 : x3 = f1 * u2 - f2 * u1 := h3
  rw [← h1] at c1; rw [← h2] at c2; rw [← h3] at c3
  try (refine AW_draw tok hP ?_; conv => whnf)
  first | refine AQ_uni (fun sK QK hK => vecUnit c1 c2 c3 hK) (fun o r1 r2 r3 hr hor => ?_) | refine vecUnit c1 c2 c3 (fun o r1 r2 r3 hr hor => ?_)
  conv => whnf
  try (refine And.intro (OkD.mk (by kernel_rfl)) ?_; conv => whnf)
  have br := PU.unit_near c1 c2 c3 hr
  have nr := PB.near_u br
  obtain ⟨ir1, ir2, ir3⟩ := PB.near_I nr
  rw [h1, h2, h3] at hr hor
  cases o
  · conv => whnf
    exact ⟨rfl, h _ _ _ _ _ _ _ _ _ _ (PL.fr2 hf hor.symm).symm⟩
  conv => whnf
  obtain ⟨d1, d2, d3⟩ := PB.cross_i nr nf
  try (refine AW_draw tok hP ?_; conv => whnf)
  first | refine AQ_vec (fun sK QK hK => vecCross ir1 ir2 ir3 if1 if2 if3 hK) (fun y1 y2 y3 k1 k2 k3 => ?_) | refine vecCross ir1 ir2 ir3 if1 if2 if3 (fun y1 y2 y3 k1 k2 k3 => ?_)
  conv => whnf
  try (refine And.intro (OkD.mk (by kernel_rfl)) ?_; conv => whnf)
  rw [nf, nr] at k1 k2 k3
  replace k1 : y1 = r2 * f3 - r3 * f2 := k1
  replace k2 : y2 = r3 * f1 - r1 * f3 := k2
  replace k3 : y3 = r1 * f2 - r2 * f1 := k3
  rw [← k1] at d1; rw [← k2] at d2; rw [← k3] at d3
  try (refine AW_draw tok hP ?_; conv => whnf)
  first | refine AQ_uni (fun sK QK hK => vecUnit d1 d2 d3 hK) (fun o g1 g2 g3 hg hog => ?_) | refine vecUnit d1 d2 d3 (fun o g1 g2 g3 hg hog => ?_)
  conv => whnf
  try (refine And.intro (OkD.mk (by kernel_rfl)) ?_; conv => whnf)
  rw [k1, k2, k3] at hg hog
  cases o
  · conv => whnf
    exact ⟨rfl, h _ _ _ _ _ _ _ _ _ _ (PL.fr3 hf hr hog.symm).symm⟩
  conv => whnf
  exact ⟨rfl, h _ _ _ _ _ _ _ _ _ _ (PL.fr4 hf hr hg ho.symm hor.symm hog.symm)⟩
theorem lensIn {f1 f2 f3 r1 r2 r3 g1 g2 g3 x y z : Int} (hf : nearI f1 f2 f3 = true) (hr : nearI r1 r2 r3 = true) (hg : nearI g1 g2 g3 = true) (hv : nearI x y z = true) {s : List Ob} {Q : AV → List Ob → Prop}
    (h : ∀ p q d, p = (x * r1 + y * r2 + z * r3) / 16384 → q = (x * g1 + y * g2 + z * g3) / 16384 → d = (x * f1 + y * f2 + z * f3) / 16384 → Q (.agg [.int .i64 p, .int .i64 q, .int .i64 d]) s) : AC Try.prog 34 [.agg [.int .i64 f1, .int .i64 f2, .int .i64 f3, .int .i64 r1, .int .i64 r2, .int .i64 r3, .int .i64 g1, .int .i64 g2, .int .i64 g3], .agg [.int .i64 x, .int .i64 y, .int .i64 z]] s Q := by
  refine AC_pure rfl ?_
  refine AC_body tok 12 Try.func34 rfl (by kernel_rfl) ?_
  conv => whnf
  obtain ⟨if1, if2, if3⟩ := PB.near_I hf
  obtain ⟨ir1, ir2, ir3⟩ := PB.near_I hr
  obtain ⟨ig1, ig2, ig3⟩ := PB.near_I hg
  obtain ⟨ix, iy, iz⟩ := PB.near_I hv
  have ed : ∀ k : Int, divI k 16384 = k / 16384 := fun k => by unfold divI; rw [if_neg (by omega)]
  repeat' first
    | (refine AW_draw tok hP ?_; conv => whnf)
    | (refine And.intro (OkD.mk (by kernel_rfl)) ?_; conv => whnf)
    | (refine AC_body tok 12 Try.func63 rfl (by kernel_rfl) ?_; conv => whnf)
    | fail
  have i1 := PV.dot_i x y z r1 r2 r3; have i2 := PV.dot_i x y z g1 g2 g3; have i3 := PV.dot_i x y z f1 f2 f3
  try (refine AW_draw tok hP ?_; conv => whnf)
  first | refine AQ_int (fun sK QK hK => vecDot ix iy iz ir1 ir2 ir3 hK) (fun d1 h1 => ?_) | refine vecDot ix iy iz ir1 ir2 ir3 (fun d1 h1 => ?_)
  conv => whnf
  try (refine And.intro (OkD.mk (by kernel_rfl)) ?_; conv => whnf)
  try (refine AW_draw tok hP ?_; conv => whnf)
  first | refine AQ_int (fun sK QK hK => numDiv (a := d1) (by omega) (by omega) hK) (fun p hp => ?_) | refine numDiv (a := d1) (by omega) (by omega) (fun p hp => ?_)
  conv => whnf
  try (refine And.intro (OkD.mk (by kernel_rfl)) ?_; conv => whnf)
  try (refine AW_draw tok hP ?_; conv => whnf)
  first | refine AQ_int (fun sK QK hK => vecDot ix iy iz ig1 ig2 ig3 hK) (fun d2 h2 => ?_) | refine vecDot ix iy iz ig1 ig2 ig3 (fun d2 h2 => ?_)
  conv => whnf
  try (refine And.intro (OkD.mk (by kernel_rfl)) ?_; conv => whnf)
  try (refine AW_draw tok hP ?_; conv => whnf)
  first | refine AQ_int (fun sK QK hK => numDiv (a := d2) (by omega) (by omega) hK) (fun q hq => ?_) | refine numDiv (a := d2) (by omega) (by omega) (fun q hq => ?_)
  conv => whnf
  try (refine And.intro (OkD.mk (by kernel_rfl)) ?_; conv => whnf)
  try (refine AW_draw tok hP ?_; conv => whnf)
  first | refine AQ_int (fun sK QK hK => vecDot ix iy iz if1 if2 if3 hK) (fun d3 h3 => ?_) | refine vecDot ix iy iz if1 if2 if3 (fun d3 h3 => ?_)
  conv => whnf
  try (refine And.intro (OkD.mk (by kernel_rfl)) ?_; conv => whnf)
  try (refine AW_draw tok hP ?_; conv => whnf)
  first | refine AQ_int (fun sK QK hK => numDiv (a := d3) (by omega) (by omega) hK) (fun d hd => ?_) | refine numDiv (a := d3) (by omega) (by omega) (fun d hd => ?_)
  conv => whnf
  try (refine And.intro (OkD.mk (by kernel_rfl)) ?_; conv => whnf)
  unfold dotI at h1 h2 h3
  rw [if_pos ⟨hv, hr⟩] at h1; rw [if_pos ⟨hv, hg⟩] at h2; rw [if_pos ⟨hv, hf⟩] at h3
  exact ⟨rfl, h _ _ _ (by rw [hp, ed, h1]) (by rw [hq, ed, h2]) (by rw [hd, ed, h3])⟩
theorem lensBy {i j : Nat} {p q x y : Int} (hp : -16384 ≤ p ∧ p ≤ 16384) (hq : -16384 ≤ q ∧ q ≤ 16384) (hx : -4097 ≤ x ∧ x ≤ 4097) (hy : -4097 ≤ y ∧ y ≤ 4097) (hij : i ≠ j) {s : List Ob} (hi : s[i]? = some (.cells 0 [.int .i64 x])) (hj : s[j]? = some (.cells 0 [.int .i64 y])) {Q : AV → List Ob → Prop} (h : Q (.int .i64 ((p * x + q * y) / 16384)) s) : AC Try.prog 78 [.int .i64 p, .int .i64 q, .ptr i 0 0, .ptr j 0 0] s Q := by
  refine AC_read (args' := [.int .i64 p, .int .i64 q, .ptr 0 0 0, .ptr 1 0 0]) (L := [.cells 0 [.int .i64 x], .cells 0 [.int .i64 y]]) [i, j] (by simp [hij]) rfl rfl (by rintro (_ | _ | i') a ob h1 h2 <;> simp at h1 h2 <;> subst h1 h2 <;> assumption) ?_
  refine AC_body tok 3 Try.func78 rfl (by kernel_rfl) ?_
  conv => whnf
  have m1 := PV.mul_le hp hx; have m2 := PV.mul_le hq hy
  have e1 : Z.mul .i64 p x = p * x := Z.wrap_iid (by omega) (by omega)
  have e2 : Z.mul .i64 q y = q * y := Z.wrap_iid (by omega) (by omega)
  have e3 : Z.add .i64 (Z.mul .i64 p x) (Z.mul .i64 q y) = p * x + q * y := by rw [e1, e2]; exact Z.wrap_iid (by omega) (by omega)
  refine numDiv (a := Z.add .i64 (Z.mul .i64 p x) (Z.mul .i64 q y)) (by rw [e3]; omega) (by rw [e3]; omega) (fun v hv => ?_)
  conv => whnf
  rw [e3] at hv
  unfold divI at hv
  rw [if_neg (by omega)] at hv
  exact ⟨rfl, rfl, by rw [hv]; exact h⟩
theorem lensShifted {f1 f2 f3 r1 r2 r3 g1 g2 g3 a b c x y : Int} (hr : (-16384 ≤ r1 ∧ r1 ≤ 16384) ∧ (-16384 ≤ r2 ∧ r2 ≤ 16384) ∧ (-16384 ≤ r3 ∧ r3 ≤ 16384)) (hg : (-16384 ≤ g1 ∧ g1 ≤ 16384) ∧ (-16384 ≤ g2 ∧ g2 ≤ 16384) ∧ (-16384 ≤ g3 ∧ g3 ≤ 16384)) (hv : placeB a b c = true) (hx : -4097 ≤ x ∧ x ≤ 4097) (hy : -4097 ≤ y ∧ y ≤ 4097) {s : List Ob} {Q : AV → List Ob → Prop}
    (h : Q (.agg [.int .i64 (a + (r1 * x + g1 * y) / 16384), .int .i64 (b + (r2 * x + g2 * y) / 16384), .int .i64 (c + (r3 * x + g3 * y) / 16384)]) s) : AC Try.prog 62 [.agg [.int .i64 f1, .int .i64 f2, .int .i64 f3, .int .i64 r1, .int .i64 r2, .int .i64 r3, .int .i64 g1, .int .i64 g2, .int .i64 g3], .agg [.int .i64 a, .int .i64 b, .int .i64 c], .int .i64 x, .int .i64 y] s Q := by
  refine AC_pure rfl ?_
  refine AC_body tok 3 Try.func62 rfl (by kernel_rfl) ?_
  conv => whnf
  have pv := PL.place_iff.1 hv
  have ob : ∀ r g : Int, (-16384 ≤ r ∧ r ≤ 16384) → (-16384 ≤ g ∧ g ≤ 16384) → -8195 ≤ (r * x + g * y) / 16384 ∧ (r * x + g * y) / 16384 ≤ 8195 := fun r g h1 h2 => by
    have := PV.mul_le h1 hx; have := PV.mul_le h2 hy; omega
  have o1 := ob r1 g1 hr.1 hg.1; have o2 := ob r2 g2 hr.2.1 hg.2.1; have o3 := ob r3 g3 hr.2.2 hg.2.2
  try (refine AW_draw tok hP ?_; conv => whnf)
  refine AQ_rd [2, 3] (fun s' Q hC h => lensBy hr.1 hg.1 hx hy (by decide) ((hC 2 (by decide)).trans rfl) ((hC 3 (by decide)).trans rfl) h) ?_
  conv => whnf
  refine AQ_rd [2, 3] (fun s' Q hC h => lensBy hr.2.1 hg.2.1 hx hy (by decide) ((hC 2 (by decide)).trans rfl) ((hC 3 (by decide)).trans rfl) h) ?_
  conv => whnf
  refine AQ_rd [2, 3] (fun s' Q hC h => lensBy hr.2.2 hg.2.2 hx hy (by decide) ((hC 2 (by decide)).trans rfl) ((hC 3 (by decide)).trans rfl) h) ?_
  conv => whnf
  try (refine AW_draw tok hP ?_; conv => whnf)
  first | refine AQ_vec (fun sK QK hK => vecAdd (by unfold I64; omega) (by unfold I64; omega) (by unfold I64; omega) (by unfold I64; omega) (by unfold I64; omega) (by unfold I64; omega) hK) (fun w1 w2 w3 k1 k2 k3 => ?_) | refine vecAdd (by unfold I64; omega) (by unfold I64; omega) (by unfold I64; omega) (by unfold I64; omega) (by unfold I64; omega) (by unfold I64; omega) (fun w1 w2 w3 k1 k2 k3 => ?_)
  conv => whnf
  try (refine And.intro (OkD.mk (by kernel_rfl)) ?_; conv => whnf)
  rw [PV.plus_eq (by omega) (by omega)] at k1 k2 k3
  subst k1 k2 k3
  exact ⟨rfl, h⟩
theorem lensPlace {e1 e2 e3 t1 t2 t3 u1 u2 u3 W H K L F a b : Int} (he : placeB e1 e2 e3 = true) (ht : placeB t1 t2 t3 = true) (hu : nearI u1 u2 u3 = true) (hL : 0 ≤ L ∧ L ≤ 4096) (ha : I64 a) (hb : I64 b) {s : List Ob} {Q : AV → List Ob → Prop}
    (h : ∀ d1 d2 d3 x y, (L = 0 → d1 = e1 ∧ d2 = e2 ∧ d3 = e3 ∧ x = 0 ∧ y = 0) → (-1048576 ≤ d1 ∧ d1 ≤ 1048576) → (-1048576 ≤ d2 ∧ d2 ≤ 1048576) → (-1048576 ≤ d3 ∧ d3 ≤ 1048576) → (-4097 ≤ x ∧ x ≤ 4097) → (-4097 ≤ y ∧ y ≤ 4097) → Q (.tup [.agg [.int .i64 d1, .int .i64 d2, .int .i64 d3], .int .i64 x, .int .i64 y]) s) : AC Try.prog 32 [.agg [.int .i64 e1, .int .i64 e2, .int .i64 e3, .int .i64 t1, .int .i64 t2, .int .i64 t3, .int .i64 u1, .int .i64 u2, .int .i64 u3, .int .i64 W, .int .i64 H, .int .i64 K, .int .i64 L, .int .i64 F], .int .i64 a, .int .i64 b] s Q := by
  refine AC_pure rfl ?_
  refine AC_body tok 3 Try.func32 rfl (by kernel_rfl) ?_
  conv => whnf
  have pe := PL.place_iff.1 he; have pt := PL.place_iff.1 ht
  refine lensOf he ht hu (fun f1 f2 f3 r1 r2 r3 g1 g2 g3 o hf => ?_)
  conv => whnf
  have nv : nearI (t1 - e1) (t2 - e2) (t3 - e3) = true := by rw [PV.near_iff]; omega
  obtain ⟨bf, br, bg⟩ := PL.frame_b nv hu hf
  generalize hB : ((_ : Int) == 0) = bB
  replace hB : (L == 0) = bB := hB
  by_cases g0 : L = 0
  · rw [beq_iff_eq.2 g0] at hB; subst hB
    conv => whnf
    exact ⟨rfl, h _ _ _ _ _ (fun _ => ⟨rfl, rfl, rfl, rfl, rfl⟩) (by omega) (by omega) (by omega) (by omega) (by omega)⟩
  rw [beq_eq_false_iff_ne.2 g0] at hB; subst hB
  conv => whnf
  cases o
  · conv => whnf
    exact ⟨rfl, h _ _ _ _ _ (fun _ => ⟨rfl, rfl, rfl, rfl, rfl⟩) (by omega) (by omega) (by omega) (by omega) (by omega)⟩
  conv => whnf
  refine spreadDisc ha hb (fun x0 y0 hx hy => ?_)
  conv => whnf
  have rb := PS.ring_b (discR a) b
  rw [← hx, ← hy] at rb
  have m1 := PV.mul_le rb.1 (show -4096 ≤ L ∧ L ≤ 4096 by omega)
  have m2 := PV.mul_le rb.2 (show -4096 ≤ L ∧ L ≤ 4096 by omega)
  have ed : ∀ k : Int, divI k 16384 = k / 16384 := fun k => by unfold divI; rw [if_neg (by omega)]
  have et : ∀ k : Int, -67108864 ≤ k * L ∧ k * L ≤ 67108864 → timesI k L = k * L := fun k hk => by unfold timesI; rw [if_neg (by omega), if_neg (by omega)]
  try (refine AW_draw tok hP ?_; conv => whnf)
  first | refine AQ_int (fun sK QK hK => numTimes (a := x0) (b := L) (by omega) (by omega) (by omega) (by omega) hK) (fun p1 hp1 => ?_) | refine numTimes (a := x0) (b := L) (by omega) (by omega) (by omega) (by omega) (fun p1 hp1 => ?_)
  conv => whnf
  try (refine And.intro (OkD.mk (by kernel_rfl)) ?_; conv => whnf)
  rw [et x0 (by omega)] at hp1
  try (refine AW_draw tok hP ?_; conv => whnf)
  first | refine AQ_int (fun sK QK hK => numDiv (a := p1) (b := 16384) (by omega) (by omega) hK) (fun x hx' => ?_) | refine numDiv (a := p1) (b := 16384) (by omega) (by omega) (fun x hx' => ?_)
  conv => whnf
  try (refine And.intro (OkD.mk (by kernel_rfl)) ?_; conv => whnf)
  try (refine AW_draw tok hP ?_; conv => whnf)
  first | refine AQ_int (fun sK QK hK => numTimes (a := y0) (b := L) (by omega) (by omega) (by omega) (by omega) hK) (fun p2 hp2 => ?_) | refine numTimes (a := y0) (b := L) (by omega) (by omega) (by omega) (by omega) (fun p2 hp2 => ?_)
  conv => whnf
  try (refine And.intro (OkD.mk (by kernel_rfl)) ?_; conv => whnf)
  rw [et y0 (by omega)] at hp2
  try (refine AW_draw tok hP ?_; conv => whnf)
  first | refine AQ_int (fun sK QK hK => numDiv (a := p2) (b := 16384) (by omega) (by omega) hK) (fun y hy' => ?_) | refine numDiv (a := p2) (b := 16384) (by omega) (by omega) (fun y hy' => ?_)
  conv => whnf
  try (refine And.intro (OkD.mk (by kernel_rfl)) ?_; conv => whnf)
  rw [ed] at hx' hy'
  conv => whnf
  have x1 : -4097 ≤ x ∧ x ≤ 4097 := by omega
  have y1 : -4097 ≤ y ∧ y ≤ 4097 := by omega
  have ob : ∀ r g : Int, (-16384 ≤ r ∧ r ≤ 16384) → (-16384 ≤ g ∧ g ≤ 16384) → -8195 ≤ (r * x + g * y) / 16384 ∧ (r * x + g * y) / 16384 ≤ 8195 := fun r g h1 h2 => by
    have := PV.mul_le h1 x1; have := PV.mul_le h2 y1; omega
  have o1 := ob r1 g1 br.1 bg.1; have o2 := ob r2 g2 br.2.1 bg.2.1; have o3 := ob r3 g3 br.2.2 bg.2.2
  try (refine AW_draw tok hP ?_; conv => whnf)
  first | refine AQ_pure (fun sK QK hK => lensShifted br bg he x1 y1 hK) ?_ | refine lensShifted br bg he x1 y1 ?_
  conv => whnf
  try (refine And.intro (OkD.mk (by kernel_rfl)) ?_; conv => whnf)
  exact ⟨rfl, h _ _ _ _ _ (fun e => absurd e g0) (by omega) (by omega) (by omega) x1 y1⟩
/-- what See tells -/
theorem lensSee {e1 e2 e3 t1 t2 t3 u1 u2 u3 W H K L F p1 p2 p3 a b : Int} (he : placeB e1 e2 e3 = true) (ht : placeB t1 t2 t3 = true) (hu : nearI u1 u2 u3 = true) (hW : 1 ≤ W ∧ W ≤ 256) (hH : 1 ≤ H ∧ H ≤ 256) (hK : 1 ≤ K ∧ K ≤ 65536) (hL : 0 ≤ L ∧ L ≤ 4096) (hF : 0 ≤ F ∧ F ≤ 524288) (hLF : 0 < L → 0 < F) (hp : placeB p1 p2 p3 = true) (ha : I64 a) (hb : I64 b) {s : List Ob} {Q : AV → List Ob → Prop}
    (h : ∀ k s1 s2 s3 n d o f r g fo, (f, r, g, fo) = frameI (t1 - e1) (t2 - e2) (t3 - e3) u1 u2 u3 → SeeP e1 e2 e3 W H K L F p1 p2 p3 f r g fo k s1 s2 s3 n d o → Q (.tup [.agg [.int .i64 k, .int .i64 s1, .int .i64 s2, .int .i64 s3, .int .i64 n, .int .i64 d], .bool o]) s) : AC Try.prog 11 [.agg [.int .i64 e1, .int .i64 e2, .int .i64 e3, .int .i64 t1, .int .i64 t2, .int .i64 t3, .int .i64 u1, .int .i64 u2, .int .i64 u3, .int .i64 W, .int .i64 H, .int .i64 K, .int .i64 L, .int .i64 F], .agg [.int .i64 p1, .int .i64 p2, .int .i64 p3], .int .i64 a, .int .i64 b] s Q := by
  refine AC_pure rfl ?_
  refine AC_body tok 3 Try.func11 rfl (by kernel_rfl) ?_
  conv => whnf
  have pe := PL.place_iff.1 he; have pt := PL.place_iff.1 ht; have pp := PL.place_iff.1 hp
  refine lensOf he ht hu (fun f1 f2 f3 r1 r2 r3 g1 g2 g3 o hf => ?_)
  conv => whnf
  have nv : nearI (t1 - e1) (t2 - e2) (t3 - e3) = true := by rw [PV.near_iff]; omega
  obtain ⟨bf, br, bg⟩ := PL.frame_b nv hu hf
  refine lensPlace he ht hu hL ha hb (fun d1 d2 d3 x y h0 b1 b2 b3 bx by' => ?_)
  conv => whnf
  replace h := fun k s1 s2 s3 n d o => h k s1 s2 s3 n d o _ _ _ _ hf
  have none : ∀ {fo : Bool}, (L = 0 → fo = false ∨ ¬ (1 ≤ ((p1 - e1) * f1 + (p2 - e2) * f2 + (p3 - e3) * f3) / 16384)) → SeeP e1 e2 e3 W H K L F p1 p2 p3 (f1, f2, f3) (r1, r2, r3) (g1, g2, g3) fo 0 0 0 0 0 0 false := fun {fo} hn =>
    ⟨fun _ => ⟨rfl, rfl, rfl, rfl, rfl, rfl⟩, (by intro h; cases h), fun h0 => ⟨by
      rcases hn h0 with e | e
      · rw [e]; rfl
      · rw [decide_eq_false e]; simp, (by intro h; cases h)⟩⟩
  cases o
  · conv => whnf
    exact ⟨rfl, h _ _ _ _ _ _ _ (none (fun _ => .inl rfl))⟩
  conv => whnf
  refine triPlace (fun v hv => ?_)
  conv => whnf
  obtain rfl := hv.trans hp
  conv => whnf
  refine triPlace (fun w hw => ?_)
  conv => whnf
  cases w
  · conv => whnf
    exact ⟨rfl, h _ _ _ _ _ _ _ (none (fun g => by obtain ⟨rfl, rfl, rfl, _⟩ := h0 g; rw [he] at hw; cases hw))⟩
  conv => whnf
  have pd := PL.place_iff.1 hw.symm
  refine vecSub (by unfold I64; omega) (by unfold I64; omega) (by unfold I64; omega) (by unfold I64; omega) (by unfold I64; omega) (by unfold I64; omega) (fun v1 v2 v3 k1 k2 k3 => ?_)
  conv => whnf
  rw [PB.sub_i (by omega) (by omega)] at k1 k2 k3
  have nv' : nearI v1 v2 v3 = true := by rw [PV.near_iff]; omega
  have bv := PV.near_iff.1 nv'
  refine lensIn (PB.near_u bf) (PB.near_u br) (PB.near_u bg) nv' (fun p q d hp' hq hd => ?_)
  conv => whnf
  have bp := PL.dot16_b bv.1 bv.2.1 bv.2.2 br.1 br.2.1 br.2.2
  have bq := PL.dot16_b bv.1 bv.2.1 bv.2.2 bg.1 bg.2.1 bg.2.2
  have bd := PL.dot16_b bv.1 bv.2.1 bv.2.2 bf.1 bf.2.1 bf.2.2
  rw [← hp'] at bp; rw [← hq] at bq; rw [← hd] at bd
  generalize hB : decide ((_ : Int) < 1) = bB
  replace hB : decide (d < 1) = bB := hB
  by_cases gd : d < 1
  · rw [decide_eq_true gd] at hB; subst hB
    conv => whnf
    exact ⟨rfl, h _ _ _ _ _ _ _ (none (fun g => .inr (by obtain ⟨rfl, rfl, rfl, _⟩ := h0 g; rw [← k1, ← k2, ← k3, ← hd]; omega)))⟩
  rw [decide_eq_false gd] at hB; subst hB
  conv => whnf
  obtain ⟨iv1, iv2, iv3⟩ := PB.near_I nv'
  have dd := PV.dot_i v1 v2 v3 v1 v2 v3
  have df : 1 ≤ dotI v1 v2 v3 f1 f2 f3 := by unfold dotI; rw [if_pos ⟨nv', PB.near_u bf⟩]; omega
  generalize hB : decide ((_ : Int) > 0) = bB
  replace hB : decide (L > 0) = bB := hB
  by_cases gL : L > 0
  · rw [decide_eq_true gL] at hB; subst hB
    conv => whnf
    have hF' := hLF gL
    have q1 := PV.mul_le bp (show -524288 ≤ F ∧ F ≤ 524288 by omega)
    have q2 := PV.mul_le bq (show -524288 ≤ F ∧ F ≤ 524288 by omega)
    have E1 : Z.mul .i64 p F = p * F := Z.wrap_iid (by omega) (by omega)
    have E2 : Z.mul .i64 q F = q * F := Z.wrap_iid (by omega) (by omega)
    have D1 := PL.div_b (A := 1649267441664) (t := p * F) (m := d) (by omega) (by omega) (by omega)
    have D2 := PL.div_b (A := 1649267441664) (t := q * F) (m := d) (by omega) (by omega) (by omega)
    try (refine AW_draw tok hP ?_; conv => whnf)
    first | refine AQ_int (fun sK QK hK => numDiv (a := Z.mul .i64 p F) (by rw [E1]; omega) (by rw [E1]; omega) hK) (fun m1 j1 => ?_) | refine numDiv (a := Z.mul .i64 p F) (by rw [E1]; omega) (by rw [E1]; omega) (fun m1 j1 => ?_)
    conv => whnf
    try (refine And.intro (OkD.mk (by kernel_rfl)) ?_; conv => whnf)
    try (refine AW_draw tok hP ?_; conv => whnf)
    first | refine AQ_int (fun sK QK hK => numDiv (a := Z.mul .i64 q F) (by rw [E2]; omega) (by rw [E2]; omega) hK) (fun m2 j2 => ?_) | refine numDiv (a := Z.mul .i64 q F) (by rw [E2]; omega) (by rw [E2]; omega) (fun m2 j2 => ?_)
    conv => whnf
    try (refine And.intro (OkD.mk (by kernel_rfl)) ?_; conv => whnf)
    rw [E1] at j1; rw [E2] at j2
    rw [← j1] at D1; rw [← j2] at D2
    have A1 : Z.add .i64 x m1 = x + m1 := Z.wrap_iid (by omega) (by omega)
    have A2 : Z.add .i64 y m2 = y + m2 := Z.wrap_iid (by omega) (by omega)
    conv => whnf
    rw [A1, A2]
    have P1 : -1649267445761 ≤ x + m1 ∧ x + m1 ≤ 1649267445761 := by omega
    have P2 : -1649267445761 ≤ -(y + m2) ∧ -(y + m2) ≤ 1649267445761 := by omega
    have r1' := PV.mul_le P1 (show -65536 ≤ K ∧ K ≤ 65536 by omega)
    have r2' := PV.mul_le P2 (show -65536 ≤ K ∧ K ≤ 65536 by omega)
    have G1 : Z.mul .i64 (x + m1) K = (x + m1) * K := Z.wrap_iid (by omega) (by omega)
    have G2 : Z.neg .i64 (y + m2) = -(y + m2) := by rw [show Z.neg .i64 (y + m2) = 0 - (y + m2) from Z.wrap_iid (by omega) (by omega)]; omega
    have G3 : Z.mul .i64 (Z.neg .i64 (y + m2)) K = -(y + m2) * K := by rw [G2]; exact Z.wrap_iid (by omega) (by omega)
    have H1 := PL.div_b (A := 108086391325392896) (t := (x + m1) * K) (m := F) (by omega) (by omega) (by omega)
    have H2 := PL.div_b (A := 108086391325392896) (t := -(y + m2) * K) (m := F) (by omega) (by omega) (by omega)
    try (refine AW_draw tok hP ?_; conv => whnf)
    first | refine AQ_int (fun sK QK hK => numDiv (a := Z.mul .i64 (x + m1) K) (by rw [G1]; omega) (by rw [G1]; omega) hK) (fun c1 j3 => ?_) | refine numDiv (a := Z.mul .i64 (x + m1) K) (by rw [G1]; omega) (by rw [G1]; omega) (fun c1 j3 => ?_)
    conv => whnf
    try (refine And.intro (OkD.mk (by kernel_rfl)) ?_; conv => whnf)
    try (refine AW_draw tok hP ?_; conv => whnf)
    first | refine AQ_int (fun sK QK hK => numDiv (a := Z.mul .i64 (Z.neg .i64 (y + m2)) K) (by rw [G3]; omega) (by rw [G3]; omega) hK) (fun c2 j4 => ?_) | refine numDiv (a := Z.mul .i64 (Z.neg .i64 (y + m2)) K) (by rw [G3]; omega) (by rw [G3]; omega) (fun c2 j4 => ?_)
    conv => whnf
    try (refine And.intro (OkD.mk (by kernel_rfl)) ?_; conv => whnf)
    rw [G1] at j3; rw [G3] at j4
    rw [← j3] at H1; rw [← j4] at H2
    try (refine AW_draw tok hP ?_; conv => whnf)
    first | refine AQ_ib (fun sK QK hK => lensPixel hW hH (by omega) (by omega) hK) (fun k o hk ho => ?_) | refine lensPixel hW hH (by omega) (by omega) (fun k o hk ho => ?_)
    conv => whnf
    try (refine And.intro (OkD.mk (by kernel_rfl)) ?_; conv => whnf)
    cases o
    · conv => whnf
      exact ⟨rfl, h _ _ _ _ _ _ _ (none (fun e => absurd e (by omega)))⟩
    conv => whnf
    obtain ⟨_, x2, x3⟩ := PL.pix_in hW hH ho.symm
    rw [← hk] at x2 x3
    try (refine AW_draw tok hP ?_; conv => whnf)
    first | refine AQ_int (fun sK QK hK => vecDot iv1 iv2 iv3 iv1 iv2 iv3 hK) (fun dv hdv => ?_) | refine vecDot iv1 iv2 iv3 iv1 iv2 iv3 (fun dv hdv => ?_)
    conv => whnf
    try (refine And.intro (OkD.mk (by kernel_rfl)) ?_; conv => whnf)
    exact ⟨rfl, h _ _ _ _ _ _ _ ⟨(by intro h; cases h), fun _ => ⟨⟨x2, x3⟩, hw.symm, rfl, by rw [← k1, ← k2, ← k3]; exact hdv, by rw [← k1, ← k2, ← k3]; exact df⟩, fun e => absurd e (by omega)⟩⟩
  · rw [decide_eq_false gL] at hB; subst hB
    conv => whnf
    have l0 : L = 0 := by omega
    have q1 := PV.mul_le bp (show -65536 ≤ K ∧ K ≤ 65536 by omega)
    have q2 := PV.mul_le (a := -q) (A := 3145728) (by omega) (show -65536 ≤ K ∧ K ≤ 65536 by omega)
    have E1 : Z.mul .i64 p K = p * K := Z.wrap_iid (by omega) (by omega)
    have E2 : Z.neg .i64 q = -q := by rw [show Z.neg .i64 q = 0 - q from Z.wrap_iid (by omega) (by omega)]; omega
    have E3 : Z.mul .i64 (Z.neg .i64 q) K = -q * K := by rw [E2]; exact Z.wrap_iid (by omega) (by omega)
    have D1 := PL.div_b (A := 206158430208) (t := p * K) (m := d) (by omega) (by omega) (by omega)
    have D2 := PL.div_b (A := 206158430208) (t := -q * K) (m := d) (by omega) (by omega) (by omega)
    try (refine AW_draw tok hP ?_; conv => whnf)
    first | refine AQ_int (fun sK QK hK => numDiv (a := Z.mul .i64 p K) (by rw [E1]; omega) (by rw [E1]; omega) hK) (fun m1 j1 => ?_) | refine numDiv (a := Z.mul .i64 p K) (by rw [E1]; omega) (by rw [E1]; omega) (fun m1 j1 => ?_)
    conv => whnf
    try (refine And.intro (OkD.mk (by kernel_rfl)) ?_; conv => whnf)
    try (refine AW_draw tok hP ?_; conv => whnf)
    first | refine AQ_int (fun sK QK hK => numDiv (a := Z.mul .i64 (Z.neg .i64 q) K) (by rw [E3]; omega) (by rw [E3]; omega) hK) (fun m2 j2 => ?_) | refine numDiv (a := Z.mul .i64 (Z.neg .i64 q) K) (by rw [E3]; omega) (by rw [E3]; omega) (fun m2 j2 => ?_)
    conv => whnf
    try (refine And.intro (OkD.mk (by kernel_rfl)) ?_; conv => whnf)
    rw [E1] at j1; rw [E3] at j2
    rw [← j1] at D1; rw [← j2] at D2
    try (refine AW_draw tok hP ?_; conv => whnf)
    first | refine AQ_ib (fun sK QK hK => lensPixel hW hH (by omega) (by omega) hK) (fun k o hk ho => ?_) | refine lensPixel hW hH (by omega) (by omega) (fun k o hk ho => ?_)
    conv => whnf
    try (refine And.intro (OkD.mk (by kernel_rfl)) ?_; conv => whnf)
    obtain ⟨z1, z2, z3, _⟩ := h0 l0
    have eo : (true && (decide (1 ≤ ((p1 - e1) * f1 + (p2 - e2) * f2 + (p3 - e3) * f3) / 16384) && inB W H (colI K W (((p1 - e1) * r1 + (p2 - e2) * r2 + (p3 - e3) * r3) / 16384) (((p1 - e1) * f1 + (p2 - e2) * f2 + (p3 - e3) * f3) / 16384)) (colI K H (-(((p1 - e1) * g1 + (p2 - e2) * g2 + (p3 - e3) * g3) / 16384)) (((p1 - e1) * f1 + (p2 - e2) * f2 + (p3 - e3) * f3) / 16384)))) = o := by
      rw [← z1, ← z2, ← z3, ← k1, ← k2, ← k3, ← hp', ← hq, ← hd, decide_eq_true (show 1 ≤ d by omega)]
      unfold colI
      rw [← j1, ← j2, ho]; rfl
    cases o
    · conv => whnf
      exact ⟨rfl, h _ _ _ _ _ _ _ ⟨fun _ => ⟨rfl, rfl, rfl, rfl, rfl, rfl⟩, (by intro h; cases h), fun _ => ⟨eo.symm, (by intro h; cases h)⟩⟩⟩
    conv => whnf
    obtain ⟨x1, x2, x3⟩ := PL.pix_in hW hH ho.symm
    rw [← hk] at x1 x2 x3
    try (refine AW_draw tok hP ?_; conv => whnf)
    first | refine AQ_int (fun sK QK hK => vecDot iv1 iv2 iv3 iv1 iv2 iv3 hK) (fun dv hdv => ?_) | refine vecDot iv1 iv2 iv3 iv1 iv2 iv3 (fun dv hdv => ?_)
    conv => whnf
    try (refine And.intro (OkD.mk (by kernel_rfl)) ?_; conv => whnf)
    have kk : k = colI K H (-(((p1 - e1) * g1 + (p2 - e2) * g2 + (p3 - e3) * g3) / 16384)) (((p1 - e1) * f1 + (p2 - e2) * f2 + (p3 - e3) * f3) / 16384) * W + colI K W (((p1 - e1) * r1 + (p2 - e2) * r2 + (p3 - e3) * r3) / 16384) (((p1 - e1) * f1 + (p2 - e2) * f2 + (p3 - e3) * f3) / 16384) := by
      rw [← z1, ← z2, ← z3, ← k1, ← k2, ← k3, ← hp', ← hq, ← hd]
      unfold colI
      rw [← j1, ← j2]; exact x1
    exact ⟨rfl, h _ _ _ _ _ _ _ ⟨(by intro h; cases h), fun _ => ⟨⟨x2, x3⟩, hw.symm, rfl, by rw [← k1, ← k2, ← k3]; exact hdv, by rw [← k1, ← k2, ← k3]; exact df⟩, fun _ => ⟨eo.symm, fun _ => ⟨⟨z1, z2, z3⟩, kk⟩⟩⟩⟩
