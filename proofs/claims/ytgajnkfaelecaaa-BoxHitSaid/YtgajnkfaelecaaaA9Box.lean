/- Part of the proof of a law of the seat: its functions, walked. No condition. -/
import Derived.Test.YtgajnkfaelecaaaA9Vec
import Derived.Test.YtgajnkfaelecaaaA9Frac
import Derived.Test.YtgajnkfaelecaaaPBox
import Derived.Test.YtgajnkfaelecaaaEngC
namespace Go.AW.A9
open Go Go.AW Go.Proofs
set_option maxRecDepth 100000
set_option maxHeartbeats 8000000
set_option linter.unusedVariables false
theorem boxRight {a b c d e f : Int} (ha : I64 a) (hb : I64 b) (hc : I64 c) (hd : I64 d) (he : I64 e) (hf : I64 f) {s : List Ob} {Q : AV → List Ob → Prop} (h : ∀ v, v = boxB a b c d e f → Q (.bool v) s) : AC Try.prog 24 [.agg [.int .i64 a, .int .i64 b, .int .i64 c, .int .i64 d, .int .i64 e, .int .i64 f]] s Q := by
  unfold boxB at h
  refine AC_pure rfl ?_
  refine AC_body tok 3 Try.func24 rfl (by kernel_rfl) ?_
  conv => whnf
  refine vecNear ha hb hc (fun v hv => ?_)
  conv => whnf
  rw [← hv] at h
  cases v
  · conv => whnf
    exact ⟨rfl, h _ rfl⟩
  conv => whnf
  refine vecNear hd he hf (fun v2 hv2 => ?_)
  conv => whnf
  rw [← hv2] at h
  cases v2
  · conv => whnf
    exact ⟨rfl, h _ rfl⟩
  conv => whnf
  refine AC_body tok 3 Try.func44 rfl (by kernel_rfl) ?_
  conv => whnf
  refine AW_range tok [false, false, true, true] (f := 68) (a := []) (b := [.ptr 2 0 0, .ptr 3 0 0]) ⟨_, Try.func68, by kernel_rfl, by kernel_rfl⟩ rfl rfl rfl rfl (Nat.le_refl 4) rfl (fun l O hY => ?_)
  refine ACo_body tok 0 Try.func68 rfl (by kernel_rfl) ?_
  conv => whnf
  refine hY.yield 3 ?_ rfl
  conv => whnf
  by_cases g1 : a > d
  · rw [decide_eq_true g1]
    rw [decide_eq_false (show ¬ a ≤ d by omega)] at h
    conv => whnf
    exact ⟨rfl, h _ rfl⟩
  rw [decide_eq_false g1]
  rw [decide_eq_true (show a ≤ d by omega)] at h
  conv => whnf
  refine hY.yield 3 ?_ rfl
  conv => whnf
  by_cases g2 : b > e
  · rw [decide_eq_true g2]
    rw [decide_eq_false (show ¬ b ≤ e by omega)] at h
    conv => whnf
    exact ⟨rfl, h _ rfl⟩
  rw [decide_eq_false g2]
  rw [decide_eq_true (show b ≤ e by omega)] at h
  conv => whnf
  refine hY.yield 3 ?_ rfl
  conv => whnf
  by_cases g3 : c > f
  · rw [decide_eq_true g3]
    rw [decide_eq_false (show ¬ c ≤ f by omega)] at h
    conv => whnf
    exact ⟨rfl, h _ rfl⟩
  rw [decide_eq_false g3]
  rw [decide_eq_true (show c ≤ f by omega)] at h
  conv => whnf
  exact ⟨rfl, h _ rfl⟩
theorem boxHas {a b c d e f x y z : Int} (ha : I64 a) (hb : I64 b) (hc : I64 c) (hd : I64 d) (he : I64 e) (hf : I64 f) {s : List Ob} {Q : AV → List Ob → Prop} (h : ∀ v, v = (boxB a b c d e f && (decide (a ≤ x ∧ x ≤ d) && (decide (b ≤ y ∧ y ≤ e) && decide (c ≤ z ∧ z ≤ f)))) → Q (.bool v) s) : AC Try.prog 23 [.agg [.int .i64 a, .int .i64 b, .int .i64 c, .int .i64 d, .int .i64 e, .int .i64 f], .agg [.int .i64 x, .int .i64 y, .int .i64 z]] s Q := by
  refine AC_pure rfl ?_
  refine AC_body tok 3 Try.func23 rfl (by kernel_rfl) ?_
  conv => whnf
  refine boxRight ha hb hc hd he hf (fun v hv => ?_)
  conv => whnf
  rw [← hv] at h
  cases v
  · conv => whnf
    exact ⟨rfl, h _ rfl⟩
  conv => whnf
  refine AC_body tok 3 Try.func44 rfl (by kernel_rfl) ?_
  conv => whnf
  refine AW_range tok [false, false, false, true, true] (f := 68) (a := []) (b := [.ptr 3 0 0, .ptr 4 0 0]) ⟨_, Try.func68, by kernel_rfl, by kernel_rfl⟩ rfl rfl rfl rfl (Nat.le_refl 5) rfl (fun l O hY => ?_)
  refine ACo_body tok 0 Try.func68 rfl (by kernel_rfl) ?_
  conv => whnf
  refine hY.yield 3 ?_ rfl
  conv => whnf
  by_cases g1 : x < a
  · rw [decide_eq_true g1]
    conv => whnf
    exact ⟨rfl, h _ (by rw [decide_eq_false (show ¬ (a ≤ x ∧ x ≤ d) by omega)]; simp)⟩
  rw [decide_eq_false g1]
  conv => whnf
  by_cases g2 : x > d
  · rw [decide_eq_true g2]
    conv => whnf
    exact ⟨rfl, h _ (by rw [decide_eq_false (show ¬ (a ≤ x ∧ x ≤ d) by omega)]; simp)⟩
  rw [decide_eq_false g2]
  rw [decide_eq_true (show a ≤ x ∧ x ≤ d by omega)] at h
  conv => whnf
  clear g1 g2
  refine hY.yield 3 ?_ rfl
  conv => whnf
  by_cases g1 : y < b
  · rw [decide_eq_true g1]
    conv => whnf
    exact ⟨rfl, h _ (by rw [decide_eq_false (show ¬ (b ≤ y ∧ y ≤ e) by omega)]; simp)⟩
  rw [decide_eq_false g1]
  conv => whnf
  by_cases g2 : y > e
  · rw [decide_eq_true g2]
    conv => whnf
    exact ⟨rfl, h _ (by rw [decide_eq_false (show ¬ (b ≤ y ∧ y ≤ e) by omega)]; simp)⟩
  rw [decide_eq_false g2]
  rw [decide_eq_true (show b ≤ y ∧ y ≤ e by omega)] at h
  conv => whnf
  clear g1 g2
  refine hY.yield 3 ?_ rfl
  conv => whnf
  by_cases g1 : z < c
  · rw [decide_eq_true g1]
    conv => whnf
    exact ⟨rfl, h _ (by rw [decide_eq_false (show ¬ (c ≤ z ∧ z ≤ f) by omega)]; simp)⟩
  rw [decide_eq_false g1]
  conv => whnf
  by_cases g2 : z > f
  · rw [decide_eq_true g2]
    conv => whnf
    exact ⟨rfl, h _ (by rw [decide_eq_false (show ¬ (c ≤ z ∧ z ≤ f) by omega)]; simp)⟩
  rw [decide_eq_false g2]
  rw [decide_eq_true (show c ≤ z ∧ z ≤ f by omega)] at h
  conv => whnf
  clear g1 g2
  exact ⟨rfl, h _ rfl⟩
theorem boxArea {a b c d e f : Int} (ha : I64 a) (hb : I64 b) (hc : I64 c) (hd : I64 d) (he : I64 e) (hf : I64 f) {s : List Ob} {Q : AV → List Ob → Prop} (h : ∀ v, v = areaI a b c d e f → Q (.int .i64 v) s) : AC Try.prog 25 [.agg [.int .i64 a, .int .i64 b, .int .i64 c, .int .i64 d, .int .i64 e, .int .i64 f]] s Q := by
  unfold areaI at h
  refine AC_pure rfl ?_
  refine AC_body tok 3 Try.func25 rfl (by kernel_rfl) ?_
  conv => whnf
  refine boxRight ha hb hc hd he hf (fun v hv => ?_)
  conv => whnf
  rw [← hv] at h
  cases v
  · conv => whnf
    exact ⟨rfl, h _ rfl⟩
  conv => whnf
  refine AC_body tok 3 Try.func44 rfl (by kernel_rfl) ?_
  conv => whnf
  refine AW_range tok [false, false, false, true, true] (f := 68) (a := []) (b := [.ptr 3 0 0, .ptr 4 0 0]) ⟨_, Try.func68, by kernel_rfl, by kernel_rfl⟩ rfl rfl rfl rfl (Nat.le_refl 5) rfl (fun l O hY => ?_)
  refine ACo_body tok 0 Try.func68 rfl (by kernel_rfl) ?_
  conv => whnf
  refine hY.yield 3 ?_ rfl
  conv => whnf
  refine hY.yield 3 ?_ rfl
  conv => whnf
  refine hY.yield 3 ?_ rfl
  conv => whnf
  have bx := PB.box_iff.1 hv.symm
  rw [show Z.sub .i64 d a = d - a from Z.wrap_iid (by omega) (by omega), show Z.sub .i64 e b = e - b from Z.wrap_iid (by omega) (by omega), show Z.sub .i64 f c = f - c from Z.wrap_iid (by omega) (by omega)]
  rw [if_pos rfl] at h
  obtain ⟨p, ep, hp⟩ : ∃ p, p = d - a ∧ 0 ≤ p ∧ p ≤ 2097152 := ⟨_, rfl, by omega, by omega⟩
  obtain ⟨q, eq, hq⟩ : ∃ q, q = e - b ∧ 0 ≤ q ∧ q ≤ 2097152 := ⟨_, rfl, by omega, by omega⟩
  obtain ⟨r, er, hr⟩ : ∃ r, r = f - c ∧ 0 ≤ r ∧ r ≤ 2097152 := ⟨_, rfl, by omega, by omega⟩
  rw [← ep, ← eq, ← er] at h ⊢
  have p2 := PB.sq_b hp.1 hp.2
  have q2 := PB.sq_b hq.1 hq.2
  have r2 := PB.sq_b hr.1 hr.2
  have id := PB.area_id p q r
  have s2 := PV.mul_le (a := p + q + r) (b := p + q + r) (A := 6291456) (B := 6291456) (by omega) (by omega)
  have pq := Int.mul_nonneg hp.1 hq.1
  have qr := Int.mul_nonneg hq.1 hr.1
  have rp := Int.mul_nonneg hr.1 hp.1
  rw [show Z.add .i64 (Z.add .i64 (Z.add .i64 0 p) q) r = p + q + r by rw [show Z.add .i64 0 p = p from (Z.wrap_iid (by omega) (by omega)).trans (Int.zero_add p), show Z.add .i64 p q = p + q from Z.wrap_iid (by omega) (by omega)]; exact Z.wrap_iid (by omega) (by omega),
    show Z.mul .i64 p p = p * p from Z.wrap_iid (by omega) (by omega), show Z.mul .i64 q q = q * q from Z.wrap_iid (by omega) (by omega), show Z.mul .i64 r r = r * r from Z.wrap_iid (by omega) (by omega),
    show Z.add .i64 (Z.add .i64 (Z.add .i64 0 (p * p)) (q * q)) (r * r) = p * p + q * q + r * r by rw [show Z.add .i64 0 (p * p) = p * p from (Z.wrap_iid (by omega) (by omega)).trans (Int.zero_add _), show Z.add .i64 (p * p) (q * q) = p * p + q * q from Z.wrap_iid (by omega) (by omega)]; exact Z.wrap_iid (by omega) (by omega),
    show Z.mul .i64 (p + q + r) (p + q + r) = (p + q + r) * (p + q + r) from Z.wrap_iid (by omega) (by omega),
    show Z.sub .i64 ((p + q + r) * (p + q + r)) (p * p + q * q + r * r) = (p + q + r) * (p + q + r) - (p * p + q * q + r * r) from Z.wrap_iid (by omega) (by omega), id, quo_pos (by omega) (by omega) (by omega)]
  exact ⟨rfl, h _ (by omega)⟩
theorem boxMid {a b c d e f k : Int} (ha : I64 a) (hb : I64 b) (hc : I64 c) (hd : I64 d) (he : I64 e) (hf : I64 f) {s : List Ob} {Q : AV → List Ob → Prop} (h : ∀ v, v = midB a b c d e f k → Q (.int .i64 v) s) : AC Try.prog 40 [.agg [.int .i64 a, .int .i64 b, .int .i64 c, .int .i64 d, .int .i64 e, .int .i64 f], .int .i64 k] s Q := by
  unfold midB at h
  refine AC_pure rfl ?_
  refine AC_body tok 3 Try.func40 rfl (by kernel_rfl) ?_
  conv => whnf
  refine boxRight ha hb hc hd he hf (fun v hv => ?_)
  conv => whnf
  rw [← hv] at h
  cases v
  · conv => whnf
    exact ⟨rfl, h _ rfl⟩
  conv => whnf
  refine AC_body tok 3 Try.func44 rfl (by kernel_rfl) ?_
  conv => whnf
  refine AW_range tok [false, false, false, false, true, true] (f := 68) (a := []) (b := [.ptr 4 0 0, .ptr 5 0 0]) ⟨_, Try.func68, by kernel_rfl, by kernel_rfl⟩ rfl rfl rfl rfl (Nat.le_refl 6) rfl (fun l O hY => ?_)
  refine ACo_body tok 0 Try.func68 rfl (by kernel_rfl) ?_
  conv => whnf
  have bx := PB.box_iff.1 hv.symm
  rw [if_pos rfl] at h
  refine hY.yield 3 ?_ rfl
  conv => whnf
  refine ifE (fun g => ?_) (fun g => ?_)
  · conv => whnf
    have kk : k = 0 := g.symm.trans (by decide)
    subst kk
    exact ⟨rfl, h _ (show Z.add .i64 a d = a + d from Z.wrap_iid (by omega) (by omega))⟩
  conv => whnf
  replace g : k ≠ 0 := fun q => g (by rw [q] <;> decide)
  rw [if_neg g] at h
  refine hY.yield 3 ?_ rfl
  conv => whnf
  refine ifE (fun g => ?_) (fun g => ?_)
  · conv => whnf
    have kk : k = 1 := g.symm.trans (by decide)
    subst kk
    exact ⟨rfl, h _ (show Z.add .i64 b e = b + e from Z.wrap_iid (by omega) (by omega))⟩
  conv => whnf
  replace g : k ≠ 1 := fun q => g (by rw [q] <;> decide)
  rw [if_neg g] at h
  refine hY.yield 3 ?_ rfl
  conv => whnf
  refine ifE (fun g => ?_) (fun g => ?_)
  · conv => whnf
    have kk : k = 2 := g.symm.trans (by decide)
    subst kk
    exact ⟨rfl, h _ (show Z.add .i64 c f = c + f from Z.wrap_iid (by omega) (by omega))⟩
  conv => whnf
  replace g : k ≠ 2 := fun q => g (by rw [q] <;> decide)
  rw [if_neg g] at h
  exact ⟨rfl, h _ rfl⟩
theorem refBoxRight {a b c d e f : Int} {s : List Ob} {Q : AV → List Ob → Prop} (h : ∀ v, v = boxB a b c d e f → Q (.bool v) s) : AC Try.prog 15 [.agg [.int .i64 a, .int .i64 b, .int .i64 c, .int .i64 d, .int .i64 e, .int .i64 f]] s Q := by
  unfold boxB at h
  refine AC_pure rfl ?_
  refine AC_body tok 3 Try.func15 rfl (by kernel_rfl) ?_
  conv => whnf
  refine refNear (fun v hv => ?_)
  conv => whnf
  rw [← hv] at h
  cases v
  · conv => whnf
    exact ⟨rfl, h _ rfl⟩
  conv => whnf
  refine refNear (fun v2 hv2 => ?_)
  conv => whnf
  rw [← hv2] at h
  cases v2
  · conv => whnf
    exact ⟨rfl, h _ rfl⟩
  conv => whnf
  by_cases g1 : a ≤ d
  · rw [decide_eq_true g1] at h ⊢
    conv => whnf
    by_cases g2 : b ≤ e
    · rw [decide_eq_true g2] at h ⊢
      conv => whnf
      exact ⟨rfl, h _ rfl⟩
    · rw [decide_eq_false g2] at h ⊢
      conv => whnf
      exact ⟨rfl, h _ rfl⟩
  · rw [decide_eq_false g1] at h ⊢
    conv => whnf
    exact ⟨rfl, h _ rfl⟩
theorem boxOf4 {e0 : TypeId} {i : Nat} {a b c d e f a' b' c' d' e' f' : Int} (ha : I64 a) (hb : I64 b) (hc : I64 c) (hd : I64 d) (he : I64 e) (hf : I64 f) (ha' : I64 a') (hb' : I64 b') (hc' : I64 c') (hd' : I64 d') (he' : I64 e') (hf' : I64 f')
    (hn : boxB a b c d e f = true) (hn' : boxB a' b' c' d' e' f' = true) {s : List Ob} (hs : s[i]? = some (.row true e0 [.ik .i64, .ik .i64, .ik .i64] [[a, b, c], [d, e, f], [a', b', c'], [d', e', f']])) {Q : AV → List Ob → Prop}
    (h : Q (.tup [.agg [.int .i64 (min a a'), .int .i64 (min b b'), .int .i64 (min c c'), .int .i64 (max d d'), .int .i64 (max e e'), .int .i64 (max f f')], .bool true]) s) : AC Try.prog 48 [.sl i 0 4 none] s Q := by
  refine AC_read (args' := [.sl 0 0 4 none]) (L := [.row true e0 [.ik .i64, .ik .i64, .ik .i64] [[a, b, c], [d, e, f], [a', b', c'], [d', e', f']]]) [i] (by simp) rfl rfl (by rintro (_ | i') j ob h1 h2 <;> simp at h1 h2; subst h1 h2; exact hs) ?_
  have bx := PB.box_iff.1 hn
  have bx' := PB.box_iff.1 hn'
  refine AC_body tok 5 Try.func48 rfl (by kernel_rfl) ?_
  conv => whnf
  try (refine AW_draw tok hP ?_; conv => whnf)
  refine ⟨⟨by kernel_rfl⟩, ?_⟩
  conv => whnf
  refine vecNear ha hb hc (fun v hv => ?_)
  obtain rfl : v = true := by rw [hv]; exact PB.near_iff.2 bx.1
  conv => whnf
  clear hv
  refine vecNear hd he hf (fun v hv => ?_)
  obtain rfl : v = true := by rw [hv]; exact PB.near_iff.2 bx.2.1
  conv => whnf
  clear hv
  refine vecNear ha' hb' hc' (fun v hv => ?_)
  obtain rfl : v = true := by rw [hv]; exact PB.near_iff.2 bx'.1
  conv => whnf
  clear hv
  refine vecNear hd' he' hf' (fun v hv => ?_)
  obtain rfl : v = true := by rw [hv]; exact PB.near_iff.2 bx'.2.1
  conv => whnf
  clear hv
  have mm : ∀ x y : Int, mmI false x y = min x y := fun x y => by unfold mmI; simp only [cond_false]; split <;> omega
  have mx : ∀ x y : Int, mmI true x y = max x y := fun x y => by unfold mmI; simp only [cond_true]; split <;> omega
  have k1 : ∀ p q p' q' : Int, p ≤ q → p' ≤ q' → mmI false (mmI false (mmI false (mmI false p p) q) p') q' = min p p' := fun p q p' q' h1 h2 => by simp only [mm]; omega
  have k2 : ∀ p q p' q' : Int, p ≤ q → p' ≤ q' → mmI true (mmI true (mmI true (mmI true p p) q) p') q' = max q q' := fun p q p' q' h1 h2 => by simp only [mx]; omega
  refine ⟨rfl, rfl, ?_⟩
  rw [← k1 a d a' d' (by omega) (by omega), ← k1 b e b' e' (by omega) (by omega), ← k1 c f c' f' (by omega) (by omega), ← k2 a d a' d' (by omega) (by omega), ← k2 b e b' e' (by omega) (by omega), ← k2 c f c' f' (by omega) (by omega)] at h
  exact h
theorem boxJoin {a b c d e f a' b' c' d' e' f' : Int} (ha : I64 a) (hb : I64 b) (hc : I64 c) (hd : I64 d) (he : I64 e) (hf : I64 f) (ha' : I64 a') (hb' : I64 b') (hc' : I64 c') (hd' : I64 d') (he' : I64 e') (hf' : I64 f') (hn : boxB a b c d e f = true) (hn' : boxB a' b' c' d' e' f' = true) {s : List Ob} {Q : AV → List Ob → Prop}
    (h : ∀ u v w x y z, u = min a a' → v = min b b' → w = min c c' → x = max d d' → y = max e e' → z = max f f' → Q (.agg [.int .i64 u, .int .i64 v, .int .i64 w, .int .i64 x, .int .i64 y, .int .i64 z]) s) : AC Try.prog 22 [.agg [.int .i64 a, .int .i64 b, .int .i64 c, .int .i64 d, .int .i64 e, .int .i64 f], .agg [.int .i64 a', .int .i64 b', .int .i64 c', .int .i64 d', .int .i64 e', .int .i64 f']] s Q := by
  refine AC_pure rfl ?_
  refine AC_body tok 5 Try.func22 rfl (by kernel_rfl) ?_
  conv => whnf
  refine boxRight ha hb hc hd he hf (fun v hv => ?_)
  conv => whnf
  obtain rfl : v = true := by rw [hv, hn]
  conv => whnf
  refine boxRight ha' hb' hc' hd' he' hf' (fun v hv => ?_)
  conv => whnf
  obtain rfl : v = true := by rw [hv, hn']
  conv => whnf
  try (refine AW_draw tok hP ?_; conv => whnf)
  refine boxOf4 ha hb hc hd he hf ha' hb' hc' hd' he' hf' hn hn' (by rfl) ?_
  conv => whnf
  exact ⟨rfl, h _ _ _ _ _ _ rfl rfl rfl rfl rfl rfl⟩
