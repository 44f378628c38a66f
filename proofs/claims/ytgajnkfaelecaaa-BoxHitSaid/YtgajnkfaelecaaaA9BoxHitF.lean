/- Part of the proof of a law of the seat: its functions, walked. No condition. -/
import Derived.Test.YtgajnkfaelecaaaA9Box
import Derived.Test.YtgajnkfaelecaaaA9Frac
import Derived.Test.YtgajnkfaelecaaaPBoxHit
namespace Go.AW.A9
open Go Go.AW Go.Proofs
set_option maxRecDepth 100000
set_option maxHeartbeats 8000000
set_option linter.unusedVariables false
theorem boxTimes {lo hi o d : Int} (hlo : -1048576 ≤ lo ∧ lo ≤ 1048576) (hhi : -1048576 ≤ hi ∧ hi ≤ 1048576) (ho : -1048576 ≤ o ∧ o ≤ 1048576) (hd : -1048576 ≤ d ∧ d ≤ 1048576) (h0 : d ≠ 0) {s : List Ob} {Q : AV → List Ob → Prop}
    (h : ∀ u v w x, u = fromX lo hi o d → v = szI d → w = toX lo hi o d → x = szI d → Q (.tup [.agg [.int .i64 u, .int .i64 v], .agg [.int .i64 w, .int .i64 x]]) s) : AC Try.prog 45 [.agg [.int .i64 lo, .int .i64 hi, .int .i64 o, .int .i64 d]] s Q := by
  unfold fromX toX szI at h
  refine AC_pure rfl ?_
  refine AC_body tok 3 Try.func45 rfl (by kernel_rfl) ?_
  conv => whnf
  have s1 : Z.sub .i64 lo o = lo - o := Z.wrap_iid (by omega) (by omega)
  have s2 : Z.sub .i64 hi o = hi - o := Z.wrap_iid (by omega) (by omega)
  have mk : ∀ n, -9223372036854775807 ≤ n → makeF n d = if d < 0 then (-n, -d, true) else (n, d, true) := fun n hn => by unfold makeF; rw [if_neg (by omega)]
  rw [s1]
  refine fracMake (by unfold I64; omega) (by unfold I64; omega) (fun u v ok e1 => ?_)
  conv => whnf
  rw [mk _ (by omega)] at e1
  rw [s2]
  refine fracMake (by unfold I64; omega) (by unfold I64; omega) (fun u' v' ok' e2 => ?_)
  conv => whnf
  rw [mk _ (by omega)] at e2
  by_cases g : d < 0
  · rw [if_pos g] at e1 e2
    obtain ⟨q1, q2, q3⟩ : u = -(lo - o) ∧ v = -d ∧ ok = true := by simpa using e1
    obtain ⟨q4, q5, q6⟩ : u' = -(hi - o) ∧ v' = -d ∧ ok' = true := by simpa using e2
    rw [decide_eq_true g]
    conv => whnf
    try (refine AW_draw tok hP ?_; conv => whnf)
    refine ⟨⟨by kernel_rfl⟩, ?_⟩
    conv => whnf
    exact ⟨rfl, h _ _ _ _ (by rw [if_pos g]; omega) (by rw [if_pos g]; exact q5) (by rw [if_pos g]; omega) (by rw [if_pos g]; exact q2)⟩
  · rw [if_neg g] at e1 e2
    obtain ⟨q1, q2, q3⟩ : u = lo - o ∧ v = d ∧ ok = true := by simpa using e1
    obtain ⟨q4, q5, q6⟩ : u' = hi - o ∧ v' = d ∧ ok' = true := by simpa using e2
    rw [decide_eq_false g]
    conv => whnf
    try (refine AW_draw tok hP ?_; conv => whnf)
    refine ⟨⟨by kernel_rfl⟩, ?_⟩
    conv => whnf
    exact ⟨rfl, h _ _ _ _ (by rw [if_neg g]; exact q1) (by rw [if_neg g]; exact q2) (by rw [if_neg g]; exact q4) (by rw [if_neg g]; exact q5)⟩
theorem boxHit {a b c d e f ox oy oz dx dy dz fr mn md : Int} (ha : I64 a) (hb : I64 b) (hc : I64 c) (hd : I64 d) (he : I64 e) (hf : I64 f) (hox : I64 ox) (hoy : I64 oy) (hoz : I64 oz) (hdx : I64 dx) (hdy : I64 dy) (hdz : I64 dz) (hmn : I64 mn) (hmd : I64 md) {s : List Ob} {Q : AV → List Ob → Prop}
    (h : ∀ v : Bool, (v = true ↔ boxB a b c d e f = true ∧ nearI ox oy oz = true ∧ nearI dx dy dz = true ∧ HitE [(a, d, ox, dx), (b, e, oy, dy), (c, f, oz, dz)] mn md) → Q (.bool v) s) :
    AC Try.prog 20 [.agg [.int .i64 a, .int .i64 b, .int .i64 c, .int .i64 d, .int .i64 e, .int .i64 f], .agg [.int .i64 ox, .int .i64 oy, .int .i64 oz, .int .i64 dx, .int .i64 dy, .int .i64 dz, .int .i64 fr], .agg [.int .i64 mn, .int .i64 md]] s Q := by
  refine AC_pure rfl ?_
  refine AC_body tok 3 Try.func20 rfl (by kernel_rfl) ?_
  conv => whnf
  refine boxRight ha hb hc hd he hf (fun v hv => ?_)
  conv => whnf
  rw [← hv] at h
  cases v
  · conv => whnf
    exact ⟨rfl, h _ (by simp)⟩
  conv => whnf
  refine vecNear hox hoy hoz (fun v hv2 => ?_)
  conv => whnf
  rw [← hv2] at h
  cases v
  · conv => whnf
    exact ⟨rfl, h _ (by simp)⟩
  conv => whnf
  refine vecNear hdx hdy hdz (fun v hv3 => ?_)
  conv => whnf
  rw [← hv3] at h
  cases v
  · conv => whnf
    exact ⟨rfl, h _ (by simp)⟩
  conv => whnf
  try (refine AW_draw tok hP ?_; conv => whnf)
  refine ⟨⟨by kernel_rfl⟩, ?_⟩
  conv => whnf
  refine AC_body tok 3 Try.func44 rfl (by kernel_rfl) ?_
  conv => whnf
  refine AW_range tok [false, false, false, false, false, false, true, true] (f := 68) (a := []) (b := [.ptr 6 0 0, .ptr 7 0 0]) ⟨_, Try.func68, by kernel_rfl, by kernel_rfl⟩ rfl rfl rfl rfl (Nat.le_refl 8) rfl (fun l O hY => ?_)
  refine ACo_body tok 0 Try.func68 rfl (by kernel_rfl) ?_
  conv => whnf
  have bx := PB.box_iff.1 hv.symm
  have bo := PB.near_iff.1 hv2.symm
  have bd := PB.near_iff.1 hv3.symm
  have l9 := PB.low0
  have h9 := PB.high0 mn md
  have bd9 : I64 0 ∧ I64 1 ∧ I64 mn ∧ I64 md := ⟨by decide, by decide, hmn, hmd⟩
  by_cases z0 : dx = 0
  · refine hY.yield 3 ?_ rfl
    conv => whnf
    rw [beq_iff_eq.2 z0]
    conv => whnf
    by_cases g0 : a ≤ ox
    case neg => rw [decide_eq_false g0]; conv => whnf
                exact ⟨rfl, h _ ⟨fun q => (by cases q), fun q => absurd (PB.hit_zero (lo := a) (hi := d) (o := ox) (d := dx) q.2.2.2 (by simp) z0) (by omega)⟩⟩
    rw [decide_eq_true g0]
    conv => whnf
    by_cases k0 : ox ≤ d
    case neg => rw [decide_eq_false k0]; conv => whnf
                exact ⟨rfl, h _ ⟨fun q => (by cases q), fun q => absurd (PB.hit_zero (lo := a) (hi := d) (o := ox) (d := dx) q.2.2.2 (by simp) z0) (by omega)⟩⟩
    rw [decide_eq_true k0]
    conv => whnf
    have l0 := PB.low_skip (lo := a) (hi := d) (o := ox) l9 z0
    have h0 := PB.high_skip (lo := a) (hi := d) (o := ox) h9 z0
    by_cases z1 : dy = 0
    · refine hY.yield 3 ?_ rfl
      conv => whnf
      rw [beq_iff_eq.2 z1]
      conv => whnf
      by_cases g1 : b ≤ oy
      case neg => rw [decide_eq_false g1]; conv => whnf
                  exact ⟨rfl, h _ ⟨fun q => (by cases q), fun q => absurd (PB.hit_zero (lo := b) (hi := e) (o := oy) (d := dy) q.2.2.2 (by simp) z1) (by omega)⟩⟩
      rw [decide_eq_true g1]
      conv => whnf
      by_cases k1 : oy ≤ e
      case neg => rw [decide_eq_false k1]; conv => whnf
                  exact ⟨rfl, h _ ⟨fun q => (by cases q), fun q => absurd (PB.hit_zero (lo := b) (hi := e) (o := oy) (d := dy) q.2.2.2 (by simp) z1) (by omega)⟩⟩
      rw [decide_eq_true k1]
      conv => whnf
      have l1 := PB.low_skip (lo := b) (hi := e) (o := oy) l0 z1
      have h1 := PB.high_skip (lo := b) (hi := e) (o := oy) h0 z1
      by_cases z2 : dz = 0
      · refine hY.yield 3 ?_ rfl
        conv => whnf
        rw [beq_iff_eq.2 z2]
        conv => whnf
        by_cases g2 : c ≤ oz
        case neg => rw [decide_eq_false g2]; conv => whnf
                    exact ⟨rfl, h _ ⟨fun q => (by cases q), fun q => absurd (PB.hit_zero (lo := c) (hi := f) (o := oz) (d := dz) q.2.2.2 (by simp) z2) (by omega)⟩⟩
        rw [decide_eq_true g2]
        conv => whnf
        by_cases k2 : oz ≤ f
        case neg => rw [decide_eq_false k2]; conv => whnf
                    exact ⟨rfl, h _ ⟨fun q => (by cases q), fun q => absurd (PB.hit_zero (lo := c) (hi := f) (o := oz) (d := dz) q.2.2.2 (by simp) z2) (by omega)⟩⟩
        rw [decide_eq_true k2]
        conv => whnf
        have l2 := PB.low_skip (lo := c) (hi := f) (o := oz) l1 z2
        have h2 := PB.high_skip (lo := c) (hi := f) (o := oz) h1 z2
        refine fracLess bd9.2.2.1 bd9.2.2.2 bd9.1 bd9.2.1 (fun t ht => ?_)
        conv => whnf
        have hh := PB.hit_of l2 h2 (by simp only [List.nil_append, List.cons_append, List.mem_cons, List.not_mem_nil, or_false]; rintro x (rfl | rfl | rfl) h0 <;> (first | exact ⟨g0, k0⟩ | exact ⟨g1, k1⟩ | exact ⟨g2, k2⟩ | exact absurd h0 (by assumption)))
        exact ⟨rfl, h _ (by rw [ht, Bool.not_eq_true', ← Bool.not_eq_true, PB.less_iff]; exact ⟨fun q => ⟨rfl, rfl, rfl, hh.1 fun w => q ⟨w.1, l2.pos, w.2⟩⟩, fun q w => hh.2 q.2.2.2 ⟨w.1, w.2.2⟩⟩)⟩
      · refine AY.mono (Q := fun bb x => ∃ ln2 ld2 hn2 hd2 p2 q2 r2, bb = true ∧ x = ([.cells 0 [.int .i64 a, .int .i64 b, .int .i64 c, .int .i64 d, .int .i64 e, .int .i64 f], .cells 0 [.int .i64 ox, .int .i64 oy, .int .i64 oz, .int .i64 dx, .int .i64 dy, .int .i64 dz, .int .i64 fr], .cells 0 [.int .i64 mn, .int .i64 md], .cells 0 [.int .i64 ln2, .int .i64 ld2], .cells 0 [.int .i64 hn2, .int .i64 hd2], .cells 0 [.bool true], .dead, .dead, .cells 0 [.int .i64 a, .int .i64 d, .int .i64 ox, .int .i64 dx], .cells 0 [.int .i64 b, .int .i64 e, .int .i64 oy, .int .i64 dy], p2, q2, r2], none) ∧ (I64 ln2 ∧ I64 ld2 ∧ I64 hn2 ∧ I64 hd2) ∧ LowR ((([] ++ [(a, d, ox, dx)]) ++ [(b, e, oy, dy)]) ++ [(c, f, oz, dz)]) ln2 ld2 ∧ HighR ((([] ++ [(a, d, ox, dx)]) ++ [(b, e, oy, dy)]) ++ [(c, f, oz, dz)]) mn md hn2 hd2) (hY.yield 3 ?_ rfl) ?_
        · conv => whnf
          rw [beq_eq_false_iff_ne.2 z2]
          conv => whnf
          refine boxTimes (lo := c) (hi := f) (o := oz) (d := dz) (by omega) (by omega) (by omega) (by omega) z2 (fun u v w y e1 e2 e3 e4 => ?_)
          conv => whnf
          have b1 := PB.sz_b (d := dz) (by omega)
          obtain ⟨b2, b3⟩ := PB.from_b (lo := c) (hi := f) (o := oz) (d := dz) (by omega) (by omega) (by omega)
          have sp := PB.size_pos z2
          have ls := PB.low_step (lo := c) (hi := f) (o := oz) l1 z2
          have hs := PB.high_step (lo := c) (hi := f) (o := oz) h1 z2
          rw [← e1, ← e2] at ls
          rw [← e3, ← e2] at hs
          obtain rfl : y = v := by rw [e4, e2]
          have iu : I64 u := by unfold I64; omega
          have iv : I64 y := by unfold I64; omega
          have iw : I64 w := by unfold I64; omega
          refine fracLess bd9.1 bd9.2.1 iu iv (fun t1 ht1 => ?_)
          conv => whnf
          cases t1
          · conv => whnf
            refine fracRight (fun t2 ht2 => ?_)
            conv => whnf
            cases t2
            · conv => whnf
              exact ⟨0, 1, _, _, _, _, _, rfl, rfl, ⟨bd9.1, bd9.2.1, iw, iv⟩, ls.1 (fun q => by have := PB.less_iff.2 ⟨l1.pos, by omega, q⟩; rw [← ht1] at this; cases this), hs.2 (.inl (by have := of_decide_eq_false ht2.symm; omega))⟩
            · conv => whnf
              have p2 := of_decide_eq_true ht2.symm
              refine fracLess iw iv bd9.2.2.1 bd9.2.2.2 (fun t3 ht3 => ?_)
              conv => whnf
              cases t3
              · conv => whnf
                exact ⟨0, 1, _, _, _, _, _, rfl, rfl, ⟨bd9.1, bd9.2.1, bd9.2.2.1, bd9.2.2.2⟩, ls.1 (fun q => by have := PB.less_iff.2 ⟨l1.pos, by omega, q⟩; rw [← ht1] at this; cases this), hs.1 p2 (fun q => by have := PB.less_iff.2 ⟨by omega, p2, q⟩; rw [← ht3] at this; cases this)⟩
              · conv => whnf
                exact ⟨0, 1, _, _, _, _, _, rfl, rfl, ⟨bd9.1, bd9.2.1, iw, iv⟩, ls.1 (fun q => by have := PB.less_iff.2 ⟨l1.pos, by omega, q⟩; rw [← ht1] at this; cases this), hs.2 (.inr (PB.less_iff.1 ht3.symm).2.2)⟩
          · conv => whnf
            refine fracRight (fun t2 ht2 => ?_)
            conv => whnf
            cases t2
            · conv => whnf
              exact ⟨u, y, _, _, _, _, _, rfl, rfl, ⟨iu, iv, iw, iv⟩, ls.2 (PB.less_iff.1 ht1.symm).2.2, hs.2 (.inl (by have := of_decide_eq_false ht2.symm; omega))⟩
            · conv => whnf
              have p2 := of_decide_eq_true ht2.symm
              refine fracLess iw iv bd9.2.2.1 bd9.2.2.2 (fun t3 ht3 => ?_)
              conv => whnf
              cases t3
              · conv => whnf
                exact ⟨u, y, _, _, _, _, _, rfl, rfl, ⟨iu, iv, bd9.2.2.1, bd9.2.2.2⟩, ls.2 (PB.less_iff.1 ht1.symm).2.2, hs.1 p2 (fun q => by have := PB.less_iff.2 ⟨by omega, p2, q⟩; rw [← ht3] at this; cases this)⟩
              · conv => whnf
                exact ⟨u, y, _, _, _, _, _, rfl, rfl, ⟨iu, iv, iw, iv⟩, ls.2 (PB.less_iff.1 ht1.symm).2.2, hs.2 (.inr (PB.less_iff.1 ht3.symm).2.2)⟩
        · rintro _ _ ⟨ln2, ld2, hn2, hd2, p2, q2, r2, rfl, rfl, bd2, l2, h2⟩
          conv => whnf
          refine fracLess bd2.2.2.1 bd2.2.2.2 bd2.1 bd2.2.1 (fun t ht => ?_)
          conv => whnf
          have hh := PB.hit_of l2 h2 (by simp only [List.nil_append, List.cons_append, List.mem_cons, List.not_mem_nil, or_false]; rintro x (rfl | rfl | rfl) h0 <;> (first | exact ⟨g0, k0⟩ | exact ⟨g1, k1⟩ | exact absurd h0 (by assumption)))
          exact ⟨rfl, h _ (by rw [ht, Bool.not_eq_true', ← Bool.not_eq_true, PB.less_iff]; exact ⟨fun q => ⟨rfl, rfl, rfl, hh.1 fun w => q ⟨w.1, l2.pos, w.2⟩⟩, fun q w => hh.2 q.2.2.2 ⟨w.1, w.2.2⟩⟩)⟩
    · refine AY.mono (Q := fun bb x => ∃ ln1 ld1 hn1 hd1 p1 q1 r1, bb = true ∧ x = ([.cells 0 [.int .i64 a, .int .i64 b, .int .i64 c, .int .i64 d, .int .i64 e, .int .i64 f], .cells 0 [.int .i64 ox, .int .i64 oy, .int .i64 oz, .int .i64 dx, .int .i64 dy, .int .i64 dz, .int .i64 fr], .cells 0 [.int .i64 mn, .int .i64 md], .cells 0 [.int .i64 ln1, .int .i64 ld1], .cells 0 [.int .i64 hn1, .int .i64 hd1], .cells 0 [.bool true], .dead, .dead, .cells 0 [.int .i64 a, .int .i64 d, .int .i64 ox, .int .i64 dx], p1, q1, r1], none) ∧ (I64 ln1 ∧ I64 ld1 ∧ I64 hn1 ∧ I64 hd1) ∧ LowR (([] ++ [(a, d, ox, dx)]) ++ [(b, e, oy, dy)]) ln1 ld1 ∧ HighR (([] ++ [(a, d, ox, dx)]) ++ [(b, e, oy, dy)]) mn md hn1 hd1) (hY.yield 3 ?_ rfl) ?_
      · conv => whnf
        rw [beq_eq_false_iff_ne.2 z1]
        conv => whnf
        refine boxTimes (lo := b) (hi := e) (o := oy) (d := dy) (by omega) (by omega) (by omega) (by omega) z1 (fun u v w y e1 e2 e3 e4 => ?_)
        conv => whnf
        have b1 := PB.sz_b (d := dy) (by omega)
        obtain ⟨b2, b3⟩ := PB.from_b (lo := b) (hi := e) (o := oy) (d := dy) (by omega) (by omega) (by omega)
        have sp := PB.size_pos z1
        have ls := PB.low_step (lo := b) (hi := e) (o := oy) l0 z1
        have hs := PB.high_step (lo := b) (hi := e) (o := oy) h0 z1
        rw [← e1, ← e2] at ls
        rw [← e3, ← e2] at hs
        obtain rfl : y = v := by rw [e4, e2]
        have iu : I64 u := by unfold I64; omega
        have iv : I64 y := by unfold I64; omega
        have iw : I64 w := by unfold I64; omega
        refine fracLess bd9.1 bd9.2.1 iu iv (fun t1 ht1 => ?_)
        conv => whnf
        cases t1
        · conv => whnf
          refine fracRight (fun t2 ht2 => ?_)
          conv => whnf
          cases t2
          · conv => whnf
            exact ⟨0, 1, _, _, _, _, _, rfl, rfl, ⟨bd9.1, bd9.2.1, iw, iv⟩, ls.1 (fun q => by have := PB.less_iff.2 ⟨l0.pos, by omega, q⟩; rw [← ht1] at this; cases this), hs.2 (.inl (by have := of_decide_eq_false ht2.symm; omega))⟩
          · conv => whnf
            have p2 := of_decide_eq_true ht2.symm
            refine fracLess iw iv bd9.2.2.1 bd9.2.2.2 (fun t3 ht3 => ?_)
            conv => whnf
            cases t3
            · conv => whnf
              exact ⟨0, 1, _, _, _, _, _, rfl, rfl, ⟨bd9.1, bd9.2.1, bd9.2.2.1, bd9.2.2.2⟩, ls.1 (fun q => by have := PB.less_iff.2 ⟨l0.pos, by omega, q⟩; rw [← ht1] at this; cases this), hs.1 p2 (fun q => by have := PB.less_iff.2 ⟨by omega, p2, q⟩; rw [← ht3] at this; cases this)⟩
            · conv => whnf
              exact ⟨0, 1, _, _, _, _, _, rfl, rfl, ⟨bd9.1, bd9.2.1, iw, iv⟩, ls.1 (fun q => by have := PB.less_iff.2 ⟨l0.pos, by omega, q⟩; rw [← ht1] at this; cases this), hs.2 (.inr (PB.less_iff.1 ht3.symm).2.2)⟩
        · conv => whnf
          refine fracRight (fun t2 ht2 => ?_)
          conv => whnf
          cases t2
          · conv => whnf
            exact ⟨u, y, _, _, _, _, _, rfl, rfl, ⟨iu, iv, iw, iv⟩, ls.2 (PB.less_iff.1 ht1.symm).2.2, hs.2 (.inl (by have := of_decide_eq_false ht2.symm; omega))⟩
          · conv => whnf
            have p2 := of_decide_eq_true ht2.symm
            refine fracLess iw iv bd9.2.2.1 bd9.2.2.2 (fun t3 ht3 => ?_)
            conv => whnf
            cases t3
            · conv => whnf
              exact ⟨u, y, _, _, _, _, _, rfl, rfl, ⟨iu, iv, bd9.2.2.1, bd9.2.2.2⟩, ls.2 (PB.less_iff.1 ht1.symm).2.2, hs.1 p2 (fun q => by have := PB.less_iff.2 ⟨by omega, p2, q⟩; rw [← ht3] at this; cases this)⟩
            · conv => whnf
              exact ⟨u, y, _, _, _, _, _, rfl, rfl, ⟨iu, iv, iw, iv⟩, ls.2 (PB.less_iff.1 ht1.symm).2.2, hs.2 (.inr (PB.less_iff.1 ht3.symm).2.2)⟩
      · rintro _ _ ⟨ln1, ld1, hn1, hd1, p1, q1, r1, rfl, rfl, bd1, l1, h1⟩
        conv => whnf
        by_cases z2 : dz = 0
        · refine hY.yield 3 ?_ rfl
          conv => whnf
          rw [beq_iff_eq.2 z2]
          conv => whnf
          by_cases g2 : c ≤ oz
          case neg => rw [decide_eq_false g2]; conv => whnf
                      exact ⟨rfl, h _ ⟨fun q => (by cases q), fun q => absurd (PB.hit_zero (lo := c) (hi := f) (o := oz) (d := dz) q.2.2.2 (by simp) z2) (by omega)⟩⟩
          rw [decide_eq_true g2]
          conv => whnf
          by_cases k2 : oz ≤ f
          case neg => rw [decide_eq_false k2]; conv => whnf
                      exact ⟨rfl, h _ ⟨fun q => (by cases q), fun q => absurd (PB.hit_zero (lo := c) (hi := f) (o := oz) (d := dz) q.2.2.2 (by simp) z2) (by omega)⟩⟩
          rw [decide_eq_true k2]
          conv => whnf
          have l2 := PB.low_skip (lo := c) (hi := f) (o := oz) l1 z2
          have h2 := PB.high_skip (lo := c) (hi := f) (o := oz) h1 z2
          refine fracLess bd1.2.2.1 bd1.2.2.2 bd1.1 bd1.2.1 (fun t ht => ?_)
          conv => whnf
          have hh := PB.hit_of l2 h2 (by simp only [List.nil_append, List.cons_append, List.mem_cons, List.not_mem_nil, or_false]; rintro x (rfl | rfl | rfl) h0 <;> (first | exact ⟨g0, k0⟩ | exact ⟨g2, k2⟩ | exact absurd h0 (by assumption)))
          exact ⟨rfl, h _ (by rw [ht, Bool.not_eq_true', ← Bool.not_eq_true, PB.less_iff]; exact ⟨fun q => ⟨rfl, rfl, rfl, hh.1 fun w => q ⟨w.1, l2.pos, w.2⟩⟩, fun q w => hh.2 q.2.2.2 ⟨w.1, w.2.2⟩⟩)⟩
        · refine AY.mono (Q := fun bb x => ∃ ln2 ld2 hn2 hd2 p2 q2 r2, bb = true ∧ x = ([.cells 0 [.int .i64 a, .int .i64 b, .int .i64 c, .int .i64 d, .int .i64 e, .int .i64 f], .cells 0 [.int .i64 ox, .int .i64 oy, .int .i64 oz, .int .i64 dx, .int .i64 dy, .int .i64 dz, .int .i64 fr], .cells 0 [.int .i64 mn, .int .i64 md], .cells 0 [.int .i64 ln2, .int .i64 ld2], .cells 0 [.int .i64 hn2, .int .i64 hd2], .cells 0 [.bool true], .dead, .dead, .cells 0 [.int .i64 a, .int .i64 d, .int .i64 ox, .int .i64 dx], p1, q1, r1, p2, q2, r2], none) ∧ (I64 ln2 ∧ I64 ld2 ∧ I64 hn2 ∧ I64 hd2) ∧ LowR ((([] ++ [(a, d, ox, dx)]) ++ [(b, e, oy, dy)]) ++ [(c, f, oz, dz)]) ln2 ld2 ∧ HighR ((([] ++ [(a, d, ox, dx)]) ++ [(b, e, oy, dy)]) ++ [(c, f, oz, dz)]) mn md hn2 hd2) (hY.yield 3 ?_ rfl) ?_
          · conv => whnf
            rw [beq_eq_false_iff_ne.2 z2]
            conv => whnf
            refine boxTimes (lo := c) (hi := f) (o := oz) (d := dz) (by omega) (by omega) (by omega) (by omega) z2 (fun u v w y e1 e2 e3 e4 => ?_)
            conv => whnf
            have b1 := PB.sz_b (d := dz) (by omega)
            obtain ⟨b2, b3⟩ := PB.from_b (lo := c) (hi := f) (o := oz) (d := dz) (by omega) (by omega) (by omega)
            have sp := PB.size_pos z2
            have ls := PB.low_step (lo := c) (hi := f) (o := oz) l1 z2
            have hs := PB.high_step (lo := c) (hi := f) (o := oz) h1 z2
            rw [← e1, ← e2] at ls
            rw [← e3, ← e2] at hs
            obtain rfl : y = v := by rw [e4, e2]
            have iu : I64 u := by unfold I64; omega
            have iv : I64 y := by unfold I64; omega
            have iw : I64 w := by unfold I64; omega
            refine fracLess bd1.1 bd1.2.1 iu iv (fun t1 ht1 => ?_)
            conv => whnf
            cases t1
            · conv => whnf
              refine fracRight (fun t2 ht2 => ?_)
              conv => whnf
              cases t2
              · conv => whnf
                exact ⟨ln1, ld1, _, _, _, _, _, rfl, rfl, ⟨bd1.1, bd1.2.1, iw, iv⟩, ls.1 (fun q => by have := PB.less_iff.2 ⟨l1.pos, by omega, q⟩; rw [← ht1] at this; cases this), hs.2 (.inl (by have := of_decide_eq_false ht2.symm; omega))⟩
              · conv => whnf
                have p2 := of_decide_eq_true ht2.symm
                refine fracLess iw iv bd1.2.2.1 bd1.2.2.2 (fun t3 ht3 => ?_)
                conv => whnf
                cases t3
                · conv => whnf
                  exact ⟨ln1, ld1, _, _, _, _, _, rfl, rfl, ⟨bd1.1, bd1.2.1, bd1.2.2.1, bd1.2.2.2⟩, ls.1 (fun q => by have := PB.less_iff.2 ⟨l1.pos, by omega, q⟩; rw [← ht1] at this; cases this), hs.1 p2 (fun q => by have := PB.less_iff.2 ⟨by omega, p2, q⟩; rw [← ht3] at this; cases this)⟩
                · conv => whnf
                  exact ⟨ln1, ld1, _, _, _, _, _, rfl, rfl, ⟨bd1.1, bd1.2.1, iw, iv⟩, ls.1 (fun q => by have := PB.less_iff.2 ⟨l1.pos, by omega, q⟩; rw [← ht1] at this; cases this), hs.2 (.inr (PB.less_iff.1 ht3.symm).2.2)⟩
            · conv => whnf
              refine fracRight (fun t2 ht2 => ?_)
              conv => whnf
              cases t2
              · conv => whnf
                exact ⟨u, y, _, _, _, _, _, rfl, rfl, ⟨iu, iv, iw, iv⟩, ls.2 (PB.less_iff.1 ht1.symm).2.2, hs.2 (.inl (by have := of_decide_eq_false ht2.symm; omega))⟩
              · conv => whnf
                have p2 := of_decide_eq_true ht2.symm
                refine fracLess iw iv bd1.2.2.1 bd1.2.2.2 (fun t3 ht3 => ?_)
                conv => whnf
                cases t3
                · conv => whnf
                  exact ⟨u, y, _, _, _, _, _, rfl, rfl, ⟨iu, iv, bd1.2.2.1, bd1.2.2.2⟩, ls.2 (PB.less_iff.1 ht1.symm).2.2, hs.1 p2 (fun q => by have := PB.less_iff.2 ⟨by omega, p2, q⟩; rw [← ht3] at this; cases this)⟩
                · conv => whnf
                  exact ⟨u, y, _, _, _, _, _, rfl, rfl, ⟨iu, iv, iw, iv⟩, ls.2 (PB.less_iff.1 ht1.symm).2.2, hs.2 (.inr (PB.less_iff.1 ht3.symm).2.2)⟩
          · rintro _ _ ⟨ln2, ld2, hn2, hd2, p2, q2, r2, rfl, rfl, bd2, l2, h2⟩
            conv => whnf
            refine fracLess bd2.2.2.1 bd2.2.2.2 bd2.1 bd2.2.1 (fun t ht => ?_)
            conv => whnf
            have hh := PB.hit_of l2 h2 (by simp only [List.nil_append, List.cons_append, List.mem_cons, List.not_mem_nil, or_false]; rintro x (rfl | rfl | rfl) h0 <;> (first | exact ⟨g0, k0⟩ | exact absurd h0 (by assumption)))
            exact ⟨rfl, h _ (by rw [ht, Bool.not_eq_true', ← Bool.not_eq_true, PB.less_iff]; exact ⟨fun q => ⟨rfl, rfl, rfl, hh.1 fun w => q ⟨w.1, l2.pos, w.2⟩⟩, fun q w => hh.2 q.2.2.2 ⟨w.1, w.2.2⟩⟩)⟩
  · refine AY.mono (Q := fun bb x => ∃ ln0 ld0 hn0 hd0 p0 q0 r0, bb = true ∧ x = ([.cells 0 [.int .i64 a, .int .i64 b, .int .i64 c, .int .i64 d, .int .i64 e, .int .i64 f], .cells 0 [.int .i64 ox, .int .i64 oy, .int .i64 oz, .int .i64 dx, .int .i64 dy, .int .i64 dz, .int .i64 fr], .cells 0 [.int .i64 mn, .int .i64 md], .cells 0 [.int .i64 ln0, .int .i64 ld0], .cells 0 [.int .i64 hn0, .int .i64 hd0], .cells 0 [.bool true], .dead, .dead, p0, q0, r0], none) ∧ (I64 ln0 ∧ I64 ld0 ∧ I64 hn0 ∧ I64 hd0) ∧ LowR ([] ++ [(a, d, ox, dx)]) ln0 ld0 ∧ HighR ([] ++ [(a, d, ox, dx)]) mn md hn0 hd0) (hY.yield 3 ?_ rfl) ?_
    · conv => whnf
      rw [beq_eq_false_iff_ne.2 z0]
      conv => whnf
      refine boxTimes (lo := a) (hi := d) (o := ox) (d := dx) (by omega) (by omega) (by omega) (by omega) z0 (fun u v w y e1 e2 e3 e4 => ?_)
      conv => whnf
      have b1 := PB.sz_b (d := dx) (by omega)
      obtain ⟨b2, b3⟩ := PB.from_b (lo := a) (hi := d) (o := ox) (d := dx) (by omega) (by omega) (by omega)
      have sp := PB.size_pos z0
      have ls := PB.low_step (lo := a) (hi := d) (o := ox) l9 z0
      have hs := PB.high_step (lo := a) (hi := d) (o := ox) h9 z0
      rw [← e1, ← e2] at ls
      rw [← e3, ← e2] at hs
      obtain rfl : y = v := by rw [e4, e2]
      have iu : I64 u := by unfold I64; omega
      have iv : I64 y := by unfold I64; omega
      have iw : I64 w := by unfold I64; omega
      refine fracLess bd9.1 bd9.2.1 iu iv (fun t1 ht1 => ?_)
      conv => whnf
      cases t1
      · conv => whnf
        refine fracRight (fun t2 ht2 => ?_)
        conv => whnf
        cases t2
        · conv => whnf
          exact ⟨0, 1, _, _, _, _, _, rfl, rfl, ⟨bd9.1, bd9.2.1, iw, iv⟩, ls.1 (fun q => by have := PB.less_iff.2 ⟨l9.pos, by omega, q⟩; rw [← ht1] at this; cases this), hs.2 (.inl (by have := of_decide_eq_false ht2.symm; omega))⟩
        · conv => whnf
          have p2 := of_decide_eq_true ht2.symm
          refine fracLess iw iv bd9.2.2.1 bd9.2.2.2 (fun t3 ht3 => ?_)
          conv => whnf
          cases t3
          · conv => whnf
            exact ⟨0, 1, _, _, _, _, _, rfl, rfl, ⟨bd9.1, bd9.2.1, bd9.2.2.1, bd9.2.2.2⟩, ls.1 (fun q => by have := PB.less_iff.2 ⟨l9.pos, by omega, q⟩; rw [← ht1] at this; cases this), hs.1 p2 (fun q => by have := PB.less_iff.2 ⟨by omega, p2, q⟩; rw [← ht3] at this; cases this)⟩
          · conv => whnf
            exact ⟨0, 1, _, _, _, _, _, rfl, rfl, ⟨bd9.1, bd9.2.1, iw, iv⟩, ls.1 (fun q => by have := PB.less_iff.2 ⟨l9.pos, by omega, q⟩; rw [← ht1] at this; cases this), hs.2 (.inr (PB.less_iff.1 ht3.symm).2.2)⟩
      · conv => whnf
        refine fracRight (fun t2 ht2 => ?_)
        conv => whnf
        cases t2
        · conv => whnf
          exact ⟨u, y, _, _, _, _, _, rfl, rfl, ⟨iu, iv, iw, iv⟩, ls.2 (PB.less_iff.1 ht1.symm).2.2, hs.2 (.inl (by have := of_decide_eq_false ht2.symm; omega))⟩
        · conv => whnf
          have p2 := of_decide_eq_true ht2.symm
          refine fracLess iw iv bd9.2.2.1 bd9.2.2.2 (fun t3 ht3 => ?_)
          conv => whnf
          cases t3
          · conv => whnf
            exact ⟨u, y, _, _, _, _, _, rfl, rfl, ⟨iu, iv, bd9.2.2.1, bd9.2.2.2⟩, ls.2 (PB.less_iff.1 ht1.symm).2.2, hs.1 p2 (fun q => by have := PB.less_iff.2 ⟨by omega, p2, q⟩; rw [← ht3] at this; cases this)⟩
          · conv => whnf
            exact ⟨u, y, _, _, _, _, _, rfl, rfl, ⟨iu, iv, iw, iv⟩, ls.2 (PB.less_iff.1 ht1.symm).2.2, hs.2 (.inr (PB.less_iff.1 ht3.symm).2.2)⟩
    · rintro _ _ ⟨ln0, ld0, hn0, hd0, p0, q0, r0, rfl, rfl, bd0, l0, h0⟩
      conv => whnf
      by_cases z1 : dy = 0
      · refine hY.yield 3 ?_ rfl
        conv => whnf
        rw [beq_iff_eq.2 z1]
        conv => whnf
        by_cases g1 : b ≤ oy
        case neg => rw [decide_eq_false g1]; conv => whnf
                    exact ⟨rfl, h _ ⟨fun q => (by cases q), fun q => absurd (PB.hit_zero (lo := b) (hi := e) (o := oy) (d := dy) q.2.2.2 (by simp) z1) (by omega)⟩⟩
        rw [decide_eq_true g1]
        conv => whnf
        by_cases k1 : oy ≤ e
        case neg => rw [decide_eq_false k1]; conv => whnf
                    exact ⟨rfl, h _ ⟨fun q => (by cases q), fun q => absurd (PB.hit_zero (lo := b) (hi := e) (o := oy) (d := dy) q.2.2.2 (by simp) z1) (by omega)⟩⟩
        rw [decide_eq_true k1]
        conv => whnf
        have l1 := PB.low_skip (lo := b) (hi := e) (o := oy) l0 z1
        have h1 := PB.high_skip (lo := b) (hi := e) (o := oy) h0 z1
        by_cases z2 : dz = 0
        · refine hY.yield 3 ?_ rfl
          conv => whnf
          rw [beq_iff_eq.2 z2]
          conv => whnf
          by_cases g2 : c ≤ oz
          case neg => rw [decide_eq_false g2]; conv => whnf
                      exact ⟨rfl, h _ ⟨fun q => (by cases q), fun q => absurd (PB.hit_zero (lo := c) (hi := f) (o := oz) (d := dz) q.2.2.2 (by simp) z2) (by omega)⟩⟩
          rw [decide_eq_true g2]
          conv => whnf
          by_cases k2 : oz ≤ f
          case neg => rw [decide_eq_false k2]; conv => whnf
                      exact ⟨rfl, h _ ⟨fun q => (by cases q), fun q => absurd (PB.hit_zero (lo := c) (hi := f) (o := oz) (d := dz) q.2.2.2 (by simp) z2) (by omega)⟩⟩
          rw [decide_eq_true k2]
          conv => whnf
          have l2 := PB.low_skip (lo := c) (hi := f) (o := oz) l1 z2
          have h2 := PB.high_skip (lo := c) (hi := f) (o := oz) h1 z2
          refine fracLess bd0.2.2.1 bd0.2.2.2 bd0.1 bd0.2.1 (fun t ht => ?_)
          conv => whnf
          have hh := PB.hit_of l2 h2 (by simp only [List.nil_append, List.cons_append, List.mem_cons, List.not_mem_nil, or_false]; rintro x (rfl | rfl | rfl) h0 <;> (first | exact ⟨g1, k1⟩ | exact ⟨g2, k2⟩ | exact absurd h0 (by assumption)))
          exact ⟨rfl, h _ (by rw [ht, Bool.not_eq_true', ← Bool.not_eq_true, PB.less_iff]; exact ⟨fun q => ⟨rfl, rfl, rfl, hh.1 fun w => q ⟨w.1, l2.pos, w.2⟩⟩, fun q w => hh.2 q.2.2.2 ⟨w.1, w.2.2⟩⟩)⟩
        · refine AY.mono (Q := fun bb x => ∃ ln2 ld2 hn2 hd2 p2 q2 r2, bb = true ∧ x = ([.cells 0 [.int .i64 a, .int .i64 b, .int .i64 c, .int .i64 d, .int .i64 e, .int .i64 f], .cells 0 [.int .i64 ox, .int .i64 oy, .int .i64 oz, .int .i64 dx, .int .i64 dy, .int .i64 dz, .int .i64 fr], .cells 0 [.int .i64 mn, .int .i64 md], .cells 0 [.int .i64 ln2, .int .i64 ld2], .cells 0 [.int .i64 hn2, .int .i64 hd2], .cells 0 [.bool true], .dead, .dead, p0, q0, r0, .cells 0 [.int .i64 b, .int .i64 e, .int .i64 oy, .int .i64 dy], p2, q2, r2], none) ∧ (I64 ln2 ∧ I64 ld2 ∧ I64 hn2 ∧ I64 hd2) ∧ LowR ((([] ++ [(a, d, ox, dx)]) ++ [(b, e, oy, dy)]) ++ [(c, f, oz, dz)]) ln2 ld2 ∧ HighR ((([] ++ [(a, d, ox, dx)]) ++ [(b, e, oy, dy)]) ++ [(c, f, oz, dz)]) mn md hn2 hd2) (hY.yield 3 ?_ rfl) ?_
          · conv => whnf
            rw [beq_eq_false_iff_ne.2 z2]
            conv => whnf
            refine boxTimes (lo := c) (hi := f) (o := oz) (d := dz) (by omega) (by omega) (by omega) (by omega) z2 (fun u v w y e1 e2 e3 e4 => ?_)
            conv => whnf
            have b1 := PB.sz_b (d := dz) (by omega)
            obtain ⟨b2, b3⟩ := PB.from_b (lo := c) (hi := f) (o := oz) (d := dz) (by omega) (by omega) (by omega)
            have sp := PB.size_pos z2
            have ls := PB.low_step (lo := c) (hi := f) (o := oz) l1 z2
            have hs := PB.high_step (lo := c) (hi := f) (o := oz) h1 z2
            rw [← e1, ← e2] at ls
            rw [← e3, ← e2] at hs
            obtain rfl : y = v := by rw [e4, e2]
            have iu : I64 u := by unfold I64; omega
            have iv : I64 y := by unfold I64; omega
            have iw : I64 w := by unfold I64; omega
            refine fracLess bd0.1 bd0.2.1 iu iv (fun t1 ht1 => ?_)
            conv => whnf
            cases t1
            · conv => whnf
              refine fracRight (fun t2 ht2 => ?_)
              conv => whnf
              cases t2
              · conv => whnf
                exact ⟨ln0, ld0, _, _, _, _, _, rfl, rfl, ⟨bd0.1, bd0.2.1, iw, iv⟩, ls.1 (fun q => by have := PB.less_iff.2 ⟨l1.pos, by omega, q⟩; rw [← ht1] at this; cases this), hs.2 (.inl (by have := of_decide_eq_false ht2.symm; omega))⟩
              · conv => whnf
                have p2 := of_decide_eq_true ht2.symm
                refine fracLess iw iv bd0.2.2.1 bd0.2.2.2 (fun t3 ht3 => ?_)
                conv => whnf
                cases t3
                · conv => whnf
                  exact ⟨ln0, ld0, _, _, _, _, _, rfl, rfl, ⟨bd0.1, bd0.2.1, bd0.2.2.1, bd0.2.2.2⟩, ls.1 (fun q => by have := PB.less_iff.2 ⟨l1.pos, by omega, q⟩; rw [← ht1] at this; cases this), hs.1 p2 (fun q => by have := PB.less_iff.2 ⟨by omega, p2, q⟩; rw [← ht3] at this; cases this)⟩
                · conv => whnf
                  exact ⟨ln0, ld0, _, _, _, _, _, rfl, rfl, ⟨bd0.1, bd0.2.1, iw, iv⟩, ls.1 (fun q => by have := PB.less_iff.2 ⟨l1.pos, by omega, q⟩; rw [← ht1] at this; cases this), hs.2 (.inr (PB.less_iff.1 ht3.symm).2.2)⟩
            · conv => whnf
              refine fracRight (fun t2 ht2 => ?_)
              conv => whnf
              cases t2
              · conv => whnf
                exact ⟨u, y, _, _, _, _, _, rfl, rfl, ⟨iu, iv, iw, iv⟩, ls.2 (PB.less_iff.1 ht1.symm).2.2, hs.2 (.inl (by have := of_decide_eq_false ht2.symm; omega))⟩
              · conv => whnf
                have p2 := of_decide_eq_true ht2.symm
                refine fracLess iw iv bd0.2.2.1 bd0.2.2.2 (fun t3 ht3 => ?_)
                conv => whnf
                cases t3
                · conv => whnf
                  exact ⟨u, y, _, _, _, _, _, rfl, rfl, ⟨iu, iv, bd0.2.2.1, bd0.2.2.2⟩, ls.2 (PB.less_iff.1 ht1.symm).2.2, hs.1 p2 (fun q => by have := PB.less_iff.2 ⟨by omega, p2, q⟩; rw [← ht3] at this; cases this)⟩
                · conv => whnf
                  exact ⟨u, y, _, _, _, _, _, rfl, rfl, ⟨iu, iv, iw, iv⟩, ls.2 (PB.less_iff.1 ht1.symm).2.2, hs.2 (.inr (PB.less_iff.1 ht3.symm).2.2)⟩
          · rintro _ _ ⟨ln2, ld2, hn2, hd2, p2, q2, r2, rfl, rfl, bd2, l2, h2⟩
            conv => whnf
            refine fracLess bd2.2.2.1 bd2.2.2.2 bd2.1 bd2.2.1 (fun t ht => ?_)
            conv => whnf
            have hh := PB.hit_of l2 h2 (by simp only [List.nil_append, List.cons_append, List.mem_cons, List.not_mem_nil, or_false]; rintro x (rfl | rfl | rfl) h0 <;> (first | exact ⟨g1, k1⟩ | exact absurd h0 (by assumption)))
            exact ⟨rfl, h _ (by rw [ht, Bool.not_eq_true', ← Bool.not_eq_true, PB.less_iff]; exact ⟨fun q => ⟨rfl, rfl, rfl, hh.1 fun w => q ⟨w.1, l2.pos, w.2⟩⟩, fun q w => hh.2 q.2.2.2 ⟨w.1, w.2.2⟩⟩)⟩
      · refine AY.mono (Q := fun bb x => ∃ ln1 ld1 hn1 hd1 p1 q1 r1, bb = true ∧ x = ([.cells 0 [.int .i64 a, .int .i64 b, .int .i64 c, .int .i64 d, .int .i64 e, .int .i64 f], .cells 0 [.int .i64 ox, .int .i64 oy, .int .i64 oz, .int .i64 dx, .int .i64 dy, .int .i64 dz, .int .i64 fr], .cells 0 [.int .i64 mn, .int .i64 md], .cells 0 [.int .i64 ln1, .int .i64 ld1], .cells 0 [.int .i64 hn1, .int .i64 hd1], .cells 0 [.bool true], .dead, .dead, p0, q0, r0, p1, q1, r1], none) ∧ (I64 ln1 ∧ I64 ld1 ∧ I64 hn1 ∧ I64 hd1) ∧ LowR (([] ++ [(a, d, ox, dx)]) ++ [(b, e, oy, dy)]) ln1 ld1 ∧ HighR (([] ++ [(a, d, ox, dx)]) ++ [(b, e, oy, dy)]) mn md hn1 hd1) (hY.yield 3 ?_ rfl) ?_
        · conv => whnf
          rw [beq_eq_false_iff_ne.2 z1]
          conv => whnf
          refine boxTimes (lo := b) (hi := e) (o := oy) (d := dy) (by omega) (by omega) (by omega) (by omega) z1 (fun u v w y e1 e2 e3 e4 => ?_)
          conv => whnf
          have b1 := PB.sz_b (d := dy) (by omega)
          obtain ⟨b2, b3⟩ := PB.from_b (lo := b) (hi := e) (o := oy) (d := dy) (by omega) (by omega) (by omega)
          have sp := PB.size_pos z1
          have ls := PB.low_step (lo := b) (hi := e) (o := oy) l0 z1
          have hs := PB.high_step (lo := b) (hi := e) (o := oy) h0 z1
          rw [← e1, ← e2] at ls
          rw [← e3, ← e2] at hs
          obtain rfl : y = v := by rw [e4, e2]
          have iu : I64 u := by unfold I64; omega
          have iv : I64 y := by unfold I64; omega
          have iw : I64 w := by unfold I64; omega
          refine fracLess bd0.1 bd0.2.1 iu iv (fun t1 ht1 => ?_)
          conv => whnf
          cases t1
          · conv => whnf
            refine fracRight (fun t2 ht2 => ?_)
            conv => whnf
            cases t2
            · conv => whnf
              exact ⟨ln0, ld0, _, _, _, _, _, rfl, rfl, ⟨bd0.1, bd0.2.1, iw, iv⟩, ls.1 (fun q => by have := PB.less_iff.2 ⟨l0.pos, by omega, q⟩; rw [← ht1] at this; cases this), hs.2 (.inl (by have := of_decide_eq_false ht2.symm; omega))⟩
            · conv => whnf
              have p2 := of_decide_eq_true ht2.symm
              refine fracLess iw iv bd0.2.2.1 bd0.2.2.2 (fun t3 ht3 => ?_)
              conv => whnf
              cases t3
              · conv => whnf
                exact ⟨ln0, ld0, _, _, _, _, _, rfl, rfl, ⟨bd0.1, bd0.2.1, bd0.2.2.1, bd0.2.2.2⟩, ls.1 (fun q => by have := PB.less_iff.2 ⟨l0.pos, by omega, q⟩; rw [← ht1] at this; cases this), hs.1 p2 (fun q => by have := PB.less_iff.2 ⟨by omega, p2, q⟩; rw [← ht3] at this; cases this)⟩
              · conv => whnf
                exact ⟨ln0, ld0, _, _, _, _, _, rfl, rfl, ⟨bd0.1, bd0.2.1, iw, iv⟩, ls.1 (fun q => by have := PB.less_iff.2 ⟨l0.pos, by omega, q⟩; rw [← ht1] at this; cases this), hs.2 (.inr (PB.less_iff.1 ht3.symm).2.2)⟩
          · conv => whnf
            refine fracRight (fun t2 ht2 => ?_)
            conv => whnf
            cases t2
            · conv => whnf
              exact ⟨u, y, _, _, _, _, _, rfl, rfl, ⟨iu, iv, iw, iv⟩, ls.2 (PB.less_iff.1 ht1.symm).2.2, hs.2 (.inl (by have := of_decide_eq_false ht2.symm; omega))⟩
            · conv => whnf
              have p2 := of_decide_eq_true ht2.symm
              refine fracLess iw iv bd0.2.2.1 bd0.2.2.2 (fun t3 ht3 => ?_)
              conv => whnf
              cases t3
              · conv => whnf
                exact ⟨u, y, _, _, _, _, _, rfl, rfl, ⟨iu, iv, bd0.2.2.1, bd0.2.2.2⟩, ls.2 (PB.less_iff.1 ht1.symm).2.2, hs.1 p2 (fun q => by have := PB.less_iff.2 ⟨by omega, p2, q⟩; rw [← ht3] at this; cases this)⟩
              · conv => whnf
                exact ⟨u, y, _, _, _, _, _, rfl, rfl, ⟨iu, iv, iw, iv⟩, ls.2 (PB.less_iff.1 ht1.symm).2.2, hs.2 (.inr (PB.less_iff.1 ht3.symm).2.2)⟩
        · rintro _ _ ⟨ln1, ld1, hn1, hd1, p1, q1, r1, rfl, rfl, bd1, l1, h1⟩
          conv => whnf
          by_cases z2 : dz = 0
          · refine hY.yield 3 ?_ rfl
            conv => whnf
            rw [beq_iff_eq.2 z2]
            conv => whnf
            by_cases g2 : c ≤ oz
            case neg => rw [decide_eq_false g2]; conv => whnf
                        exact ⟨rfl, h _ ⟨fun q => (by cases q), fun q => absurd (PB.hit_zero (lo := c) (hi := f) (o := oz) (d := dz) q.2.2.2 (by simp) z2) (by omega)⟩⟩
            rw [decide_eq_true g2]
            conv => whnf
            by_cases k2 : oz ≤ f
            case neg => rw [decide_eq_false k2]; conv => whnf
                        exact ⟨rfl, h _ ⟨fun q => (by cases q), fun q => absurd (PB.hit_zero (lo := c) (hi := f) (o := oz) (d := dz) q.2.2.2 (by simp) z2) (by omega)⟩⟩
            rw [decide_eq_true k2]
            conv => whnf
            have l2 := PB.low_skip (lo := c) (hi := f) (o := oz) l1 z2
            have h2 := PB.high_skip (lo := c) (hi := f) (o := oz) h1 z2
            refine fracLess bd1.2.2.1 bd1.2.2.2 bd1.1 bd1.2.1 (fun t ht => ?_)
            conv => whnf
            have hh := PB.hit_of l2 h2 (by simp only [List.nil_append, List.cons_append, List.mem_cons, List.not_mem_nil, or_false]; rintro x (rfl | rfl | rfl) h0 <;> (first | exact ⟨g2, k2⟩ | exact absurd h0 (by assumption)))
            exact ⟨rfl, h _ (by rw [ht, Bool.not_eq_true', ← Bool.not_eq_true, PB.less_iff]; exact ⟨fun q => ⟨rfl, rfl, rfl, hh.1 fun w => q ⟨w.1, l2.pos, w.2⟩⟩, fun q w => hh.2 q.2.2.2 ⟨w.1, w.2.2⟩⟩)⟩
          · refine AY.mono (Q := fun bb x => ∃ ln2 ld2 hn2 hd2 p2 q2 r2, bb = true ∧ x = ([.cells 0 [.int .i64 a, .int .i64 b, .int .i64 c, .int .i64 d, .int .i64 e, .int .i64 f], .cells 0 [.int .i64 ox, .int .i64 oy, .int .i64 oz, .int .i64 dx, .int .i64 dy, .int .i64 dz, .int .i64 fr], .cells 0 [.int .i64 mn, .int .i64 md], .cells 0 [.int .i64 ln2, .int .i64 ld2], .cells 0 [.int .i64 hn2, .int .i64 hd2], .cells 0 [.bool true], .dead, .dead, p0, q0, r0, p1, q1, r1, p2, q2, r2], none) ∧ (I64 ln2 ∧ I64 ld2 ∧ I64 hn2 ∧ I64 hd2) ∧ LowR ((([] ++ [(a, d, ox, dx)]) ++ [(b, e, oy, dy)]) ++ [(c, f, oz, dz)]) ln2 ld2 ∧ HighR ((([] ++ [(a, d, ox, dx)]) ++ [(b, e, oy, dy)]) ++ [(c, f, oz, dz)]) mn md hn2 hd2) (hY.yield 3 ?_ rfl) ?_
            · conv => whnf
              rw [beq_eq_false_iff_ne.2 z2]
              conv => whnf
              refine boxTimes (lo := c) (hi := f) (o := oz) (d := dz) (by omega) (by omega) (by omega) (by omega) z2 (fun u v w y e1 e2 e3 e4 => ?_)
              conv => whnf
              have b1 := PB.sz_b (d := dz) (by omega)
              obtain ⟨b2, b3⟩ := PB.from_b (lo := c) (hi := f) (o := oz) (d := dz) (by omega) (by omega) (by omega)
              have sp := PB.size_pos z2
              have ls := PB.low_step (lo := c) (hi := f) (o := oz) l1 z2
              have hs := PB.high_step (lo := c) (hi := f) (o := oz) h1 z2
              rw [← e1, ← e2] at ls
              rw [← e3, ← e2] at hs
              obtain rfl : y = v := by rw [e4, e2]
              have iu : I64 u := by unfold I64; omega
              have iv : I64 y := by unfold I64; omega
              have iw : I64 w := by unfold I64; omega
              refine fracLess bd1.1 bd1.2.1 iu iv (fun t1 ht1 => ?_)
              conv => whnf
              cases t1
              · conv => whnf
                refine fracRight (fun t2 ht2 => ?_)
                conv => whnf
                cases t2
                · conv => whnf
                  exact ⟨ln1, ld1, _, _, _, _, _, rfl, rfl, ⟨bd1.1, bd1.2.1, iw, iv⟩, ls.1 (fun q => by have := PB.less_iff.2 ⟨l1.pos, by omega, q⟩; rw [← ht1] at this; cases this), hs.2 (.inl (by have := of_decide_eq_false ht2.symm; omega))⟩
                · conv => whnf
                  have p2 := of_decide_eq_true ht2.symm
                  refine fracLess iw iv bd1.2.2.1 bd1.2.2.2 (fun t3 ht3 => ?_)
                  conv => whnf
                  cases t3
                  · conv => whnf
                    exact ⟨ln1, ld1, _, _, _, _, _, rfl, rfl, ⟨bd1.1, bd1.2.1, bd1.2.2.1, bd1.2.2.2⟩, ls.1 (fun q => by have := PB.less_iff.2 ⟨l1.pos, by omega, q⟩; rw [← ht1] at this; cases this), hs.1 p2 (fun q => by have := PB.less_iff.2 ⟨by omega, p2, q⟩; rw [← ht3] at this; cases this)⟩
                  · conv => whnf
                    exact ⟨ln1, ld1, _, _, _, _, _, rfl, rfl, ⟨bd1.1, bd1.2.1, iw, iv⟩, ls.1 (fun q => by have := PB.less_iff.2 ⟨l1.pos, by omega, q⟩; rw [← ht1] at this; cases this), hs.2 (.inr (PB.less_iff.1 ht3.symm).2.2)⟩
              · conv => whnf
                refine fracRight (fun t2 ht2 => ?_)
                conv => whnf
                cases t2
                · conv => whnf
                  exact ⟨u, y, _, _, _, _, _, rfl, rfl, ⟨iu, iv, iw, iv⟩, ls.2 (PB.less_iff.1 ht1.symm).2.2, hs.2 (.inl (by have := of_decide_eq_false ht2.symm; omega))⟩
                · conv => whnf
                  have p2 := of_decide_eq_true ht2.symm
                  refine fracLess iw iv bd1.2.2.1 bd1.2.2.2 (fun t3 ht3 => ?_)
                  conv => whnf
                  cases t3
                  · conv => whnf
                    exact ⟨u, y, _, _, _, _, _, rfl, rfl, ⟨iu, iv, bd1.2.2.1, bd1.2.2.2⟩, ls.2 (PB.less_iff.1 ht1.symm).2.2, hs.1 p2 (fun q => by have := PB.less_iff.2 ⟨by omega, p2, q⟩; rw [← ht3] at this; cases this)⟩
                  · conv => whnf
                    exact ⟨u, y, _, _, _, _, _, rfl, rfl, ⟨iu, iv, iw, iv⟩, ls.2 (PB.less_iff.1 ht1.symm).2.2, hs.2 (.inr (PB.less_iff.1 ht3.symm).2.2)⟩
            · rintro _ _ ⟨ln2, ld2, hn2, hd2, p2, q2, r2, rfl, rfl, bd2, l2, h2⟩
              conv => whnf
              refine fracLess bd2.2.2.1 bd2.2.2.2 bd2.1 bd2.2.1 (fun t ht => ?_)
              conv => whnf
              have hh := PB.hit_of l2 h2 (by simp only [List.nil_append, List.cons_append, List.mem_cons, List.not_mem_nil, or_false]; rintro x (rfl | rfl | rfl) h0 <;> exact absurd h0 (by assumption))
              exact ⟨rfl, h _ (by rw [ht, Bool.not_eq_true', ← Bool.not_eq_true, PB.less_iff]; exact ⟨fun q => ⟨rfl, rfl, rfl, hh.1 fun w => q ⟨w.1, l2.pos, w.2⟩⟩, fun q w => hh.2 q.2.2.2 ⟨w.1, w.2.2⟩⟩)⟩
