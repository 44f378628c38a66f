/- Part of the proof of a law of the seat: its functions, walked. No condition. -/
import Derived.Test.YtoeafkgnhebbjaaA4Tone
namespace Go.AW.A4
open Go Go.AW Go.Proofs
set_option maxRecDepth 100000
set_option linter.unusedVariables false
theorem meanNil {s : List Ob} {Q : AV → List Ob → Prop} (h : Q (.int .u64 0) s) : AC Try.prog 26 [.nils] s Q := by
  refine AC_pure rfl ?_
  refine AC_body tok 0 Try.func26 rfl (by kernel_rfl) ?_
  conv => whnf
  exact ⟨rfl, h⟩
theorem awake40 {s : List Ob} {Q : AV → List Ob → Prop} (h : Q (.bool true) s) : AC Try.prog 25 [] s Q := by
  refine AC_pure rfl ?_
  refine AC_body tok 0 Try.func25 rfl (by kernel_rfl) ?_
  conv => whnf
  refine byte (by omega) (by omega) (by omega) (by omega) (fun v hv => ?_)
  obtain rfl : v = 127 := hv.trans (by decide +kernel)
  conv => whnf
  refine byte (by omega) (by omega) (by omega) (by omega) (fun v hv => ?_)
  obtain rfl : v = 180 := hv.trans (by decide +kernel)
  conv => whnf
  refine byte (by omega) (by omega) (by omega) (by omega) (fun v hv => ?_)
  obtain rfl : v = 255 := hv.trans (by decide +kernel)
  conv => whnf
  refine white (rows := [[1, 2, 3]]) rfl (by simp) (fun v hv => ?_)
  obtain rfl : v = 3 := hv.trans (by decide +kernel)
  conv => whnf
  refine meanNil ?_
  conv => whnf
  refine mean (rows := [[18446744073709551615, 18446744073709551615, 18446744073709551615]]) rfl (by simp) (by intro r hr; simp at hr; subst hr; unfold FitU; decide) (fun v hv => ?_)
  obtain rfl : v = 18446744073709551615 := hv.trans (by decide +kernel)
  conv => whnf
  exact ⟨rfl, h⟩
theorem lawToneRises {x y w o : Int} {r : Bool} (x0 : 0 ≤ x) (x1 : x < 18446744073709551616) (y0 : 0 ≤ y) (y1 : y < 18446744073709551616) (w0 : 0 ≤ w) (w1 : w < 18446744073709551616) (o0 : 0 ≤ o) (o1 : o < 18446744073709551616) :
    AC Try.prog 6 [.int .u64 x, .int .u64 y, .int .u64 w, .int .u64 o, .bool r] [] fun r _ => r = .bool true := by
  refine AC_body tok 0 Try.func6 rfl (by kernel_rfl) ?_
  conv => whnf
  refine byte x0 x1 w0 w1 (fun a ha => ?_)
  conv => whnf
  refine byte y0 y1 w0 w1 (fun b hb => ?_)
  conv => whnf
  have ra := byteI_range r x0 w0
  rw [← ha] at ra
  rw [decide_eq_false (show ¬ a < 0 by omega)]
  conv => whnf
  rw [decide_eq_false (show ¬ a > 255 by omega)]
  conv => whnf
  by_cases k : x ≤ y
  case' pos =>
    rw [decide_eq_true k]
    conv => whnf
    rw [decide_eq_false (show ¬ a > b by rw [ha, hb]; have := byteI_mono r x0 k w0; omega)]
    conv => whnf
  case' neg =>
    rw [decide_eq_false k]
    conv => whnf
  all_goals
    refine byte x0 x1 w0 w1 (fun c hc => ?_)
    conv => whnf
    refine byte x0 x1 w0 w1 (fun d hd => ?_)
    conv => whnf
    rw [decide_eq_false (show ¬ c < d by rw [hc, hd]; have := byteI_roots x0 w0; omega)]
    conv => whnf
    refine ifP (fun g => ?_) (fun g => ?_)
    · have g : w = 0 := g
      conv => whnf
      rw [show (a == 0) = true by rw [beq_iff_eq, ha, byteI_eq, if_pos g]]
      conv => whnf
      exact awake40 rfl
    · have g : ¬ w = 0 := g
      conv => whnf
      by_cases q : o ≥ w
      case' pos =>
        rw [decide_eq_true q]
        conv => whnf
        refine byte x0 x1 o0 o1 (fun f hf => ?_)
        conv => whnf
        rw [decide_eq_false (show ¬ f > a by rw [hf, ha]; have := byteI_falls r x0 (show 0 < w by omega) q; omega)]
        conv => whnf
      case' neg =>
        rw [decide_eq_false q]
        conv => whnf
      all_goals
        refine byte w0 w1 w0 w1 (fun m hm => ?_)
        obtain rfl : m = 255 := hm.trans (byteI_white r (show 0 < w by omega) (Int.le_refl _))
        conv => whnf
        refine byte (by omega) (by omega) w0 w1 (fun z hz => ?_)
        obtain rfl : z = 0 := hz.trans (byteI_zero r (show 0 < w by omega))
        conv => whnf
        by_cases u : x < w
        case' pos =>
          rw [decide_eq_true u]
          conv => whnf
        case' neg =>
          rw [decide_eq_false u]
          conv => whnf
          rw [show (a == 255) = true by rw [beq_iff_eq, ha]; exact byteI_white r (show 0 < w by omega) (show w ≤ x by omega)]
          conv => whnf
        all_goals exact awake40 rfl
theorem fitU_of {r : List Int} (h : fitK K3 r) : FitU r := by
  obtain ⟨a, r1, rfl, ha, b, r2, rfl, hb, c, r3, rfl, hc, rfl⟩ := h
  have h1 := wf_u64 ha; have h2 := wf_u64 hb; have h3 := wf_u64 hc
  exact ⟨h1.1, h1.2, h2.1, h2.2, h3.1, h3.2⟩
set_option maxHeartbeats 2000000 in
theorem lawToneMean (avs : List AV) (obs : List Ob) (ha : ArgC 0 [.sl 36 [.ik .u64, .ik .u64, .ik .u64]] avs obs) : AC Try.prog 7 (groupK [none] avs) obs fun r _ => r = .bool true := by
  cases ha with
  | nils ha =>
    cases ha
    refine AC_body tok 0 Try.func7 rfl (by kernel_rfl) ?_
    conv => whnf
    exact awake40 rfl
  | sl0 ha =>
    cases ha
    refine AC_body tok 0 Try.func7 rfl (by kernel_rfl) ?_
    conv => whnf
    exact awake40 rfl
  | sl hl hf ha =>
    cases ha
    rename_i rows
    have hf : ∀ r ∈ rows, FitU r := fun r hr => fitU_of (hf r hr)
    refine AC_body tok 0 Try.func7 rfl (by kernel_rfl) ?_
    conv => whnf
    by_cases k1 : (rows.length : Int) > 30
    · rw [decide_eq_true k1]
      conv => whnf
      exact awake40 rfl
    · rw [decide_eq_false k1]
      conv => whnf
      by_cases k2 : rows.length = 0
      · rw [show ((rows.length : Int) == 0) = true by rw [beq_iff_eq]; omega]
        conv => whnf
        exact awake40 rfl
      · rw [show ((rows.length : Int) == 0) = false by rw [beq_eq_false_iff_ne]; omega]
        conv => whnf
        refine AW_draw tok hP ?_
        conv => whnf
        refine ixI (by omega) (show (0 : Int) < rows.length by omega) ?_
        conv => whnf
        refine andP (by simp; omega) ?_
        conv => whnf
        refine ⟨⟨by kernel_rfl⟩, ?_⟩
        conv => whnf
        rw [show 0 + Int.toNat 0 = 0 from rfl]
        refine ALs.invD (ι := Int × Int × Int) tok 4 (keepN 6) (fun (i, u, l) => 0 ≤ i ∧ i ≤ rows.length ∧ u = upto sumS 0 rows i ∧ l = upto leastS (c0 (rows.getD 0 [])) rows i ∧ 0 ≤ u ∧ u ≤ 3 * i * 1125899906842624 ∧ ∀ j : Nat, (j : Int) < i → c0 (rows.getD j []) < 1125899906842624 ∧ c1 (rows.getD j []) < 1125899906842624 ∧ c2 (rows.getD j []) < 1125899906842624) (fun (i, _) => ((rows.length : Int) - i).toNat)
          (fun (i, u, l) => [.sl 0 0 rows.length none, .junk, .bool false, .int .u64 u, .int .u64 l, .int .i64 i] ++ junks 112) (fun _ => [.row false 36 K3 rows]) (fun _ => ()) (0, 0, c0 (rows.getD 0 [])) ⟨by omega, by omega, rfl, rfl, by omega, by omega, fun j hj => by omega⟩ (by rfl) ⟨[], rfl⟩ rfl (fun _ => Nat.le_refl _) (fun _ => rfl) ?_
        rintro ⟨i, u, l⟩ ⟨i1, i2, i3, i4, i5, i6, i7⟩
        conv => whnf
        refine ifP (fun d => ?_) (fun d => ?_)
        · have d : i < rows.length := d
          obtain ⟨a0, a1, b0, b1, d0, d1⟩ : FitU (rows.getD i.toNat []) := hf _ (getD_mem (by omega) [])
          simp only [c0, c1, c2] at a0 a1 b0 b1 d0 d1
          conv => whnf
          refine ixI i1 d ?_
          conv => whnf
          refine andP (by omega) ?_
          conv => whnf
          rw [show 0 + i.toNat = i.toNat by omega]
          refine ifP (fun g0 => ?_) (fun g0 => ?_)
          · conv => whnf
            exact awake40 rfl
          · have g0 : ¬ (rows.getD i.toNat []).headD 0 ≥ 1125899906842624 := g0
            conv => whnf
            repeat (first | (refine ixI i1 d ?_; conv => whnf) | (refine andP (by omega) ?_; conv => whnf))
            rw [show 0 + i.toNat = i.toNat by omega]
            refine ifP (fun g1 => ?_) (fun g1 => ?_)
            · conv => whnf
              exact awake40 rfl
            · have g1 : ¬ (rows.getD i.toNat []).tail.headD 0 ≥ 1125899906842624 := g1
              conv => whnf
              repeat (first | (refine ixI i1 d ?_; conv => whnf) | (refine andP (by omega) ?_; conv => whnf))
              rw [show 0 + i.toNat = i.toNat by omega]
              refine ifP (fun g2 => ?_) (fun g2 => ?_)
              · conv => whnf
                exact awake40 rfl
              · have g2 : ¬ (rows.getD i.toNat []).tail.tail.headD 0 ≥ 1125899906842624 := g2
                conv => whnf
                repeat (first | (refine ixI i1 d ?_; conv => whnf) | (refine andP (by omega) ?_; conv => whnf))
                rw [show 0 + i.toNat = i.toNat by omega]
                have e1 : Z.add .i64 i 1 = i + 1 := Z.wrap_iid (by omega) (by omega)
                have e3 := upto_step sumS 0 [] rows i1 d
                rw [← i3] at e3
                have e3 : upto sumS 0 rows (i + 1) = u + (rows.getD i.toNat []).headD 0 + (rows.getD i.toNat []).tail.headD 0 + (rows.getD i.toNat []).tail.tail.headD 0 := e3
                have e4 := upto_step leastS (c0 (rows.getD 0 [])) [] rows i1 d
                rw [← i4] at e4
                have eu : Z.add .u64 (Z.add .u64 (Z.add .u64 u ((rows.getD i.toNat []).headD 0)) ((rows.getD i.toNat []).tail.headD 0)) ((rows.getD i.toNat []).tail.tail.headD 0) = u + (rows.getD i.toNat []).headD 0 + (rows.getD i.toNat []).tail.headD 0 + (rows.getD i.toNat []).tail.tail.headD 0 := by
                  have a1 : Z.add .u64 u ((rows.getD i.toNat []).headD 0) = u + (rows.getD i.toNat []).headD 0 := Z.wrap_uid (by omega) (by omega)
                  have a2 : Z.add .u64 (u + (rows.getD i.toNat []).headD 0) ((rows.getD i.toNat []).tail.headD 0) = u + (rows.getD i.toNat []).headD 0 + (rows.getD i.toNat []).tail.headD 0 := Z.wrap_uid (by omega) (by omega)
                  rw [a1, a2]; exact Z.wrap_uid (by omega) (by omega)
                rw [eu]
                refine ⟨(Z.add .i64 i 1, u + (rows.getD i.toNat []).headD 0 + (rows.getD i.toNat []).tail.headD 0 + (rows.getD i.toNat []).tail.tail.headD 0, leastS l (rows.getD i.toNat [])), [], rfl, rfl, rfl, ?_, ?_⟩
                · show (rows.length - Z.add .i64 i 1).toNat < (rows.length - i).toNat; rw [e1]; omega
                · refine ⟨?_, ?_, ?_, ?_, ?_, ?_, ?_⟩
                  · rw [e1]; omega
                  · rw [e1]; omega
                  · rw [e1, e3]
                  · rw [e1, e4]
                  · omega
                  · rw [e1]; omega
                  · rw [e1]
                    intro j hj
                    by_cases hji : (j : Int) < i
                    · exact i7 j hji
                    · obtain rfl : j = i.toNat := by omega
                      simp only [c0, c1, c2]; omega
        · conv => whnf
          have d : ¬ i < rows.length := d
          refine AWs.go tok 0 ?_
          conv => whnf
          have hi : i = rows.length := by omega
          rw [upto_all _ _ _ (by omega)] at i3 i4
          have i3 : u = sumI rows := i3
          have i4 : l = rows.foldl leastS (c0 (rows.getD 0 [])) := i4
          refine mean rfl (by omega) hf (fun m hm => ?_)
          rw [if_neg k2] at hm
          conv => whnf
          refine sum rfl (by omega) hf (fun a b ha hb => ?_)
          have hlt : sumI rows < 18446744073709551616 := by omega
          rw [if_pos hlt] at ha
          rw [decide_eq_true hlt] at hb
          subst hb
          conv => whnf
          refine andI (by simp) ?_
          conv => whnf
          have er : List.take rows.length (List.drop 0 rows) = rows := by simp
          rw [er]
          refine andI (by simp; omega) ?_
          conv => whnf
          refine ifF (decide_eq_false k2) ?_
          conv => whnf
          refine andI (by simp) ?_
          conv => whnf
          rw [er]
          refine andI (by simp; omega) ?_
          conv => whnf
          obtain ⟨q1, q2, q3, q4, q5⟩ := mean_law (rows := rows) (by omega)
          rw [← i4, ← hm] at q1
          rw [← hm] at q2 q3 q4 q5
          obtain rfl : a = u := ha.trans i3.symm
          rw [← i3] at q4 q5
          have m0 : 0 ≤ m := by rw [hm]; exact Int.ediv_nonneg (sumI_pos hf) (by omega)
          have e0 : IntKind.u64.wrap (Z.mul .i64 3 (rows.length : Int)) = 3 * rows.length := by
            have : Z.mul .i64 3 (rows.length : Int) = 3 * rows.length := Z.wrap_iid (by omega) (by omega)
            rw [this]; exact Z.wrap_uid (by omega) (by omega)
          have e1 : Z.mul .u64 m (IntKind.u64.wrap (Z.mul .i64 3 (rows.length : Int))) = m * (3 * rows.length) := by
            rw [e0]; exact Z.wrap_uid (Int.mul_nonneg m0 (by omega)) (by omega)
          have mn0 : 0 ≤ m * (3 * rows.length) := Int.mul_nonneg m0 (by omega)
          rw [beq_self_eq_true a]
          conv => whnf
          rw [e1, decide_eq_true q4]
          conv => whnf
          have e2 : Z.sub .u64 a (m * (3 * rows.length)) = a - m * (3 * rows.length) := Z.wrap_uid (by omega) (by omega)
          rw [e1, e0, e2, decide_eq_true q5]
          conv => whnf
          rw [decide_eq_true (show m ≥ l from q1)]
          conv => whnf
          refine white rfl (by omega) (fun wv hw => ?_)
          conv => whnf
          rw [decide_eq_true (show m ≤ wv by rw [hw]; exact q2)]
          conv => whnf
          rw [show rows.length + rows.length = (rows ++ rows).length by simp]
          refine mean (rows := rows ++ rows) rfl (by simp; omega) (by intro r hr; rcases List.mem_append.1 hr with h | h <;> exact hf r h) (fun m2 hm2 => ?_)
          obtain rfl : m2 = m := by rw [hm2, if_neg (by simp; exact fun h => k2 (by rw [h]; rfl))]; exact q3
          conv => whnf
          rw [beq_self_eq_true m2]
          conv => whnf
          exact awake40 rfl
theorem white_nils {s : List Ob} {Q : AV → List Ob → Prop} (h : Q (.int .u64 0) s) : AC Try.prog 28 [.nils] s Q := by
  refine AC_pure rfl ?_
  refine AC_body tok 1 Try.func28 rfl (by kernel_rfl) ?_
  conv => whnf
  exact ⟨rfl, h⟩
theorem whiteR_nils {s : List Ob} {Q : AV → List Ob → Prop} (h : Q (.int .u64 0) s) : AC Try.prog 32 [.nils] s Q := by
  refine AC_pure rfl ?_
  refine AC_body tok 1 Try.func32 rfl (by kernel_rfl) ?_
  conv => whnf
  exact ⟨rfl, h⟩
theorem total_nils {s : List Ob} {Q : AV → List Ob → Prop} (h : Q (.tup [.int .u64 0, .int .u64 0]) s) : AC Try.prog 44 [.nils] s Q := by
  refine AC_pure rfl ?_
  refine AC_body tok 1 Try.func44 rfl (by kernel_rfl) ?_
  conv => whnf
  exact ⟨rfl, h⟩
theorem sumR_nils {s : List Ob} {Q : AV → List Ob → Prop} (h : Q (.tup [.int .u64 0, .bool true]) s) : AC Try.prog 29 [.nils] s Q := by
  refine AC_pure rfl ?_
  refine AC_body tok 1 Try.func29 rfl (by kernel_rfl) ?_
  conv => whnf
  exact ⟨rfl, h⟩
theorem meanR_nils {s : List Ob} {Q : AV → List Ob → Prop} (h : Q (.int .u64 0) s) : AC Try.prog 34 [.nils] s Q := by
  refine AC_pure rfl ?_
  refine AC_body tok 1 Try.func34 rfl (by kernel_rfl) ?_
  conv => whnf
  exact ⟨rfl, h⟩
theorem sum_nils {s : List Ob} {Q : AV → List Ob → Prop} (h : Q (.tup [.int .u64 0, .bool true]) s) : AC Try.prog 27 [.nils] s Q := by
  refine AC_pure rfl ?_
  refine AC_body tok 0 Try.func27 rfl (by kernel_rfl) ?_
  conv => whnf
  refine total_nils ?_
  conv => whnf
  exact ⟨rfl, h⟩
theorem mapR_nils {w : Int} {r : Bool} {s : List Ob} {Q : AV → List Ob → Prop} (h : Q .nils s) : AC Try.prog 31 [.nils, .int .u64 w, .bool r] s Q := by
  refine AC_pure rfl ?_
  refine AC_body tok 1 Try.func31 rfl (by kernel_rfl) ?_
  conv => whnf
  refine ifP (fun g => ?_) (fun g => ?_)
  · conv => whnf
    refine whiteR_nils ?_
    conv => whnf
    exact ⟨rfl, h⟩
  · conv => whnf
    exact ⟨rfl, h⟩
theorem map_nils {w : Int} {r : Bool} {s : List Ob} {Q : AV → List Ob → Prop} (h : Q (.sl s.length 0 0 none) (s ++ [.row true 42 [.ik .i64, .ik .i64, .ik .i64] []])) : AC Try.prog 30 [.nils, .int .u64 w, .bool r] s Q := by
  refine AC_mk1 (args' := [.nils, .int .u64 w, .bool r]) (L := []) [] (by simp) rfl rfl (by simp) (.sl 0 0 0 none) 0 (by simp) ?_
  refine AC_body tok 1 Try.func30 rfl (by kernel_rfl) ?_
  cases r
  · conv => whnf
    refine ifP (fun g => ?_) (fun g => ?_)
    case' refine_1 =>
      conv => whnf
      refine white_nils ?_
      conv => whnf
    case' refine_2 =>
      conv => whnf
    all_goals
      refine AW_draw tok hP ?_
      conv => whnf
      refine AQ_pure (fun s Q h => ofF h) ?_
      conv => whnf
      refine ⟨⟨by kernel_rfl⟩, ?_⟩
      conv => whnf
      exact ⟨rfl, rfl, rfl, h⟩
  · conv => whnf
    refine ifP (fun g => ?_) (fun g => ?_)
    case' refine_1 =>
      conv => whnf
      refine white_nils ?_
      conv => whnf
    case' refine_2 =>
      conv => whnf
    all_goals
      refine AW_draw tok hP ?_
      conv => whnf
      refine AQ_pure (fun s Q h => ofT h) ?_
      conv => whnf
      refine ⟨⟨by kernel_rfl⟩, ?_⟩
      conv => whnf
      exact ⟨rfl, rfl, rfl, h⟩
theorem white_sl0 {s : List Ob} {Q : AV → List Ob → Prop} (h : Q (.int .u64 0) s) : AC Try.prog 28 [.sl0] s Q := by
  refine AC_pure rfl ?_
  refine AC_body tok 1 Try.func28 rfl (by kernel_rfl) ?_
  conv => whnf
  exact ⟨rfl, h⟩
theorem whiteR_sl0 {s : List Ob} {Q : AV → List Ob → Prop} (h : Q (.int .u64 0) s) : AC Try.prog 32 [.sl0] s Q := by
  refine AC_pure rfl ?_
  refine AC_body tok 1 Try.func32 rfl (by kernel_rfl) ?_
  conv => whnf
  exact ⟨rfl, h⟩
theorem total_sl0 {s : List Ob} {Q : AV → List Ob → Prop} (h : Q (.tup [.int .u64 0, .int .u64 0]) s) : AC Try.prog 44 [.sl0] s Q := by
  refine AC_pure rfl ?_
  refine AC_body tok 1 Try.func44 rfl (by kernel_rfl) ?_
  conv => whnf
  exact ⟨rfl, h⟩
theorem sumR_sl0 {s : List Ob} {Q : AV → List Ob → Prop} (h : Q (.tup [.int .u64 0, .bool true]) s) : AC Try.prog 29 [.sl0] s Q := by
  refine AC_pure rfl ?_
  refine AC_body tok 1 Try.func29 rfl (by kernel_rfl) ?_
  conv => whnf
  exact ⟨rfl, h⟩
theorem meanR_sl0 {s : List Ob} {Q : AV → List Ob → Prop} (h : Q (.int .u64 0) s) : AC Try.prog 34 [.sl0] s Q := by
  refine AC_pure rfl ?_
  refine AC_body tok 1 Try.func34 rfl (by kernel_rfl) ?_
  conv => whnf
  exact ⟨rfl, h⟩
theorem mean_sl0 {s : List Ob} {Q : AV → List Ob → Prop} (h : Q (.int .u64 0) s) : AC Try.prog 26 [.sl0] s Q := by
  refine AC_pure rfl ?_
  refine AC_body tok 1 Try.func26 rfl (by kernel_rfl) ?_
  conv => whnf
  exact ⟨rfl, h⟩
theorem sum_sl0 {s : List Ob} {Q : AV → List Ob → Prop} (h : Q (.tup [.int .u64 0, .bool true]) s) : AC Try.prog 27 [.sl0] s Q := by
  refine AC_pure rfl ?_
  refine AC_body tok 0 Try.func27 rfl (by kernel_rfl) ?_
  conv => whnf
  refine total_sl0 ?_
  conv => whnf
  exact ⟨rfl, h⟩
theorem mapR_sl0 {w : Int} {r : Bool} {s : List Ob} {Q : AV → List Ob → Prop} (h : Q .nils s) : AC Try.prog 31 [.sl0, .int .u64 w, .bool r] s Q := by
  refine AC_pure rfl ?_
  refine AC_body tok 1 Try.func31 rfl (by kernel_rfl) ?_
  conv => whnf
  refine ifP (fun g => ?_) (fun g => ?_)
  · conv => whnf
    refine whiteR_sl0 ?_
    conv => whnf
    exact ⟨rfl, h⟩
  · conv => whnf
    exact ⟨rfl, h⟩
theorem map_sl0 {w : Int} {r : Bool} {s : List Ob} {Q : AV → List Ob → Prop} (h : Q (.sl s.length 0 0 none) (s ++ [.row true 42 [.ik .i64, .ik .i64, .ik .i64] []])) : AC Try.prog 30 [.sl0, .int .u64 w, .bool r] s Q := by
  refine AC_mk1 (args' := [.sl0, .int .u64 w, .bool r]) (L := []) [] (by simp) rfl rfl (by simp) (.sl 0 0 0 none) 0 (by simp) ?_
  refine AC_body tok 1 Try.func30 rfl (by kernel_rfl) ?_
  cases r
  · conv => whnf
    refine ifP (fun g => ?_) (fun g => ?_)
    case' refine_1 =>
      conv => whnf
      refine white_sl0 ?_
      conv => whnf
    case' refine_2 =>
      conv => whnf
    all_goals
      refine AW_draw tok hP ?_
      conv => whnf
      refine AQ_pure (fun s Q h => ofF h) ?_
      conv => whnf
      refine ⟨⟨by kernel_rfl⟩, ?_⟩
      conv => whnf
      exact ⟨rfl, rfl, rfl, h⟩
  · conv => whnf
    refine ifP (fun g => ?_) (fun g => ?_)
    case' refine_1 =>
      conv => whnf
      refine white_sl0 ?_
      conv => whnf
    case' refine_2 =>
      conv => whnf
    all_goals
      refine AW_draw tok hP ?_
      conv => whnf
      refine AQ_pure (fun s Q h => ofT h) ?_
      conv => whnf
      refine ⟨⟨by kernel_rfl⟩, ?_⟩
      conv => whnf
      exact ⟨rfl, rfl, rfl, h⟩
end Go.AW.A4
