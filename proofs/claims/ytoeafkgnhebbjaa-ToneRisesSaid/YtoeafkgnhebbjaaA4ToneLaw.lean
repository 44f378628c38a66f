/- Part of the proof of a law of the seat: its functions, walked. No condition. -/
import Derived.Test.YtoeafkgnhebbjaaA4Tone
namespace Go.AW.A4
open Go Go.AW Go.Proofs
set_option maxRecDepth 100000
set_option linter.unusedVariables false
theorem meanNil {s : List Ob} {Q : AV → List Ob → Prop} (h : Q (.int .u64 0) s) : AC Try.prog 26 [.nils] s Q := by
  refine AC_pure rfl ?_
  refine AC_body tok 0 Try.func26 rfl (by kernel_rfl) ?_
  conv => whnf
  exact ⟨rfl, h⟩
theorem awake40 {s : List Ob} {Q : AV → List Ob → Prop} (h : Q (.bool true) s) : AC Try.prog 25 [] s Q := by
  refine AC_pure rfl ?_
  refine AC_body tok 0 Try.func25 rfl (by kernel_rfl) ?_
  conv => whnf
  refine byte (by omega) (by omega) (by omega) (by omega) (fun v hv => ?_)
  obtain rfl : v = 127 := hv.trans (by decide +kernel)
  conv => whnf
  refine byte (by omega) (by omega) (by omega) (by omega) (fun v hv => ?_)
  obtain rfl : v = 180 := hv.trans (by decide +kernel)
  conv => whnf
  refine byte (by omega) (by omega) (by omega) (by omega) (fun v hv => ?_)
  obtain rfl : v = 255 := hv.trans (by decide +kernel)
  conv => whnf
  refine white (rows := [[1, 2, 3]]) rfl (by simp) (fun v hv => ?_)
  obtain rfl : v = 3 := hv.trans (by decide +kernel)
  conv => whnf
  refine meanNil ?_
  conv => whnf
  refine mean (rows := [[18446744073709551615, 18446744073709551615, 18446744073709551615]]) rfl (by simp) (by intro r hr; simp at hr; subst hr; unfold FitU; decide) (fun v hv => ?_)
  obtain rfl : v = 18446744073709551615 := hv.trans (by decide +kernel)
  conv => whnf
  exact ⟨rfl, h⟩
theorem lawToneRises {x y w o : Int} {r : Bool} (x0 : 0 ≤ x) (x1 : x < 18446744073709551616) (y0 : 0 ≤ y) (y1 : y < 18446744073709551616) (w0 : 0 ≤ w) (w1 : w < 18446744073709551616) (o0 : 0 ≤ o) (o1 : o < 18446744073709551616) :
    AC Try.prog 6 [.int .u64 x, .int .u64 y, .int .u64 w, .int .u64 o, .bool r] [] fun r _ => r = .bool true := by
  refine AC_body tok 0 Try.func6 rfl (by kernel_rfl) ?_
  conv => whnf
  refine byte x0 x1 w0 w1 (fun a ha => ?_)
  conv => whnf
  refine byte y0 y1 w0 w1 (fun b hb => ?_)
  conv => whnf
  have ra := byteI_range r x0 w0
  rw [← ha] at ra
  rw [decide_eq_false (show ¬ a < 0 by omega)]
  conv => whnf
  rw [decide_eq_false (show ¬ a > 255 by omega)]
  conv => whnf
  by_cases k : x ≤ y
  case' pos =>
    rw [decide_eq_true k]
    conv => whnf
    rw [decide_eq_false (show ¬ a > b by rw [ha, hb]; have := byteI_mono r x0 k w0; omega)]
    conv => whnf
  case' neg =>
    rw [decide_eq_false k]
    conv => whnf
  all_goals
    refine byte x0 x1 w0 w1 (fun c hc => ?_)
    conv => whnf
    refine byte x0 x1 w0 w1 (fun d hd => ?_)
    conv => whnf
    rw [decide_eq_false (show ¬ c < d by rw [hc, hd]; have := byteI_roots x0 w0; omega)]
    conv => whnf
    refine ifP (fun g => ?_) (fun g => ?_)
    · have g : w = 0 := g
      conv => whnf
      rw [show (a == 0) = true by rw [beq_iff_eq, ha, byteI_eq, if_pos g]]
      conv => whnf
      exact awake40 rfl
    · have g : ¬ w = 0 := g
      conv => whnf
      by_cases q : o ≥ w
      case' pos =>
        rw [decide_eq_true q]
        conv => whnf
        refine byte x0 x1 o0 o1 (fun f hf => ?_)
        conv => whnf
        rw [decide_eq_false (show ¬ f > a by rw [hf, ha]; have := byteI_falls r x0 (show 0 < w by omega) q; omega)]
        conv => whnf
      case' neg =>
        rw [decide_eq_false q]
        conv => whnf
      all_goals
        refine byte w0 w1 w0 w1 (fun m hm => ?_)
        obtain rfl : m = 255 := hm.trans (byteI_white r (show 0 < w by omega) (Int.le_refl _))
        conv => whnf
        refine byte (by omega) (by omega) w0 w1 (fun z hz => ?_)
        obtain rfl : z = 0 := hz.trans (byteI_zero r (show 0 < w by omega))
        conv => whnf
        by_cases u : x < w
        case' pos =>
          rw [decide_eq_true u]
          conv => whnf
        case' neg =>
          rw [decide_eq_false u]
          conv => whnf
          rw [show (a == 255) = true by rw [beq_iff_eq, ha]; exact byteI_white r (show 0 < w by omega) (show w ≤ x by omega)]
          conv => whnf
        all_goals exact awake40 rfl
end Go.AW.A4
