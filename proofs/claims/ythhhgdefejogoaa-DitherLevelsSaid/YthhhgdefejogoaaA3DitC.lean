/- Part of the proof of a law of the seat: its functions, walked. No condition. -/
import Derived.Test.YthhhgdefejogoaaA3Num
import Derived.Test.YthhhgdefejogoaaPDither
import Derived.Test.YthhhgdefejogoaaEngC
namespace Go.AW.A3
open Go Go.AW Go.Proofs
set_option maxRecDepth 100000
set_option linter.unusedVariables false
theorem ditCount2 {i : Nat} {s : List Ob} {Q : AV → List Ob → Prop} (hs : s[i]? = some (.row true 38 [.ik .i64, .ik .i64, .ik .i64] [[0, 0, 255], [255, 0, 255]])) (h : Q (.int .i64 2) s) : AC Try.prog 23 [.agg [.int .i64 2, .int .i64 1, .sl i 0 2 none]] s Q := by
  refine AC_read (args' := [.agg [.int .i64 2, .int .i64 1, .sl 0 0 2 none]]) (L := [.row true 38 [.ik .i64, .ik .i64, .ik .i64] [[0, 0, 255], [255, 0, 255]]]) [i] (by simp) rfl rfl (by rintro (_ | i') j ob h1 h2 <;> simp at h1 h2; subst h1 h2; exact hs) ?_
  refine AC_body tok 5 Try.func23 rfl (by kernel_rfl) ?_
  conv => whnf
  repeat' first
    | (refine AW_draw tok hP ?_; conv => whnf)
    | (refine And.intro (OkD.mk (by kernel_rfl)) ?_; conv => whnf)
    | (refine AC_body tok 12 Try.func53 rfl (by kernel_rfl) ?_; conv => whnf)
    | (refine AC_body tok 12 Try.func57 rfl (by kernel_rfl) ?_; conv => whnf)
    | (refine AC_body tok 12 Try.func58 rfl (by kernel_rfl) ?_; conv => whnf)
    | fail
  refine ALs.invD (ι := Int) tok 5 [false, false, false, false, false, false, false, false, true, false, false, false, false, false, false, false, false, false, false, false, false, false, false, false, false, false, false, false, false, true, true] (fun k => 5 ≤ k ∧ k ≤ 256) (fun k => (256 - k).toNat)
    (fun k => junks 8 ++ [.int .i64 (if k ≤ 255 then 1 else 2)] ++ junks 20 ++ [.arr [.ik .i64] PD.met2, .int .i64 k] ++ junks 7) (fun _ => [.row true 38 [.ik .i64, .ik .i64, .ik .i64] [[0, 0, 255], [255, 0, 255]]]) (fun _ => ()) 5 ⟨by omega, by omega⟩ (by rfl) ⟨_, rfl⟩ rfl (fun _ => Nat.le_refl _) (fun _ => rfl) ?_
  rintro k ⟨k0, k1⟩
  conv => whnf
  by_cases g : k < 256
  · rw [decide_eq_true g]
    conv => whnf
    have mg := PD.met2_get k.toNat (by omega)
    have e1 : Z.add .i64 k 1 = k + 1 := Z.wrap_iid (by omega) (by omega)
    have hb : (decide (0 ≤ k) && decide (k < ((256 : Nat) : Int)) && decide (PD.met2.length = 256)) = true := by
      rw [decide_eq_true (show 0 ≤ k by omega), decide_eq_true (show k < ((256 : Nat) : Int) by omega)]; decide +kernel
    first | refine andI hb ?_ | refine ifT hb ?_
    conv => whnf
    have es : Z.add .i64 (if k ≤ 255 then 1 else 2) ((PD.met2.getD k.toNat []).headD 0) = if Z.add .i64 k 1 ≤ 255 then 1 else 2 := by
      rw [mg, e1, if_pos (show k ≤ 255 by omega)]
      by_cases g2 : k = 255
      · rw [if_pos (by omega), if_neg (by omega)]; decide
      · rw [if_neg (by omega), if_pos (by omega)]; decide
    rw [es]
    exact ⟨Z.add .i64 k 1, [], rfl, rfl, rfl, by show (256 - Z.add .i64 k 1).toNat < (256 - k).toNat; rw [e1]; omega, by show 5 ≤ Z.add .i64 k 1; rw [e1]; omega, by show Z.add .i64 k 1 ≤ 256; rw [e1]; omega⟩
  · rw [decide_eq_false g]
    conv => whnf
    obtain rfl : k = 256 := by omega
    exact ⟨rfl, rfl, h⟩
