/- Part of the proof of a law of the seat: its functions, walked. No condition. -/
import Derived.Test.YtgajnkfaelecaaaA9Num
import Derived.Test.YtgajnkfaelecaaaPTrig
namespace Go.AW.A9
open Go Go.AW Go.Proofs
set_option maxRecDepth 100000
set_option linter.unusedVariables false
theorem trigBow {h : Int} (h0 : 0 ≤ h) (h1 : h ≤ 32768) {s : List Ob} {Q : AV → List Ob → Prop} (hq : ∀ v, v = bowI h → Q (.int .i64 v) s) : AC Try.prog 92 [.int .i64 h] s Q := by
  refine AC_pure rfl ?_
  refine AC_body tok 3 Try.func92 rfl (by kernel_rfl) ?_
  conv => whnf
  obtain ⟨a0, a1⟩ := PT.bow_arg h0 h1
  have e1 : Z.sub .i64 32768 h = 32768 - h := Z.wrap_iid (by omega) (by omega)
  have e2 : Z.mul .i64 h (Z.sub .i64 32768 h) = h * (32768 - h) := by rw [e1]; exact Z.wrap_iid (by omega) (by omega)
  have e3 : Z.mul .i64 4 (Z.mul .i64 h (Z.sub .i64 32768 h)) = 4 * (h * (32768 - h)) := by rw [e2]; exact Z.wrap_iid (by omega) (by omega)
  have e4 : Z.sub .i64 5368709120 (Z.mul .i64 4 (Z.mul .i64 h (Z.sub .i64 32768 h))) = 5368709120 - 4 * (h * (32768 - h)) := by rw [e3]; exact Z.wrap_iid (by omega) (by omega)
  have e5 : Z.mul .i64 262144 (Z.mul .i64 h (Z.sub .i64 32768 h)) = 262144 * (h * (32768 - h)) := by rw [e2]; exact Z.wrap_iid (by omega) (by omega)
  refine nzI (by rw [e4]; omega) ?_
  conv => whnf
  exact ⟨rfl, hq _ (by rw [e4, e5, quo_pos (by omega) (by omega) (by omega)]; rfl)⟩
theorem trigSin {h : Int} (h0 : I64 h) {s : List Ob} {Q : AV → List Ob → Prop} (hq : ∀ v, v = sinI h → Q (.int .i64 v) s) : AC Try.prog 87 [.int .i64 h] s Q := by
  refine AC_pure rfl ?_
  refine AC_body tok 3 Try.func87 rfl (by kernel_rfl) ?_
  unfold sinI at hq
  conv => whnf
  refine numMod h0.1 h0.2 (by omega) (fun v hv => ?_)
  rw [PT.mod_w] at hv
  conv => whnf
  by_cases g : v < 32768
  · rw [decide_eq_true g]
    conv => whnf
    refine trigBow (by omega) (by omega) (fun u hu => ?_)
    conv => whnf
    exact ⟨rfl, hq _ (by rw [if_pos (by omega), hu, hv])⟩
  · rw [decide_eq_false g]
    conv => whnf
    have e1 : Z.sub .i64 v 32768 = v - 32768 := Z.wrap_iid (by omega) (by omega)
    refine trigBow (by rw [e1]; omega) (by rw [e1]; omega) (fun u hu => ?_)
    rw [e1] at hu
    conv => whnf
    have := PT.bow_le (show 0 ≤ v - 32768 by omega) (by omega)
    exact ⟨rfl, hq _ (by rw [if_neg (by omega), ← hv, ← hu, show Z.neg .i64 u = 0 - u from Z.wrap_iid (by omega) (by omega)]; omega)⟩
theorem trigCos {h : Int} (h0 : I64 h) {s : List Ob} {Q : AV → List Ob → Prop} (hq : ∀ v, v = cosI h → Q (.int .i64 v) s) : AC Try.prog 86 [.int .i64 h] s Q := by
  refine AC_pure rfl ?_
  refine AC_body tok 3 Try.func86 rfl (by kernel_rfl) ?_
  conv => whnf
  refine numMod h0.1 h0.2 (by omega) (fun v hv => ?_)
  rw [PT.mod_w] at hv
  conv => whnf
  have e1 : Z.add .i64 v 16384 = v + 16384 := Z.wrap_iid (by omega) (by omega)
  refine trigSin (by rw [e1]; constructor <;> omega) (fun w hw => ?_)
  conv => whnf
  exact ⟨rfl, hq _ (by rw [hw, e1, hv]; rfl)⟩
theorem trigBoth {h : Int} (h0 : I64 h) {s : List Ob} {Q : AV → List Ob → Prop} (hq : ∀ v u, v = cosI h → u = sinI h → Q (.tup [.int .i64 v, .int .i64 u]) s) : AC Try.prog 82 [.int .i64 h] s Q := by
  refine AC_pure rfl ?_
  refine AC_body tok 3 Try.func82 rfl (by kernel_rfl) ?_
  conv => whnf
  refine trigCos h0 (fun v hv => ?_)
  conv => whnf
  refine trigSin h0 (fun u hu => ?_)
  conv => whnf
  exact ⟨rfl, hq _ _ hv hu⟩
