/- Proved: the law 'skylight/skylightlaw52.DitherLevels' returns true for every input and leaves its arguments as they were (Rows.DitherLevelsSaid). No condition. -/
import Derived.Test.YthhhgdefejogoaaA3Law52L
import Derived.Test.YthhhgdefejogoaaRows
import Derived.WalkKit
import Derived.ProofKit
import Derived.OpenShut
import Derived.WideKeyArgs
namespace Go.Proofs.Ythhhgdefejogoaa.ditherLevels
open Go.ChangeShapes Go.WideShapes Go.ChangeAt Go.RowKit
set_option linter.unusedVariables false
set_option linter.unusedSimpArgs false

theorem own : ownKnob Try.prog.godebug = none := by kernel_rfl

theorem walk (avs : List AW.AV) (obs : List AW.Ob) (ha : AW.ArgC 0 [.flat (.ik .i64), .flat (.ik .i64), .sl 38 [.ik .i64, .ik .i64, .ik .i64], .flat (.ik .u8)] avs obs) : AW.AC Try.prog 5 (AW.groupK [some 3, none] avs) obs fun r _ => r = .bool true := AW.A3.lawDitherLevels avs obs ha

theorem laid : laidOutB Try.prog = true := by kernel_rfl
theorem readable5 : Try.prog.readableRec 5 = true := by kernel_rfl
theorem kinds5 : AW.kindsK Try.prog 9 5 = some [.flat (.ik .u8)] := by kernel_rfl
theorem readable27 : Try.prog.readableRec 27 = true := by kernel_rfl
theorem kinds27 : AW.kindsK Try.prog 9 27 = some [.flat (.ik .i64), .flat (.ik .i64), .sl 38 [.ik .i64, .ik .i64, .ik .i64]] := by kernel_rfl

set_option maxRecDepth 100000 in
theorem lifted (os : Os) (started : os.Started) (H : Type) (enc : TypeId × Value → H) :
    ReturnsInHanded {} Try.checked os 5 .any (Rows.ditherLevelsSpec.pre6 enc Try.prog Try.f5 Rows.ditherLevelsRow.domain false) (Rows.ditherLevelsSpec.post enc Try.prog Try.f5 false true false false) := by
  refine returnsInHanded_of_change (C := Try.checked) own started (by kernel_rfl) Try.func5
    (ChangeSpec.witness6 (enc := enc) (C := Try.checked) false ⟨#[], #[.agg #[.int .i64 0, .int .i64 0, .slice none 0 0], .int .u8 0], []⟩ 8 (by kernel_rfl) (by kernel_rfl) (by kernel_rfl) (by kernel_rfl)) ?_
  intro W base args ds gs before hval0 hW hcnd _
  have hval : ∀ (j : Nat) t v, Try.f5.params[j]? = some t → args[j]? = some v → Value.okWide Try.prog W .any base t v := hval0
  have hW' := hW
  obtain ⟨p, q, hA0, hV, rfl, hfz, hnd⟩ := hW
  have hA : DataW.TrodAll enc Try.prog W 0 (fun _ => true) true Try.f5.params.toList args.toList ds p := hA0
  rw [Try.params5] at hA hval
  obtain ⟨v0, vs0, d0, ds0, p0, q0, hargs, rfl, rfl, h0, r0⟩ := trodAll_cons hA
  obtain ⟨v1, vs1, d1, ds1, p1, q1, rfl, rfl, rfl, h1, r1⟩ := trodAll_cons r0
  obtain ⟨rfl, rfl, rfl⟩ := trodAll_nil r1
  obtain rfl : args = #[v0, v1] := by cases args; simp_all
  obtain ⟨rfl, rfl⟩ := trodVars_none hV
  have k0 := hval 0 27 v0 rfl rfl
  obtain ⟨cs0, e0, c0⟩ := AW.arg_struct 9 kinds27 Try.underlying27 k0 h0
  have c1 := AW.arg_one 9 kinds5 (by rw [Try.underlying5]; intro _ h; cases h) (by rw [Try.underlying5]; intro _ _ h; cases h) (hval 1 5 v1 rfl rfl) h1
  have hargv : AW.ArgV W [some 3, none] [.flat (.ik .i64), .flat (.ik .i64), .sl 38 [.ik .i64, .ik .i64, .ik .i64], .flat (.ik .u8)] [.agg cs0.toArray, v1] := (.agg c0 (.one c1 .nil))
  have hc : Calls Try.prog 5 #[v0, v1] W fun e W' => e = .returned (.bool true) ∧ AW.Fr (fun _ => False) W W' := by
    rw [e0]
    exact AW.law_open ⟨_, Try.func5, by kernel_rfl, by kernel_rfl⟩ hargv walk
  refine hc.mono fun e W' ⟨he, hfr⟩ => ?_
  subst he
  have hg := AW.grown_of hfr (fun _ _ h => h)
  have same : ∀ p ∈ (p0 ++ (p1 ++ [])) ++ [], W.sameAt W' p := fun p hp => AW.same_of hfr (hW'.lt p hp)
  exact ⟨_, rfl, post_of_same (pa := p0 ++ (p1 ++ [])) (pv := []) hW' (fun _ _ _ => (trodAll_cons_mk (shut_bool Try.underlying4 _) trodAll_mk0)) (fun sp hsp => (trodAll_cons_mk (WideElems.Trod_stays laid readable27 (by decide +kernel) h0 (fun p hp => same p (by simp [hp])) (fun p hp => hsp p (by simp [hp]))) (trodAll_cons_mk (WideElems.Trod_stays laid readable5 (by decide +kernel) h1 (fun p hp => same p (by simp [hp])) (fun p hp => hsp p (by simp [hp]))) trodAll_mk0))) (fun _ _ => rfl) rfl
    (hg.frame _) hg.2.1 (ok_one (by kernel_rfl) rfl (okWide_bool_mk Try.underlying4 _))⟩

theorem over : Rows.ditherLevelsRow.holds Try.pinned (OpenSpec.ofChange Rows.ditherLevelsSpec) :=
  OpenClaim.holds_of_wide 5 Try.f5 rfl rfl rfl rfl rfl rfl rfl ⟨rfl, rfl, rfl, rfl, rfl⟩ rfl rfl rfl rfl rfl (by kernel_rfl) Try.func5 (by kernel_rfl)
    (of_decide_eq_true (by kernel_rfl)) (by unfold Func.isWrapper; first | (rw [if_pos (by decide +kernel)]; kernel_rfl) | (rw [if_neg (by decide +kernel)]; exact ⟨rfl, rfl⟩))
    (fun os started H enc _ => lifted os started H enc)

theorem proved : Rows.DitherLevelsSaid :=
  over
#print axioms proved
end Go.Proofs.Ythhhgdefejogoaa.ditherLevels
