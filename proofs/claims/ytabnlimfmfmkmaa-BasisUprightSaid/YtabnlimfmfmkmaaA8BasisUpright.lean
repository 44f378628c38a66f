/- Proved: the law 'skylight/skylightlaw07.BasisUpright' returns true for every input and leaves its arguments as they were (Rows.BasisUprightSaid). No condition. -/
import Derived.Test.YtabnlimfmfmkmaaA8Law07U
import Derived.Test.YtabnlimfmfmkmaaRows
import Derived.WalkKit
import Derived.ProofKit
import Derived.OpenShut
import Derived.WideKeyArgs
namespace Go.Proofs.Ytabnlimfmfmkmaa.basisUpright
open Go.ChangeShapes Go.WideShapes Go.ChangeAt Go.RowKit
set_option linter.unusedVariables false
set_option linter.unusedSimpArgs false

theorem own : ownKnob Try.prog.godebug = none := by kernel_rfl

theorem walk (avs : List AW.AV) (obs : List AW.Ob) (ha : AW.ArgC 0 [.flat (.ik .i64), .flat (.ik .i64), .flat (.ik .i64)] avs obs) : AW.AC Try.prog 3 (AW.groupK [some 3] avs) obs fun r _ => r = .bool true := AW.A8.lawBasisUpright avs obs ha

theorem laid : laidOutB Try.prog = true := by kernel_rfl
theorem readable23 : Try.prog.readableRec 23 = true := by kernel_rfl
theorem kinds23 : AW.kindsK Try.prog 9 23 = some [.flat (.ik .i64), .flat (.ik .i64), .flat (.ik .i64)] := by kernel_rfl

set_option maxRecDepth 100000 in
theorem lifted (os : Os) (started : os.Started) (H : Type) (enc : TypeId × Value → H) :
    ReturnsInHanded {} Try.checked os 3 .any (Rows.basisUprightSpec.pre6 enc Try.prog Try.f3 Rows.basisUprightRow.domain false) (Rows.basisUprightSpec.post enc Try.prog Try.f3 false true false false) := by
  refine returnsInHanded_of_change (C := Try.checked) own started (by kernel_rfl) Try.func3
    (ChangeSpec.witness6 (enc := enc) (C := Try.checked) false ⟨#[], #[.agg #[.int .i64 0, .int .i64 0, .int .i64 0]], []⟩ 8 (by kernel_rfl) (by kernel_rfl) (by kernel_rfl) (by kernel_rfl)) ?_
  intro W base args ds gs before hval0 hW hcnd _
  have hval : ∀ (j : Nat) t v, Try.f3.params[j]? = some t → args[j]? = some v → Value.okWide Try.prog W .any base t v := hval0
  have hW' := hW
  obtain ⟨p, q, hA0, hV, rfl, hfz, hnd⟩ := hW
  have hA : DataW.TrodAll enc Try.prog W 0 (fun _ => true) true Try.f3.params.toList args.toList ds p := hA0
  rw [Try.params3] at hA hval
  obtain ⟨v0, vs0, d0, ds0, p0, q0, hargs, rfl, rfl, h0, r0⟩ := trodAll_cons hA
  obtain ⟨rfl, rfl, rfl⟩ := trodAll_nil r0
  obtain rfl : args = #[v0] := by cases args; simp_all
  obtain ⟨rfl, rfl⟩ := trodVars_none hV
  have k0 := hval 0 23 v0 rfl rfl
  obtain ⟨cs0, e0, c0⟩ := AW.arg_struct 9 kinds23 Try.underlying23 k0 h0
  have hargv : AW.ArgV W [some 3] [.flat (.ik .i64), .flat (.ik .i64), .flat (.ik .i64)] [.agg cs0.toArray] := (.agg c0 .nil)
  have hc : Calls Try.prog 3 #[v0] W fun e W' => e = .returned (.bool true) ∧ AW.Fr (fun _ => False) W W' := by
    rw [e0]
    exact AW.law_open ⟨_, Try.func3, by kernel_rfl, by kernel_rfl⟩ hargv walk
  refine hc.mono fun e W' ⟨he, hfr⟩ => ?_
  subst he
  have hg := AW.grown_of hfr (fun _ _ h => h)
  have same : ∀ p ∈ (p0 ++ []) ++ [], W.sameAt W' p := fun p hp => AW.same_of hfr (hW'.lt p hp)
  exact ⟨_, rfl, post_of_same (pa := p0 ++ []) (pv := []) hW' (fun _ _ _ => (trodAll_cons_mk (shut_bool Try.underlying4 _) trodAll_mk0)) (fun sp hsp => (trodAll_cons_mk (WideElems.Trod_stays laid readable23 (by decide +kernel) h0 (fun p hp => same p (by simp [hp])) (fun p hp => hsp p (by simp [hp]))) trodAll_mk0)) (fun _ _ => rfl) rfl
    (hg.frame _) hg.2.1 (ok_one (by kernel_rfl) rfl (okWide_bool_mk Try.underlying4 _))⟩

theorem over : Rows.basisUprightRow.holds Try.pinned (OpenSpec.ofChange Rows.basisUprightSpec) :=
  OpenClaim.holds_of_wide 3 Try.f3 rfl rfl rfl rfl rfl rfl rfl ⟨rfl, rfl, rfl, rfl, rfl⟩ rfl rfl rfl rfl rfl (by kernel_rfl) Try.func3 (by kernel_rfl)
    (of_decide_eq_true (by kernel_rfl)) (by unfold Func.isWrapper; first | (rw [if_pos (by decide +kernel)]; kernel_rfl) | (rw [if_neg (by decide +kernel)]; exact ⟨rfl, rfl⟩))
    (fun os started H enc _ => lifted os started H enc)

theorem proved : Rows.BasisUprightSaid :=
  over
#print axioms proved
end Go.Proofs.Ytabnlimfmfmkmaa.basisUpright
