/- Proved: the law 'skylight/skylightlaw10.BoxHit' returns true for every input and leaves its arguments as they were (Rows.BoxHitSaid). No condition. -/
import Derived.Test.YtgajnkfaelecaaaA9Law10H
import Derived.Test.YtgajnkfaelecaaaRows
import Derived.WalkKit
import Derived.ProofKit
import Derived.OpenShut
import Derived.WideKeyArgs
namespace Go.Proofs.Ytgajnkfaelecaaa.boxHit
open Go.ChangeShapes Go.WideShapes Go.ChangeAt Go.RowKit
set_option linter.unusedVariables false
set_option linter.unusedSimpArgs false

theorem own : ownKnob Try.prog.godebug = none := by kernel_rfl

theorem walk (avs : List AW.AV) (obs : List AW.Ob) (ha : AW.ArgC 0 [.flat (.ik .i64), .flat (.ik .i64), .flat (.ik .i64), .flat (.ik .i64), .flat (.ik .i64), .flat (.ik .i64), .flat (.ik .i64), .flat (.ik .i64), .flat (.ik .i64), .flat (.ik .i64), .flat (.ik .i64), .flat (.ik .i64), .flat (.ik .i64), .flat (.ik .i64), .flat (.ik .i64), .flat (.ik .i64), .flat (.ik .i64), .flat (.ik .i64), .flat (.ik .i64), .flat (.ik .u32), .flat (.ik .u32)] avs obs) : AW.AC Try.prog 5 (AW.groupK [some 6, some 6, some 7, none, none] avs) obs fun r _ => r = .bool true := AW.A9.lawBoxHit avs obs ha

theorem laid : laidOutB Try.prog = true := by kernel_rfl
theorem readable47 : Try.prog.readableRec 47 = true := by kernel_rfl
theorem kinds47 : AW.kindsK Try.prog 9 47 = some [.flat (.ik .i64), .flat (.ik .i64), .flat (.ik .i64), .flat (.ik .i64), .flat (.ik .i64), .flat (.ik .i64)] := by kernel_rfl
theorem readable49 : Try.prog.readableRec 49 = true := by kernel_rfl
theorem kinds49 : AW.kindsK Try.prog 9 49 = some [.flat (.ik .i64), .flat (.ik .i64), .flat (.ik .i64), .flat (.ik .i64), .flat (.ik .i64), .flat (.ik .i64), .flat (.ik .i64)] := by kernel_rfl
theorem readable50 : Try.prog.readableRec 50 = true := by kernel_rfl
theorem kinds50 : AW.kindsK Try.prog 9 50 = some [.flat (.ik .u32)] := by kernel_rfl

set_option maxRecDepth 100000 in
theorem lifted (os : Os) (started : os.Started) (H : Type) (enc : TypeId × Value → H) :
    ReturnsInHanded {} Try.checked os 5 .any (Rows.boxHitSpec.pre6 enc Try.prog Try.f5 Rows.boxHitRow.domain false) (Rows.boxHitSpec.post enc Try.prog Try.f5 false true false false) := by
  refine returnsInHanded_of_change (C := Try.checked) own started (by kernel_rfl) Try.func5
    (ChangeSpec.witness6 (enc := enc) (C := Try.checked) false ⟨#[], #[.agg #[.int .i64 0, .int .i64 0, .int .i64 0, .int .i64 0, .int .i64 0, .int .i64 0], .agg #[.int .i64 0, .int .i64 0, .int .i64 0, .int .i64 0, .int .i64 0, .int .i64 0], .agg #[.int .i64 0, .int .i64 0, .int .i64 0, .int .i64 0, .int .i64 0, .int .i64 0, .int .i64 0], .int .u32 0, .int .u32 0], []⟩ 8 (by kernel_rfl) (by kernel_rfl) (by kernel_rfl) (by kernel_rfl)) ?_
  intro W base args ds gs before hval0 hW hcnd _
  have hval : ∀ (j : Nat) t v, Try.f5.params[j]? = some t → args[j]? = some v → Value.okWide Try.prog W .any base t v := hval0
  have hW' := hW
  obtain ⟨p, q, hA0, hV, rfl, hfz, hnd⟩ := hW
  have hA : DataW.TrodAll enc Try.prog W 0 (fun _ => true) true Try.f5.params.toList args.toList ds p := hA0
  rw [Try.params5] at hA hval
  obtain ⟨v0, vs0, d0, ds0, p0, q0, hargs, rfl, rfl, h0, r0⟩ := trodAll_cons hA
  obtain ⟨v1, vs1, d1, ds1, p1, q1, rfl, rfl, rfl, h1, r1⟩ := trodAll_cons r0
  obtain ⟨v2, vs2, d2, ds2, p2, q2, rfl, rfl, rfl, h2, r2⟩ := trodAll_cons r1
  obtain ⟨v3, vs3, d3, ds3, p3, q3, rfl, rfl, rfl, h3, r3⟩ := trodAll_cons r2
  obtain ⟨v4, vs4, d4, ds4, p4, q4, rfl, rfl, rfl, h4, r4⟩ := trodAll_cons r3
  obtain ⟨rfl, rfl, rfl⟩ := trodAll_nil r4
  obtain rfl : args = #[v0, v1, v2, v3, v4] := by cases args; simp_all
  obtain ⟨rfl, rfl⟩ := trodVars_none hV
  have k0 := hval 0 47 v0 rfl rfl
  obtain ⟨cs0, e0, c0⟩ := AW.arg_struct 9 kinds47 Try.underlying47 k0 h0
  have k1 := hval 1 47 v1 rfl rfl
  obtain ⟨cs1, e1, c1⟩ := AW.arg_struct 9 kinds47 Try.underlying47 k1 h1
  have k2 := hval 2 49 v2 rfl rfl
  obtain ⟨cs2, e2, c2⟩ := AW.arg_struct 9 kinds49 Try.underlying49 k2 h2
  have c3 := AW.arg_one 9 kinds50 (by rw [Try.underlying50]; intro _ h; cases h) (by rw [Try.underlying50]; intro _ _ h; cases h) (hval 3 50 v3 rfl rfl) h3
  have c4 := AW.arg_one 9 kinds50 (by rw [Try.underlying50]; intro _ h; cases h) (by rw [Try.underlying50]; intro _ _ h; cases h) (hval 4 50 v4 rfl rfl) h4
  have hargv : AW.ArgV W [some 6, some 6, some 7, none, none] [.flat (.ik .i64), .flat (.ik .i64), .flat (.ik .i64), .flat (.ik .i64), .flat (.ik .i64), .flat (.ik .i64), .flat (.ik .i64), .flat (.ik .i64), .flat (.ik .i64), .flat (.ik .i64), .flat (.ik .i64), .flat (.ik .i64), .flat (.ik .i64), .flat (.ik .i64), .flat (.ik .i64), .flat (.ik .i64), .flat (.ik .i64), .flat (.ik .i64), .flat (.ik .i64), .flat (.ik .u32), .flat (.ik .u32)] [.agg cs0.toArray, .agg cs1.toArray, .agg cs2.toArray, v3, v4] := (.agg c0 (.agg c1 (.agg c2 (.one c3 (.one c4 .nil)))))
  have hc : Calls Try.prog 5 #[v0, v1, v2, v3, v4] W fun e W' => e = .returned (.bool true) ∧ AW.Fr (fun _ => False) W W' := by
    rw [e0, e1, e2]
    exact AW.law_open ⟨_, Try.func5, by kernel_rfl, by kernel_rfl⟩ hargv walk
  refine hc.mono fun e W' ⟨he, hfr⟩ => ?_
  subst he
  have hg := AW.grown_of hfr (fun _ _ h => h)
  have same : ∀ p ∈ (p0 ++ (p1 ++ (p2 ++ (p3 ++ (p4 ++ []))))) ++ [], W.sameAt W' p := fun p hp => AW.same_of hfr (hW'.lt p hp)
  exact ⟨_, rfl, post_of_same (pa := p0 ++ (p1 ++ (p2 ++ (p3 ++ (p4 ++ []))))) (pv := []) hW' (fun _ _ _ => (trodAll_cons_mk (shut_bool Try.underlying4 _) trodAll_mk0)) (fun sp hsp => (trodAll_cons_mk (WideElems.Trod_stays laid readable47 (by decide +kernel) h0 (fun p hp => same p (by simp [hp])) (fun p hp => hsp p (by simp [hp]))) (trodAll_cons_mk (WideElems.Trod_stays laid readable47 (by decide +kernel) h1 (fun p hp => same p (by simp [hp])) (fun p hp => hsp p (by simp [hp]))) (trodAll_cons_mk (WideElems.Trod_stays laid readable49 (by decide +kernel) h2 (fun p hp => same p (by simp [hp])) (fun p hp => hsp p (by simp [hp]))) (trodAll_cons_mk (WideElems.Trod_stays laid readable50 (by decide +kernel) h3 (fun p hp => same p (by simp [hp])) (fun p hp => hsp p (by simp [hp]))) (trodAll_cons_mk (WideElems.Trod_stays laid readable50 (by decide +kernel) h4 (fun p hp => same p (by simp [hp])) (fun p hp => hsp p (by simp [hp]))) trodAll_mk0)))))) (fun _ _ => rfl) rfl
    (hg.frame _) hg.2.1 (ok_one (by kernel_rfl) rfl (okWide_bool_mk Try.underlying4 _))⟩

theorem over : Rows.boxHitRow.holds Try.pinned (OpenSpec.ofChange Rows.boxHitSpec) :=
  OpenClaim.holds_of_wide 5 Try.f5 rfl rfl rfl rfl rfl rfl rfl ⟨rfl, rfl, rfl, rfl, rfl⟩ rfl rfl rfl rfl rfl (by kernel_rfl) Try.func5 (by kernel_rfl)
    (of_decide_eq_true (by kernel_rfl)) (by unfold Func.isWrapper; first | (rw [if_pos (by decide +kernel)]; kernel_rfl) | (rw [if_neg (by decide +kernel)]; exact ⟨rfl, rfl⟩))
    (fun os started H enc _ => lifted os started H enc)

theorem proved : Rows.BoxHitSaid :=
  over
#print axioms proved
end Go.Proofs.Ytgajnkfaelecaaa.boxHit
