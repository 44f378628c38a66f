/- Part of the proof of a law of the seat: its functions, walked. No condition. -/
import Derived.Test.YtpfcppkggnngiaaA6Law02
import Derived.Test.YtpfcppkggnngiaaA6WideRef
namespace Go.AW.A6
open Go Go.AW Go.Proofs
set_option maxRecDepth 100000
set_option linter.unusedVariables false
theorem same02 {x : Int} {s : List Ob} {Q : AV → List Ob → Prop} (hq : Q (.bool true) s) : AC Try.prog 19 [WA x, WA x] s Q := by
  refine AC_pure rfl ?_
  refine AC_body tok 3 Try.func19 rfl (by kernel_rfl) ?_
  conv => whnf
  rw [beq_self_eq_true (whi x)]
  conv => whnf
  rw [beq_self_eq_true (wlo x)]
  exact ⟨rfl, hq⟩
theorem lawWideTells (avs : List AV) (obs : List Ob) (ha : ArgC 0 [.flat (.ik .i64), .flat (.ik .u64), .flat (.ik .i64), .flat (.ik .u64), .flat (.ik .i64), .flat (.ik .i64)] avs obs) : AC Try.prog 4 (groupK [some 2, some 2, none, none] avs) obs fun r _ => r = .bool true := by
  cases ha with | int w1 ha => cases ha with | int w2 ha => cases ha with | int w3 ha => cases ha with | int w4 ha => cases ha with | int w5 ha => cases ha with | int w6 ha =>
  cases ha
  rename_i h l h' l' n m
  obtain ⟨x, hx, rfl, rfl⟩ := PW.ofWide (wf_i64 w1) (wf_u64 w2)
  obtain ⟨y, hy, rfl, rfl⟩ := PW.ofWide (wf_i64 w3) (wf_u64 w4)
  replace w5 : I64 n := wf_i64 w5
  replace w6 : I64 m := wf_i64 w6
  refine AC_body tok 3 Try.func4 rfl (by kernel_rfl) ?_
  conv => whnf
  try (refine AW_draw tok hP ?_; conv => whnf)
  first | refine AQ_pure (fun sK QK hK => of02 hK) ?_ | refine of02 ?_
  conv => whnf
  try (refine And.intro (OkD.mk (by kernel_rfl)) ?_; conv => whnf)
  refine wideRootW hx (fun r p h1 h2 => ?_)
  conv => whnf
  refine rwRoot hx (fun r' p' h3 h4 => ?_)
  conv => whnf
  obtain rfl : r' = r := by rw [h1, h3]
  obtain rfl : p' = p := by rw [h2, h4]
  try (refine AW_draw tok hP ?_; conv => whnf)
  first | refine AQ_pure (fun sK QK hK => of02 hK) ?_ | refine of02 ?_
  conv => whnf
  try (refine And.intro (OkD.mk (by kernel_rfl)) ?_; conv => whnf)
  try (refine AW_draw tok hP ?_; conv => whnf)
  first | refine AQ_ib (fun sK QK hK => wideOverW hx w5 hK) (fun q ok h5 h6 => ?_) | refine wideOverW hx w5 (fun q ok h5 h6 => ?_)
  conv => whnf
  try (refine And.intro (OkD.mk (by kernel_rfl)) ?_; conv => whnf)
  try (refine AW_draw tok hP ?_; conv => whnf)
  first | refine AQ_ib (fun sK QK hK => rwOver hx w5 hK) (fun q' ok' h7 h8 => ?_) | refine rwOver hx w5 (fun q' ok' h7 h8 => ?_)
  conv => whnf
  try (refine And.intro (OkD.mk (by kernel_rfl)) ?_; conv => whnf)
  obtain rfl : q' = q := by rw [h5, h7]
  obtain rfl : ok' = ok := by rw [h6, h8]
  repeat' first
    | (refine AW_draw tok hP ?_; conv => whnf)
    | (refine And.intro (OkD.mk (by kernel_rfl)) ?_; conv => whnf)
    | (refine wideOf w5 ?_; conv => whnf)
    | (refine rwOf w5 ?_; conv => whnf)
    | (refine AQ_pure (fun s Q h => wideOf w5 h) ?_; conv => whnf)
    | (refine AQ_pure (fun s Q h => rwOf w5 h) ?_; conv => whnf)
    | (refine same02 ?_; conv => whnf)
    | (refine AQ_pure (fun s Q h => same02 h) ?_; conv => whnf)
    | (refine wideMul w5 w6 ?_; conv => whnf)
    | (refine rwMul w5 w6 ?_; conv => whnf)
    | (refine AQ_pure (fun s Q h => wideMul w5 w6 h) ?_; conv => whnf)
    | (refine AQ_pure (fun s Q h => rwMul w5 w6 h) ?_; conv => whnf)
    | (refine wideAddW hx hy ?_; conv => whnf)
    | (refine rwAdd hx hy ?_; conv => whnf)
    | (refine AQ_pure (fun s Q h => wideAddW hx hy h) ?_; conv => whnf)
    | (refine AQ_pure (fun s Q h => rwAdd hx hy h) ?_; conv => whnf)
    | (refine wideSubW hx hy ?_; conv => whnf)
    | (refine rwSub hx hy ?_; conv => whnf)
    | (refine AQ_pure (fun s Q h => wideSubW hx hy h) ?_; conv => whnf)
    | (refine AQ_pure (fun s Q h => rwSub hx hy h) ?_; conv => whnf)
    | (refine AQ_pure (fun s Q h => of02 h) ?_; conv => whnf)
    | (refine of02 ?_; conv => whnf)
    | fail
  try (refine AW_draw tok hP ?_; conv => whnf)
  first | refine AQ_int (fun sK QK hK => wideCmpW hK) (fun c1 hc1 => ?_) | refine wideCmpW (fun c1 hc1 => ?_)
  conv => whnf
  try (refine And.intro (OkD.mk (by kernel_rfl)) ?_; conv => whnf)
  try (refine AW_draw tok hP ?_; conv => whnf)
  first | refine AQ_int (fun sK QK hK => rwCmp hx hy hK) (fun c2 hc2 => ?_) | refine rwCmp hx hy (fun c2 hc2 => ?_)
  conv => whnf
  try (refine And.intro (OkD.mk (by kernel_rfl)) ?_; conv => whnf)
  obtain rfl : c2 = c1 := by rw [hc1, hc2]
  rw [beq_self_eq_true c2]
  conv => whnf
  rw [beq_self_eq_true r']
  conv => whnf
  rw [beq_self_eq_true p']
  conv => whnf
  rw [beq_self_eq_true q']
  conv => whnf
  rw [beq_self_eq_true ok']
  conv => whnf
  try (refine AW_draw tok hP ?_; conv => whnf)
  first | refine AQ_pure (fun sK QK hK => awake02 hK) ?_ | refine awake02 ?_
  conv => whnf
  try (refine And.intro (OkD.mk (by kernel_rfl)) ?_; conv => whnf)
