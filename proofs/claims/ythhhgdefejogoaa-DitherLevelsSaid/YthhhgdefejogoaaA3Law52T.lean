/- Part of the proof of a law of the seat: its functions, walked. No condition. -/
import Derived.Test.YthhhgdefejogoaaA3DBad
import Derived.Test.YthhhgdefejogoaaA3Dither
import Derived.Test.YthhhgdefejogoaaPSpr3
namespace Go.AW.A3
open Go Go.AW Go.Proofs
set_option maxRecDepth 100000
set_option maxHeartbeats 8000000
set_option linter.unusedVariables false
noncomputable def nearV (x n : Int) : Int := if (2 ≤ n ∧ n ≤ 16) ∧ -1048576 ≤ x ∧ x ≤ 1048576 then nearF n x else 0
theorem ditNearV {n x : Int} {s : List Ob} {Q : AV → List Ob → Prop} (h : ∀ v, v = nearV x n → Q (.int .i64 v) s) : AC Try.prog 9 [.int .i64 x, .int .i64 n] s Q :=
  ditNear (fun g => h _ (by unfold nearV; rw [if_neg g])) fun a b v hv => h _ (by unfold nearV; rw [if_pos ⟨a, b⟩, PD.nearF_of hv])
theorem refNearV {n x : Int} {s : List Ob} {Q : AV → List Ob → Prop} (h : ∀ v, v = nearV x n → Q (.int .i64 v) s) : AC Try.prog 13 [.int .i64 x, .int .i64 n] s Q :=
  ref52Near (fun g => h _ (by unfold nearV; rw [if_neg g])) fun a b v hv => h _ (by unfold nearV; rw [if_pos ⟨a, b⟩, PD.nearF_of hv])
theorem of52 {W H : Int} {len : Nat} {rows : List (List Int)} {e : TypeId} {own : Bool} {i : Nat} {s : List Ob} (hs : s[i]? = some (.row own e [.ik .i64, .ik .i64, .ik .i64] rows)) {Q : AV → List Ob → Prop} (h : Q (.agg [.int .i64 W, .int .i64 H, .sl i 0 len none]) s) : AC Try.prog 17 [.agg [.int .i64 W, .int .i64 H, .sl i 0 len none]] s Q := by
  refine AC_mkN (args' := [.agg [.int .i64 W, .int .i64 H, .sl 0 0 len none]]) (L := [.row own e [.ik .i64, .ik .i64, .ik .i64] rows]) [i] (by simp) rfl (by rintro (_ | i') j ob h1 h2 <;> simp at h1 h2 <;> subst h1 h2 <;> assumption) [] (by simp) rfl ?_
  refine AC_body tok 3 Try.func17 rfl (by kernel_rfl) ?_
  conv => whnf
  exact ⟨.agg [.int .i64 W, .int .i64 H, .sl 0 0 len none], [], rfl, rfl, rfl, by simpa [AV.ren, AV.ren.renL, rho] using h⟩
theorem of52_n {W H : Int} {s : List Ob} {Q : AV → List Ob → Prop} (h : Q (.agg [.int .i64 W, .int .i64 H, .nils]) s) : AC Try.prog 17 [.agg [.int .i64 W, .int .i64 H, .nils]] s Q := by
  refine AC_pure rfl ?_
  refine AC_body tok 3 Try.func17 rfl (by kernel_rfl) ?_
  conv => whnf
  exact ⟨rfl, h⟩
theorem of52_z {W H : Int} {s : List Ob} {Q : AV → List Ob → Prop} (h : Q (.agg [.int .i64 W, .int .i64 H, .sl0]) s) : AC Try.prog 17 [.agg [.int .i64 W, .int .i64 H, .sl0]] s Q := by
  refine AC_pure rfl ?_
  refine AC_body tok 3 Try.func17 rfl (by kernel_rfl) ?_
  conv => whnf
  exact ⟨rfl, h⟩
theorem back52 {W H : Int} {len : Nat} {rows : List (List Int)} {e : TypeId} {own : Bool} {i : Nat} {s : List Ob} (hs : s[i]? = some (.row own e [.ik .i64, .ik .i64, .ik .i64] rows)) {Q : AV → List Ob → Prop} (h : Q (.agg [.int .i64 W, .int .i64 H, .sl i 0 len none]) s) : AC Try.prog 15 [.agg [.int .i64 W, .int .i64 H, .sl i 0 len none]] s Q := by
  refine AC_mkN (args' := [.agg [.int .i64 W, .int .i64 H, .sl 0 0 len none]]) (L := [.row own e [.ik .i64, .ik .i64, .ik .i64] rows]) [i] (by simp) rfl (by rintro (_ | i') j ob h1 h2 <;> simp at h1 h2 <;> subst h1 h2 <;> assumption) [] (by simp) rfl ?_
  refine AC_body tok 3 Try.func15 rfl (by kernel_rfl) ?_
  conv => whnf
  exact ⟨.agg [.int .i64 W, .int .i64 H, .sl 0 0 len none], [], rfl, rfl, rfl, by simpa [AV.ren, AV.ren.renL, rho] using h⟩
theorem back52_n {W H : Int} {s : List Ob} {Q : AV → List Ob → Prop} (h : Q (.agg [.int .i64 W, .int .i64 H, .nils]) s) : AC Try.prog 15 [.agg [.int .i64 W, .int .i64 H, .nils]] s Q := by
  refine AC_pure rfl ?_
  refine AC_body tok 3 Try.func15 rfl (by kernel_rfl) ?_
  conv => whnf
  exact ⟨rfl, h⟩
theorem back52_z {W H : Int} {s : List Ob} {Q : AV → List Ob → Prop} (h : Q (.agg [.int .i64 W, .int .i64 H, .sl0]) s) : AC Try.prog 15 [.agg [.int .i64 W, .int .i64 H, .sl0]] s Q := by
  refine AC_pure rfl ?_
  refine AC_body tok 3 Try.func15 rfl (by kernel_rfl) ?_
  conv => whnf
  exact ⟨rfl, h⟩
theorem same_n {s : List Ob} {Q : AV → List Ob → Prop} (h : Q (.bool true) s) : AC Try.prog 14 [.agg [.int .i64 0, .int .i64 0, .nils], .agg [.int .i64 0, .int .i64 0, .nils]] s Q := by
  refine AC_pure rfl ?_
  refine AC_body tok 3 Try.func14 rfl (by kernel_rfl) ?_
  conv => whnf
  exact ⟨rfl, h⟩
theorem lawDitherTells (avs : List AV) (obs : List Ob) (ha : ArgC 0 [.flat (.ik .i64), .flat (.ik .i64), .sl 38 [.ik .i64, .ik .i64, .ik .i64], .flat (.ik .i64), .flat (.ik .i64), .flat (.ik .i64)] avs obs) : AC Try.prog 4 (groupK [some 3, none, none, none] avs) obs fun r _ => r = .bool true := by
  cases ha with | int w1 ha => cases ha with | int w2 ha =>
  cases ha with
  | nils ha =>
    cases ha with | int w3 ha => cases ha with | int w4 ha => cases ha with | int w5 ha =>
    cases ha
    refine AC_body tok 3 Try.func4 rfl (by kernel_rfl) ?_
    conv => whnf
    try (refine AW_draw tok hP ?_; conv => whnf)
    first | refine AQ_int (fun sK QK hK => ditLevel hK) (fun a1 h1 => ?_) | refine ditLevel (fun a1 h1 => ?_)
    conv => whnf
    try (refine And.intro (OkD.mk (by kernel_rfl)) ?_; conv => whnf)
    try (refine AW_draw tok hP ?_; conv => whnf)
    first | refine AQ_int (fun sK QK hK => ref52Level hK) (fun a2 h2 => ?_) | refine ref52Level (fun a2 h2 => ?_)
    conv => whnf
    try (refine And.intro (OkD.mk (by kernel_rfl)) ?_; conv => whnf)
    obtain rfl : a2 = a1 := by rw [h1, h2]
    rw [beq_self_eq_true a2]
    conv => whnf
    try (refine AW_draw tok hP ?_; conv => whnf)
    first | refine AQ_int (fun sK QK hK => ditNearV hK) (fun b1 h3 => ?_) | refine ditNearV (fun b1 h3 => ?_)
    conv => whnf
    try (refine And.intro (OkD.mk (by kernel_rfl)) ?_; conv => whnf)
    try (refine AW_draw tok hP ?_; conv => whnf)
    first | refine AQ_int (fun sK QK hK => refNearV hK) (fun b2 h4 => ?_) | refine refNearV (fun b2 h4 => ?_)
    conv => whnf
    try (refine And.intro (OkD.mk (by kernel_rfl)) ?_; conv => whnf)
    obtain rfl : b2 = b1 := by rw [h3, h4]
    rw [beq_self_eq_true b2]
    conv => whnf
    try (refine AW_draw tok hP ?_; conv => whnf)
    first | refine AQ_pure (fun sK QK hK => of52_n hK) ?_ | refine of52_n ?_
    conv => whnf
    try (refine And.intro (OkD.mk (by kernel_rfl)) ?_; conv => whnf)
    try (refine AW_draw tok hP ?_; conv => whnf)
    first | refine AQ_pure (fun sK QK hK => ditPlain_n hK) ?_ | refine ditPlain_n ?_
    conv => whnf
    try (refine And.intro (OkD.mk (by kernel_rfl)) ?_; conv => whnf)
    try (refine AW_draw tok hP ?_; conv => whnf)
    first | refine AQ_pure (fun sK QK hK => back52_n hK) ?_ | refine back52_n ?_
    conv => whnf
    try (refine And.intro (OkD.mk (by kernel_rfl)) ?_; conv => whnf)
    try (refine AW_draw tok hP ?_; conv => whnf)
    first | refine AQ_pure (fun sK QK hK => refPlain52_n hK) ?_ | refine refPlain52_n ?_
    conv => whnf
    try (refine And.intro (OkD.mk (by kernel_rfl)) ?_; conv => whnf)
    try (refine AW_draw tok hP ?_; conv => whnf)
    first | refine AQ_pure (fun sK QK hK => same_n hK) ?_ | refine same_n ?_
    conv => whnf
    try (refine And.intro (OkD.mk (by kernel_rfl)) ?_; conv => whnf)
    try (refine AW_draw tok hP ?_; conv => whnf)
    first | refine AQ_pure (fun sK QK hK => of52_n hK) ?_ | refine of52_n ?_
    conv => whnf
    try (refine And.intro (OkD.mk (by kernel_rfl)) ?_; conv => whnf)
    try (refine AW_draw tok hP ?_; conv => whnf)
    first | refine AQ_pure (fun sK QK hK => ditSpread_n hK) ?_ | refine ditSpread_n ?_
    conv => whnf
    try (refine And.intro (OkD.mk (by kernel_rfl)) ?_; conv => whnf)
    try (refine AW_draw tok hP ?_; conv => whnf)
    first | refine AQ_pure (fun sK QK hK => back52_n hK) ?_ | refine back52_n ?_
    conv => whnf
    try (refine And.intro (OkD.mk (by kernel_rfl)) ?_; conv => whnf)
    try (refine AW_draw tok hP ?_; conv => whnf)
    first | refine AQ_pure (fun sK QK hK => refSpread52_n hK) ?_ | refine refSpread52_n ?_
    conv => whnf
    try (refine And.intro (OkD.mk (by kernel_rfl)) ?_; conv => whnf)
    try (refine AW_draw tok hP ?_; conv => whnf)
    first | refine AQ_pure (fun sK QK hK => same_n hK) ?_ | refine same_n ?_
    conv => whnf
    try (refine And.intro (OkD.mk (by kernel_rfl)) ?_; conv => whnf)
    try (refine AW_draw tok hP ?_; conv => whnf)
    first | refine AQ_pure (fun sK QK hK => of52_n hK) ?_ | refine of52_n ?_
    conv => whnf
    try (refine And.intro (OkD.mk (by kernel_rfl)) ?_; conv => whnf)
    try (refine AW_draw tok hP ?_; conv => whnf)
    first | refine AQ_pure (fun sK QK hK => ditOrdered_n hK) ?_ | refine ditOrdered_n ?_
    conv => whnf
    try (refine And.intro (OkD.mk (by kernel_rfl)) ?_; conv => whnf)
    try (refine AW_draw tok hP ?_; conv => whnf)
    first | refine AQ_pure (fun sK QK hK => back52_n hK) ?_ | refine back52_n ?_
    conv => whnf
    try (refine And.intro (OkD.mk (by kernel_rfl)) ?_; conv => whnf)
    try (refine AW_draw tok hP ?_; conv => whnf)
    first | refine AQ_pure (fun sK QK hK => refOrd52_n hK) ?_ | refine refOrd52_n ?_
    conv => whnf
    try (refine And.intro (OkD.mk (by kernel_rfl)) ?_; conv => whnf)
    try (refine AW_draw tok hP ?_; conv => whnf)
    first | refine AQ_pure (fun sK QK hK => same_n hK) ?_ | refine same_n ?_
    conv => whnf
    try (refine And.intro (OkD.mk (by kernel_rfl)) ?_; conv => whnf)
    try (refine AW_draw tok hP ?_; conv => whnf)
    first | refine AQ_pure (fun sK QK hK => of52_n hK) ?_ | refine of52_n ?_
    conv => whnf
    try (refine And.intro (OkD.mk (by kernel_rfl)) ?_; conv => whnf)
    try (refine AW_draw tok hP ?_; conv => whnf)
    first | refine AQ_pure (fun sK QK hK => ditCount_n hK) ?_ | refine ditCount_n ?_
    conv => whnf
    try (refine And.intro (OkD.mk (by kernel_rfl)) ?_; conv => whnf)
    try (refine AW_draw tok hP ?_; conv => whnf)
    first | refine AQ_pure (fun sK QK hK => refCount52_n hK) ?_ | refine refCount52_n ?_
    conv => whnf
    try (refine And.intro (OkD.mk (by kernel_rfl)) ?_; conv => whnf)
    try (refine AW_draw tok hP ?_; conv => whnf)
    first | refine AQ_pure (fun sK QK hK => awake52 hK) ?_ | refine awake52 ?_
    conv => whnf
    try (refine And.intro (OkD.mk (by kernel_rfl)) ?_; conv => whnf)
  | sl0 ha =>
    cases ha with | int w3 ha => cases ha with | int w4 ha => cases ha with | int w5 ha =>
    cases ha
    refine AC_body tok 3 Try.func4 rfl (by kernel_rfl) ?_
    conv => whnf
    try (refine AW_draw tok hP ?_; conv => whnf)
    first | refine AQ_int (fun sK QK hK => ditLevel hK) (fun a1 h1 => ?_) | refine ditLevel (fun a1 h1 => ?_)
    conv => whnf
    try (refine And.intro (OkD.mk (by kernel_rfl)) ?_; conv => whnf)
    try (refine AW_draw tok hP ?_; conv => whnf)
    first | refine AQ_int (fun sK QK hK => ref52Level hK) (fun a2 h2 => ?_) | refine ref52Level (fun a2 h2 => ?_)
    conv => whnf
    try (refine And.intro (OkD.mk (by kernel_rfl)) ?_; conv => whnf)
    obtain rfl : a2 = a1 := by rw [h1, h2]
    rw [beq_self_eq_true a2]
    conv => whnf
    try (refine AW_draw tok hP ?_; conv => whnf)
    first | refine AQ_int (fun sK QK hK => ditNearV hK) (fun b1 h3 => ?_) | refine ditNearV (fun b1 h3 => ?_)
    conv => whnf
    try (refine And.intro (OkD.mk (by kernel_rfl)) ?_; conv => whnf)
    try (refine AW_draw tok hP ?_; conv => whnf)
    first | refine AQ_int (fun sK QK hK => refNearV hK) (fun b2 h4 => ?_) | refine refNearV (fun b2 h4 => ?_)
    conv => whnf
    try (refine And.intro (OkD.mk (by kernel_rfl)) ?_; conv => whnf)
    obtain rfl : b2 = b1 := by rw [h3, h4]
    rw [beq_self_eq_true b2]
    conv => whnf
    try (refine AW_draw tok hP ?_; conv => whnf)
    first | refine AQ_pure (fun sK QK hK => of52_z hK) ?_ | refine of52_z ?_
    conv => whnf
    try (refine And.intro (OkD.mk (by kernel_rfl)) ?_; conv => whnf)
    try (refine AW_draw tok hP ?_; conv => whnf)
    first | refine AQ_pure (fun sK QK hK => ditPlain_z hK) ?_ | refine ditPlain_z ?_
    conv => whnf
    try (refine And.intro (OkD.mk (by kernel_rfl)) ?_; conv => whnf)
    try (refine AW_draw tok hP ?_; conv => whnf)
    first | refine AQ_pure (fun sK QK hK => back52_n hK) ?_ | refine back52_n ?_
    conv => whnf
    try (refine And.intro (OkD.mk (by kernel_rfl)) ?_; conv => whnf)
    try (refine AW_draw tok hP ?_; conv => whnf)
    first | refine AQ_pure (fun sK QK hK => refPlain52_z hK) ?_ | refine refPlain52_z ?_
    conv => whnf
    try (refine And.intro (OkD.mk (by kernel_rfl)) ?_; conv => whnf)
    try (refine AW_draw tok hP ?_; conv => whnf)
    first | refine AQ_pure (fun sK QK hK => same_n hK) ?_ | refine same_n ?_
    conv => whnf
    try (refine And.intro (OkD.mk (by kernel_rfl)) ?_; conv => whnf)
    try (refine AW_draw tok hP ?_; conv => whnf)
    first | refine AQ_pure (fun sK QK hK => of52_z hK) ?_ | refine of52_z ?_
    conv => whnf
    try (refine And.intro (OkD.mk (by kernel_rfl)) ?_; conv => whnf)
    try (refine AW_draw tok hP ?_; conv => whnf)
    first | refine AQ_pure (fun sK QK hK => ditSpread_z hK) ?_ | refine ditSpread_z ?_
    conv => whnf
    try (refine And.intro (OkD.mk (by kernel_rfl)) ?_; conv => whnf)
    try (refine AW_draw tok hP ?_; conv => whnf)
    first | refine AQ_pure (fun sK QK hK => back52_n hK) ?_ | refine back52_n ?_
    conv => whnf
    try (refine And.intro (OkD.mk (by kernel_rfl)) ?_; conv => whnf)
    try (refine AW_draw tok hP ?_; conv => whnf)
    first | refine AQ_pure (fun sK QK hK => refSpread52_z hK) ?_ | refine refSpread52_z ?_
    conv => whnf
    try (refine And.intro (OkD.mk (by kernel_rfl)) ?_; conv => whnf)
    try (refine AW_draw tok hP ?_; conv => whnf)
    first | refine AQ_pure (fun sK QK hK => same_n hK) ?_ | refine same_n ?_
    conv => whnf
    try (refine And.intro (OkD.mk (by kernel_rfl)) ?_; conv => whnf)
    try (refine AW_draw tok hP ?_; conv => whnf)
    first | refine AQ_pure (fun sK QK hK => of52_z hK) ?_ | refine of52_z ?_
    conv => whnf
    try (refine And.intro (OkD.mk (by kernel_rfl)) ?_; conv => whnf)
    try (refine AW_draw tok hP ?_; conv => whnf)
    first | refine AQ_pure (fun sK QK hK => ditOrdered_z hK) ?_ | refine ditOrdered_z ?_
    conv => whnf
    try (refine And.intro (OkD.mk (by kernel_rfl)) ?_; conv => whnf)
    try (refine AW_draw tok hP ?_; conv => whnf)
    first | refine AQ_pure (fun sK QK hK => back52_n hK) ?_ | refine back52_n ?_
    conv => whnf
    try (refine And.intro (OkD.mk (by kernel_rfl)) ?_; conv => whnf)
    try (refine AW_draw tok hP ?_; conv => whnf)
    first | refine AQ_pure (fun sK QK hK => refOrd52_z hK) ?_ | refine refOrd52_z ?_
    conv => whnf
    try (refine And.intro (OkD.mk (by kernel_rfl)) ?_; conv => whnf)
    try (refine AW_draw tok hP ?_; conv => whnf)
    first | refine AQ_pure (fun sK QK hK => same_n hK) ?_ | refine same_n ?_
    conv => whnf
    try (refine And.intro (OkD.mk (by kernel_rfl)) ?_; conv => whnf)
    try (refine AW_draw tok hP ?_; conv => whnf)
    first | refine AQ_pure (fun sK QK hK => of52_z hK) ?_ | refine of52_z ?_
    conv => whnf
    try (refine And.intro (OkD.mk (by kernel_rfl)) ?_; conv => whnf)
    try (refine AW_draw tok hP ?_; conv => whnf)
    first | refine AQ_pure (fun sK QK hK => ditCount_z hK) ?_ | refine ditCount_z ?_
    conv => whnf
    try (refine And.intro (OkD.mk (by kernel_rfl)) ?_; conv => whnf)
    try (refine AW_draw tok hP ?_; conv => whnf)
    first | refine AQ_pure (fun sK QK hK => refCount52_z hK) ?_ | refine refCount52_z ?_
    conv => whnf
    try (refine And.intro (OkD.mk (by kernel_rfl)) ?_; conv => whnf)
    try (refine AW_draw tok hP ?_; conv => whnf)
    first | refine AQ_pure (fun sK QK hK => awake52 hK) ?_ | refine awake52 ?_
    conv => whnf
    try (refine And.intro (OkD.mk (by kernel_rfl)) ?_; conv => whnf)
  | sl hl hf ha =>
    cases ha with | int w3 ha => cases ha with | int w4 ha => cases ha with | int w5 ha =>
    cases ha
    rename_i H W rows n k x
    have ft := fit3_of hf
    refine AC_body tok 3 Try.func4 rfl (by kernel_rfl) ?_
    conv => whnf
    by_cases g40 : (rows.length : Int) > 40
    · rw [decide_eq_true g40]
      conv => whnf
      exact awake52 rfl
    rw [decide_eq_false g40]
    conv => whnf
    try (refine AW_draw tok hP ?_; conv => whnf)
    first | refine AQ_int (fun sK QK hK => ditLevel hK) (fun a1 h1 => ?_) | refine ditLevel (fun a1 h1 => ?_)
    conv => whnf
    try (refine And.intro (OkD.mk (by kernel_rfl)) ?_; conv => whnf)
    try (refine AW_draw tok hP ?_; conv => whnf)
    first | refine AQ_int (fun sK QK hK => ref52Level hK) (fun a2 h2 => ?_) | refine ref52Level (fun a2 h2 => ?_)
    conv => whnf
    try (refine And.intro (OkD.mk (by kernel_rfl)) ?_; conv => whnf)
    obtain rfl : a2 = a1 := by rw [h1, h2]
    rw [beq_self_eq_true a2]
    conv => whnf
    try (refine AW_draw tok hP ?_; conv => whnf)
    first | refine AQ_int (fun sK QK hK => ditNearV hK) (fun b1 h3 => ?_) | refine ditNearV (fun b1 h3 => ?_)
    conv => whnf
    try (refine And.intro (OkD.mk (by kernel_rfl)) ?_; conv => whnf)
    try (refine AW_draw tok hP ?_; conv => whnf)
    first | refine AQ_int (fun sK QK hK => refNearV hK) (fun b2 h4 => ?_) | refine refNearV (fun b2 h4 => ?_)
    conv => whnf
    try (refine And.intro (OkD.mk (by kernel_rfl)) ?_; conv => whnf)
    obtain rfl : b2 = b1 := by rw [h3, h4]
    rw [beq_self_eq_true b2]
    conv => whnf
    cases hb : (picB H W rows && decide (2 ≤ n ∧ n ≤ 16))
    · skip
      refine AQ_read [0] (r := .agg [.int .i64 _, .int .i64 _, .sl 0 0 rows.length none]) (fun s' Q hl' hC h => of52 ((hC 0 (by decide)).trans rfl) h) ?_
      conv => whnf
      refine AQ_read [0] (r := .agg [.int .i64 0, .int .i64 0, .nils]) (fun s' Q hl' hC h => ditPlain_bad (by omega) ft hb ((hC 0 (by decide)).trans rfl) h) ?_
      conv => whnf
      try (refine AW_draw tok hP ?_; conv => whnf)
      first | refine AQ_pure (fun sK QK hK => back52_n hK) ?_ | refine back52_n ?_
      conv => whnf
      try (refine And.intro (OkD.mk (by kernel_rfl)) ?_; conv => whnf)
      refine AQ_read [0] (r := .agg [.int .i64 0, .int .i64 0, .nils]) (fun s' Q hl' hC h => refPlain52_bad (by omega) ft hb ((hC 0 (by decide)).trans rfl) h) ?_
      conv => whnf
      try (refine AW_draw tok hP ?_; conv => whnf)
      first | refine AQ_pure (fun sK QK hK => same_n hK) ?_ | refine same_n ?_
      conv => whnf
      try (refine And.intro (OkD.mk (by kernel_rfl)) ?_; conv => whnf)
      refine AQ_read [0] (r := .agg [.int .i64 _, .int .i64 _, .sl 0 0 rows.length none]) (fun s' Q hl' hC h => of52 ((hC 0 (by decide)).trans rfl) h) ?_
      conv => whnf
      refine AQ_read [0] (r := .agg [.int .i64 0, .int .i64 0, .nils]) (fun s' Q hl' hC h => ditSpread_bad (by omega) ft hb ((hC 0 (by decide)).trans rfl) h) ?_
      conv => whnf
      try (refine AW_draw tok hP ?_; conv => whnf)
      first | refine AQ_pure (fun sK QK hK => back52_n hK) ?_ | refine back52_n ?_
      conv => whnf
      try (refine And.intro (OkD.mk (by kernel_rfl)) ?_; conv => whnf)
      refine AQ_read [0] (r := .agg [.int .i64 0, .int .i64 0, .nils]) (fun s' Q hl' hC h => refSpread52_bad (by omega) ft hb ((hC 0 (by decide)).trans rfl) h) ?_
      conv => whnf
      try (refine AW_draw tok hP ?_; conv => whnf)
      first | refine AQ_pure (fun sK QK hK => same_n hK) ?_ | refine same_n ?_
      conv => whnf
      try (refine And.intro (OkD.mk (by kernel_rfl)) ?_; conv => whnf)
      refine AQ_read [0] (r := .agg [.int .i64 _, .int .i64 _, .sl 0 0 rows.length none]) (fun s' Q hl' hC h => of52 ((hC 0 (by decide)).trans rfl) h) ?_
      conv => whnf
      refine AQ_read [0] (r := .agg [.int .i64 0, .int .i64 0, .nils]) (fun s' Q hl' hC h => ditOrdered_bad (by omega) ft hb ((hC 0 (by decide)).trans rfl) h) ?_
      conv => whnf
      try (refine AW_draw tok hP ?_; conv => whnf)
      first | refine AQ_pure (fun sK QK hK => back52_n hK) ?_ | refine back52_n ?_
      conv => whnf
      try (refine And.intro (OkD.mk (by kernel_rfl)) ?_; conv => whnf)
      refine AQ_read [0] (r := .agg [.int .i64 0, .int .i64 0, .nils]) (fun s' Q hl' hC h => refOrd52_bad (by omega) ft hb ((hC 0 (by decide)).trans rfl) h) ?_
      conv => whnf
      try (refine AW_draw tok hP ?_; conv => whnf)
      first | refine AQ_pure (fun sK QK hK => same_n hK) ?_ | refine same_n ?_
      conv => whnf
      try (refine And.intro (OkD.mk (by kernel_rfl)) ?_; conv => whnf)
      refine AQ_read [0] (r := .agg [.int .i64 _, .int .i64 _, .sl 0 0 rows.length none]) (fun s' Q hl' hC h => of52 ((hC 0 (by decide)).trans rfl) h) ?_
      conv => whnf
      cases hp : picB H W rows
      · refine AQ_read [0] (r := .int .i64 0) (fun s' Q hl' hC h => ditCount_bad (by omega) ft hp ((hC 0 (by decide)).trans rfl) h) ?_
        conv => whnf
        refine AQ_read [0] (r := .int .i64 0) (fun s' Q hl' hC h => refCount52_bad (by omega) ft hp ((hC 0 (by decide)).trans rfl) h) ?_
        conv => whnf
        try (refine AW_draw tok hP ?_; conv => whnf)
        first | refine AQ_pure (fun sK QK hK => awake52 hK) ?_ | refine awake52 ?_
        conv => whnf
        try (refine And.intro (OkD.mk (by kernel_rfl)) ?_; conv => whnf)
      · obtain ⟨c, ec⟩ : ∃ c, c = countL rows.flatten := ⟨_, rfl⟩
        refine AQ_read [0] (r := .int .i64 c) (fun s' Q hl' hC h => ditCount hp (by omega) ft ((hC 0 (by decide)).trans rfl) (fun v hv => by rw [hv, ← ec]; exact h)) ?_
        conv => whnf
        refine AQ_read [0] (r := .int .i64 c) (fun s' Q hl' hC h => refCount52 hp (by omega) ft ((hC 0 (by decide)).trans rfl) (fun v hv => by rw [hv, ← ec]; exact h)) ?_
        conv => whnf
        rw [beq_self_eq_true c]
        conv => whnf
        try (refine AW_draw tok hP ?_; conv => whnf)
        first | refine AQ_pure (fun sK QK hK => awake52 hK) ?_ | refine awake52 ?_
        conv => whnf
        try (refine And.intro (OkD.mk (by kernel_rfl)) ?_; conv => whnf)
    · rw [Bool.and_eq_true, decide_eq_true_eq] at hb
      obtain ⟨hp, hn⟩ := hb
      refine AQ_read [0] (r := .agg [.int .i64 _, .int .i64 _, .sl 0 0 rows.length none]) (fun s' Q hl' hC h => of52 ((hC 0 (by decide)).trans rfl) h) ?_
      conv => whnf
      refine AQ_new [0] (r := .agg [.int .i64 _, .int .i64 _, .sl 2 0 rows.length none]) [.row true 38 [.ik .i64, .ik .i64, .ik .i64] (plainR n rows)] (fun s' Q hl' hC h => ditPlain (by omega) ft hn hp ((hC 0 (by decide)).trans rfl) (by rw [hl']; exact h)) ?_
      conv => whnf
      refine AQ_read [2] (r := .agg [.int .i64 _, .int .i64 _, .sl 2 0 rows.length none]) (fun s' Q hl' hC h => back52 ((hC 2 (by decide)).trans rfl) h) ?_
      conv => whnf
      refine AQ_new [0] (r := .agg [.int .i64 _, .int .i64 _, .sl 3 0 rows.length none]) [.row true 38 [.ik .i64, .ik .i64, .ik .i64] (plainR n rows)] (fun s' Q hl' hC h => refPlain52 (by omega) ft hn hp ((hC 0 (by decide)).trans rfl) (by rw [hl']; exact h)) ?_
      conv => whnf
      refine AQ_read [2, 3] (r := .bool true) (fun s' Q hl' hC h => same41 (rows := plainR n rows) (PS.plain_len n rows).symm (by rw [PS.plain_len n rows]; omega) (PS.lev_fit hn (PS.plain_lev ft)) (by decide) ((hC 2 (by decide)).trans rfl) ((hC 3 (by decide)).trans rfl) h) ?_
      conv => whnf
      refine AQ_read [0] (r := .agg [.int .i64 _, .int .i64 _, .sl 0 0 rows.length none]) (fun s' Q hl' hC h => of52 ((hC 0 (by decide)).trans rfl) h) ?_
      conv => whnf
      refine AQ_new [0] (r := .agg [.int .i64 _, .int .i64 _, .sl 4 0 rows.length none]) [.row true 38 [.ik .i64, .ik .i64, .ik .i64] (sprR n H.toNat W.toNat rows)] (fun s' Q hl' hC h => ditSpread (by omega) ft hn hp ((hC 0 (by decide)).trans rfl) (by rw [hl']; exact h)) ?_
      conv => whnf
      refine AQ_read [4] (r := .agg [.int .i64 _, .int .i64 _, .sl 4 0 rows.length none]) (fun s' Q hl' hC h => back52 ((hC 4 (by decide)).trans rfl) h) ?_
      conv => whnf
      refine AQ_new [0] (r := .agg [.int .i64 _, .int .i64 _, .sl 5 0 rows.length none]) [.row true 38 [.ik .i64, .ik .i64, .ik .i64] (sprR n H.toNat W.toNat rows)] (fun s' Q hl' hC h => refSpread52 (by omega) ft hn hp ((hC 0 (by decide)).trans rfl) (by rw [hl']; exact h)) ?_
      conv => whnf
      refine AQ_read [4, 5] (r := .bool true) (fun s' Q hl' hC h => same41 (rows := sprR n H.toNat W.toNat rows) (PS.spr_len n H.toNat W.toNat rows).symm (by rw [PS.spr_len n H.toNat W.toNat rows]; omega) (PS.lev_fit hn (PS.spr_lev (by have := PPi.pic_sides hp; omega))) (by decide) ((hC 4 (by decide)).trans rfl) ((hC 5 (by decide)).trans rfl) h) ?_
      conv => whnf
      refine AQ_read [0] (r := .agg [.int .i64 _, .int .i64 _, .sl 0 0 rows.length none]) (fun s' Q hl' hC h => of52 ((hC 0 (by decide)).trans rfl) h) ?_
      conv => whnf
      refine AQ_new [0] (r := .agg [.int .i64 _, .int .i64 _, .sl 6 0 rows.length none]) [.row true 38 [.ik .i64, .ik .i64, .ik .i64] (ordR n H rows)] (fun s' Q hl' hC h => ditOrdered (by omega) ft hn hp ((hC 0 (by decide)).trans rfl) (by rw [hl']; exact h)) ?_
      conv => whnf
      refine AQ_read [6] (r := .agg [.int .i64 _, .int .i64 _, .sl 6 0 rows.length none]) (fun s' Q hl' hC h => back52 ((hC 6 (by decide)).trans rfl) h) ?_
      conv => whnf
      refine AQ_new [0] (r := .agg [.int .i64 _, .int .i64 _, .sl 7 0 rows.length none]) [.row true 38 [.ik .i64, .ik .i64, .ik .i64] (ordR n H rows)] (fun s' Q hl' hC h => refOrd52 (by omega) ft hn hp ((hC 0 (by decide)).trans rfl) (by rw [hl']; exact h)) ?_
      conv => whnf
      refine AQ_read [6, 7] (r := .bool true) (fun s' Q hl' hC h => same41 (rows := ordR n H rows) (PD.ord_len n H rows).symm (by rw [PD.ord_len n H rows]; omega) (PS.lev_fit hn (PS.ord_lev ft)) (by decide) ((hC 6 (by decide)).trans rfl) ((hC 7 (by decide)).trans rfl) h) ?_
      conv => whnf
      refine AQ_read [0] (r := .agg [.int .i64 _, .int .i64 _, .sl 0 0 rows.length none]) (fun s' Q hl' hC h => of52 ((hC 0 (by decide)).trans rfl) h) ?_
      conv => whnf
      obtain ⟨c, ec⟩ : ∃ c, c = countL rows.flatten := ⟨_, rfl⟩
      refine AQ_read [0] (r := .int .i64 c) (fun s' Q hl' hC h => ditCount hp (by omega) ft ((hC 0 (by decide)).trans rfl) (fun v hv => by rw [hv, ← ec]; exact h)) ?_
      conv => whnf
      refine AQ_read [0] (r := .int .i64 c) (fun s' Q hl' hC h => refCount52 hp (by omega) ft ((hC 0 (by decide)).trans rfl) (fun v hv => by rw [hv, ← ec]; exact h)) ?_
      conv => whnf
      rw [beq_self_eq_true c]
      conv => whnf
      try (refine AW_draw tok hP ?_; conv => whnf)
      first | refine AQ_pure (fun sK QK hK => awake52 hK) ?_ | refine awake52 ?_
      conv => whnf
      try (refine And.intro (OkD.mk (by kernel_rfl)) ?_; conv => whnf)
