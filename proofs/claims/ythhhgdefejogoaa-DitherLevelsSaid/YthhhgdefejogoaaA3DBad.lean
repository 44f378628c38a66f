/- Part of the proof of a law of the seat: its functions, walked. No condition. -/
import Derived.Test.YthhhgdefejogoaaA3DSpr2
import Derived.Test.YthhhgdefejogoaaA3RSpr2
import Derived.Test.YthhhgdefejogoaaA3DOrd
import Derived.Test.YthhhgdefejogoaaA3DCount
namespace Go.AW.A3
open Go Go.AW Go.Proofs
set_option maxRecDepth 100000
set_option maxHeartbeats 8000000
set_option linter.unusedVariables false
theorem wh_ne {W H : Int} : decide ((1 ≤ W ∧ W ≤ 256) ∧ (1 ≤ H ∧ H ≤ 256) ∧ 0 = W * H) = false := decide_eq_false fun ⟨a, b, c⟩ => by
  have := Int.mul_pos (show 0 < W by omega) (show 0 < H by omega); omega
theorem picRight_n {W H : Int} {s : List Ob} {Q : AV → List Ob → Prop} (h : Q (.bool false) s) : AC Try.prog 53 [.agg [.int .i64 W, .int .i64 H, .nils]] s Q := by
  refine AC_pure rfl ?_
  refine AC_body tok 3 Try.func53 rfl (by kernel_rfl) ?_
  conv => whnf
  refine picSides (W := W) (H := H) (n := 0) (by omega) (fun v hv => ?_)
  conv => whnf
  obtain rfl : v = false := by rw [hv]; exact wh_ne
  exact ⟨rfl, h⟩
theorem refRight_n {W H : Int} {s : List Ob} {Q : AV → List Ob → Prop} (h : Q (.bool false) s) : AC Try.prog 25 [.agg [.int .i64 W, .int .i64 H, .nils]] s Q := by
  refine AC_pure rfl ?_
  refine AC_body tok 3 Try.func25 rfl (by kernel_rfl) ?_
  conv => whnf
  refine refSides41 (W := W) (H := H) (n := 0) (by omega) (fun v hv => ?_)
  conv => whnf
  obtain rfl : v = false := by rw [hv]; exact wh_ne
  exact ⟨rfl, h⟩
theorem refMay_n {W H n : Int} {s : List Ob} {Q : AV → List Ob → Prop} (h : Q (.bool false) s) : AC Try.prog 44 [.agg [.int .i64 W, .int .i64 H, .nils], .int .i64 n] s Q := by
  refine AC_pure rfl ?_
  refine AC_body tok 3 Try.func44 rfl (by kernel_rfl) ?_
  conv => whnf
  refine refRight_n ?_
  conv => whnf
  exact ⟨rfl, h⟩
theorem picRight_z {W H : Int} {s : List Ob} {Q : AV → List Ob → Prop} (h : Q (.bool false) s) : AC Try.prog 53 [.agg [.int .i64 W, .int .i64 H, .sl0]] s Q := by
  refine AC_pure rfl ?_
  refine AC_body tok 3 Try.func53 rfl (by kernel_rfl) ?_
  conv => whnf
  refine picSides (W := W) (H := H) (n := 0) (by omega) (fun v hv => ?_)
  conv => whnf
  obtain rfl : v = false := by rw [hv]; exact wh_ne
  exact ⟨rfl, h⟩
theorem refRight_z {W H : Int} {s : List Ob} {Q : AV → List Ob → Prop} (h : Q (.bool false) s) : AC Try.prog 25 [.agg [.int .i64 W, .int .i64 H, .sl0]] s Q := by
  refine AC_pure rfl ?_
  refine AC_body tok 3 Try.func25 rfl (by kernel_rfl) ?_
  conv => whnf
  refine refSides41 (W := W) (H := H) (n := 0) (by omega) (fun v hv => ?_)
  conv => whnf
  obtain rfl : v = false := by rw [hv]; exact wh_ne
  exact ⟨rfl, h⟩
theorem refMay_z {W H n : Int} {s : List Ob} {Q : AV → List Ob → Prop} (h : Q (.bool false) s) : AC Try.prog 44 [.agg [.int .i64 W, .int .i64 H, .sl0], .int .i64 n] s Q := by
  refine AC_pure rfl ?_
  refine AC_body tok 3 Try.func44 rfl (by kernel_rfl) ?_
  conv => whnf
  refine refRight_z ?_
  conv => whnf
  exact ⟨rfl, h⟩

theorem ditPlain_n {W H n : Int} {s : List Ob} {Q : AV → List Ob → Prop} (h : Q (.agg [.int .i64 0, .int .i64 0, .nils]) s) : AC Try.prog 16 [.agg [.int .i64 W, .int .i64 H, .nils], .int .i64 n] s Q := by
  refine AC_pure rfl ?_
  refine AC_body tok 3 Try.func16 rfl (by kernel_rfl) ?_
  conv => whnf
  repeat' first
    | (refine AW_draw tok hP ?_; conv => whnf)
    | (refine And.intro (OkD.mk (by kernel_rfl)) ?_; conv => whnf)
    | (refine refMay_n ?_; conv => whnf)
    | (refine ditGiven (fun v hv => ?_); conv => whnf)
    | (refine picRight_n ?_; conv => whnf)
    | (refine AC_body tok 3 Try.func41 rfl (by kernel_rfl) ?_; conv => whnf)
    | fail
  first
    | exact ⟨rfl, h⟩
    | (cases v
       · conv => whnf
         exact ⟨rfl, h⟩
       · conv => whnf
         refine picRight_n ?_
         conv => whnf
         exact ⟨rfl, h⟩)
theorem ditPlain_z {W H n : Int} {s : List Ob} {Q : AV → List Ob → Prop} (h : Q (.agg [.int .i64 0, .int .i64 0, .nils]) s) : AC Try.prog 16 [.agg [.int .i64 W, .int .i64 H, .sl0], .int .i64 n] s Q := by
  refine AC_pure rfl ?_
  refine AC_body tok 3 Try.func16 rfl (by kernel_rfl) ?_
  conv => whnf
  repeat' first
    | (refine AW_draw tok hP ?_; conv => whnf)
    | (refine And.intro (OkD.mk (by kernel_rfl)) ?_; conv => whnf)
    | (refine refMay_z ?_; conv => whnf)
    | (refine ditGiven (fun v hv => ?_); conv => whnf)
    | (refine picRight_z ?_; conv => whnf)
    | (refine AC_body tok 3 Try.func41 rfl (by kernel_rfl) ?_; conv => whnf)
    | fail
  first
    | exact ⟨rfl, h⟩
    | (cases v
       · conv => whnf
         exact ⟨rfl, h⟩
       · conv => whnf
         refine picRight_z ?_
         conv => whnf
         exact ⟨rfl, h⟩)
theorem ditPlain_bad {W H n : Int} {rows : List (List Int)} {e : TypeId} {own : Bool} (hl : rows.length ≤ 1000000) (hfit : Fit3 rows) (hb : (picB W H rows && decide (2 ≤ n ∧ n ≤ 16)) = false) {i : Nat} {s : List Ob} (hs : s[i]? = some (.row own e [.ik .i64, .ik .i64, .ik .i64] rows)) {Q : AV → List Ob → Prop} (h : Q (.agg [.int .i64 0, .int .i64 0, .nils]) s) : AC Try.prog 16 [.agg [.int .i64 W, .int .i64 H, .sl i 0 rows.length none], .int .i64 n] s Q := by
  refine AC_rd (args' := [.agg [.int .i64 W, .int .i64 H, .sl 0 0 rows.length none], .int .i64 n]) (L := [.row own e [.ik .i64, .ik .i64, .ik .i64] rows]) [i] (by simp) rfl (by rintro (_ | i') j ob h1 h2 <;> simp at h1 h2 <;> subst h1 h2 <;> assumption) ?_
  refine AC_body tok 0 Try.func16 rfl (by kernel_rfl) ?_
  conv => whnf
  try (refine andI (by simp; omega) ?_; conv => whnf)
  try (refine AC_body tok 0 Try.func41 rfl (by kernel_rfl) ?_; conv => whnf)
  first
    | (refine refMay (by omega) hfit (by rfl) (fun v hv => ?_); conv => whnf
       rw [hb] at hv
       subst hv
       conv => whnf
       exact ⟨rfl, rfl, h⟩)
    | (refine ditGiven (fun v hv => ?_); conv => whnf
       cases v
       · conv => whnf
         exact ⟨rfl, rfl, h⟩
       · rw [← hv, Bool.and_true] at hb
         conv => whnf
         refine picRight (by omega) hfit (by rfl) (fun v hv => ?_)
         rw [hb] at hv
         subst hv
         conv => whnf
         exact ⟨rfl, rfl, h⟩)
theorem ditSpread_n {W H n : Int} {s : List Ob} {Q : AV → List Ob → Prop} (h : Q (.agg [.int .i64 0, .int .i64 0, .nils]) s) : AC Try.prog 19 [.agg [.int .i64 W, .int .i64 H, .nils], .int .i64 n] s Q := by
  refine AC_pure rfl ?_
  refine AC_body tok 3 Try.func19 rfl (by kernel_rfl) ?_
  conv => whnf
  repeat' first
    | (refine AW_draw tok hP ?_; conv => whnf)
    | (refine And.intro (OkD.mk (by kernel_rfl)) ?_; conv => whnf)
    | (refine refMay_n ?_; conv => whnf)
    | (refine ditGiven (fun v hv => ?_); conv => whnf)
    | (refine picRight_n ?_; conv => whnf)
    | (refine AC_body tok 3 Try.func41 rfl (by kernel_rfl) ?_; conv => whnf)
    | fail
  first
    | exact ⟨rfl, h⟩
    | (cases v
       · conv => whnf
         exact ⟨rfl, h⟩
       · conv => whnf
         refine picRight_n ?_
         conv => whnf
         exact ⟨rfl, h⟩)
theorem ditSpread_z {W H n : Int} {s : List Ob} {Q : AV → List Ob → Prop} (h : Q (.agg [.int .i64 0, .int .i64 0, .nils]) s) : AC Try.prog 19 [.agg [.int .i64 W, .int .i64 H, .sl0], .int .i64 n] s Q := by
  refine AC_pure rfl ?_
  refine AC_body tok 3 Try.func19 rfl (by kernel_rfl) ?_
  conv => whnf
  repeat' first
    | (refine AW_draw tok hP ?_; conv => whnf)
    | (refine And.intro (OkD.mk (by kernel_rfl)) ?_; conv => whnf)
    | (refine refMay_z ?_; conv => whnf)
    | (refine ditGiven (fun v hv => ?_); conv => whnf)
    | (refine picRight_z ?_; conv => whnf)
    | (refine AC_body tok 3 Try.func41 rfl (by kernel_rfl) ?_; conv => whnf)
    | fail
  first
    | exact ⟨rfl, h⟩
    | (cases v
       · conv => whnf
         exact ⟨rfl, h⟩
       · conv => whnf
         refine picRight_z ?_
         conv => whnf
         exact ⟨rfl, h⟩)
theorem ditSpread_bad {W H n : Int} {rows : List (List Int)} {e : TypeId} {own : Bool} (hl : rows.length ≤ 1000000) (hfit : Fit3 rows) (hb : (picB W H rows && decide (2 ≤ n ∧ n ≤ 16)) = false) {i : Nat} {s : List Ob} (hs : s[i]? = some (.row own e [.ik .i64, .ik .i64, .ik .i64] rows)) {Q : AV → List Ob → Prop} (h : Q (.agg [.int .i64 0, .int .i64 0, .nils]) s) : AC Try.prog 19 [.agg [.int .i64 W, .int .i64 H, .sl i 0 rows.length none], .int .i64 n] s Q := by
  refine AC_rd (args' := [.agg [.int .i64 W, .int .i64 H, .sl 0 0 rows.length none], .int .i64 n]) (L := [.row own e [.ik .i64, .ik .i64, .ik .i64] rows]) [i] (by simp) rfl (by rintro (_ | i') j ob h1 h2 <;> simp at h1 h2 <;> subst h1 h2 <;> assumption) ?_
  refine AC_body tok 0 Try.func19 rfl (by kernel_rfl) ?_
  conv => whnf
  try (refine andI (by simp; omega) ?_; conv => whnf)
  try (refine AC_body tok 0 Try.func41 rfl (by kernel_rfl) ?_; conv => whnf)
  first
    | (refine refMay (by omega) hfit (by rfl) (fun v hv => ?_); conv => whnf
       rw [hb] at hv
       subst hv
       conv => whnf
       exact ⟨rfl, rfl, h⟩)
    | (refine ditGiven (fun v hv => ?_); conv => whnf
       cases v
       · conv => whnf
         exact ⟨rfl, rfl, h⟩
       · rw [← hv, Bool.and_true] at hb
         conv => whnf
         refine picRight (by omega) hfit (by rfl) (fun v hv => ?_)
         rw [hb] at hv
         subst hv
         conv => whnf
         exact ⟨rfl, rfl, h⟩)
theorem ditOrdered_n {W H n : Int} {s : List Ob} {Q : AV → List Ob → Prop} (h : Q (.agg [.int .i64 0, .int .i64 0, .nils]) s) : AC Try.prog 21 [.agg [.int .i64 W, .int .i64 H, .nils], .int .i64 n] s Q := by
  refine AC_pure rfl ?_
  refine AC_body tok 3 Try.func21 rfl (by kernel_rfl) ?_
  conv => whnf
  repeat' first
    | (refine AW_draw tok hP ?_; conv => whnf)
    | (refine And.intro (OkD.mk (by kernel_rfl)) ?_; conv => whnf)
    | (refine refMay_n ?_; conv => whnf)
    | (refine ditGiven (fun v hv => ?_); conv => whnf)
    | (refine picRight_n ?_; conv => whnf)
    | (refine AC_body tok 3 Try.func41 rfl (by kernel_rfl) ?_; conv => whnf)
    | fail
  first
    | exact ⟨rfl, h⟩
    | (cases v
       · conv => whnf
         exact ⟨rfl, h⟩
       · conv => whnf
         refine picRight_n ?_
         conv => whnf
         exact ⟨rfl, h⟩)
theorem ditOrdered_z {W H n : Int} {s : List Ob} {Q : AV → List Ob → Prop} (h : Q (.agg [.int .i64 0, .int .i64 0, .nils]) s) : AC Try.prog 21 [.agg [.int .i64 W, .int .i64 H, .sl0], .int .i64 n] s Q := by
  refine AC_pure rfl ?_
  refine AC_body tok 3 Try.func21 rfl (by kernel_rfl) ?_
  conv => whnf
  repeat' first
    | (refine AW_draw tok hP ?_; conv => whnf)
    | (refine And.intro (OkD.mk (by kernel_rfl)) ?_; conv => whnf)
    | (refine refMay_z ?_; conv => whnf)
    | (refine ditGiven (fun v hv => ?_); conv => whnf)
    | (refine picRight_z ?_; conv => whnf)
    | (refine AC_body tok 3 Try.func41 rfl (by kernel_rfl) ?_; conv => whnf)
    | fail
  first
    | exact ⟨rfl, h⟩
    | (cases v
       · conv => whnf
         exact ⟨rfl, h⟩
       · conv => whnf
         refine picRight_z ?_
         conv => whnf
         exact ⟨rfl, h⟩)
theorem ditOrdered_bad {W H n : Int} {rows : List (List Int)} {e : TypeId} {own : Bool} (hl : rows.length ≤ 1000000) (hfit : Fit3 rows) (hb : (picB W H rows && decide (2 ≤ n ∧ n ≤ 16)) = false) {i : Nat} {s : List Ob} (hs : s[i]? = some (.row own e [.ik .i64, .ik .i64, .ik .i64] rows)) {Q : AV → List Ob → Prop} (h : Q (.agg [.int .i64 0, .int .i64 0, .nils]) s) : AC Try.prog 21 [.agg [.int .i64 W, .int .i64 H, .sl i 0 rows.length none], .int .i64 n] s Q := by
  refine AC_rd (args' := [.agg [.int .i64 W, .int .i64 H, .sl 0 0 rows.length none], .int .i64 n]) (L := [.row own e [.ik .i64, .ik .i64, .ik .i64] rows]) [i] (by simp) rfl (by rintro (_ | i') j ob h1 h2 <;> simp at h1 h2 <;> subst h1 h2 <;> assumption) ?_
  refine AC_body tok 0 Try.func21 rfl (by kernel_rfl) ?_
  conv => whnf
  try (refine andI (by simp; omega) ?_; conv => whnf)
  try (refine AC_body tok 0 Try.func41 rfl (by kernel_rfl) ?_; conv => whnf)
  first
    | (refine refMay (by omega) hfit (by rfl) (fun v hv => ?_); conv => whnf
       rw [hb] at hv
       subst hv
       conv => whnf
       exact ⟨rfl, rfl, h⟩)
    | (refine ditGiven (fun v hv => ?_); conv => whnf
       cases v
       · conv => whnf
         exact ⟨rfl, rfl, h⟩
       · rw [← hv, Bool.and_true] at hb
         conv => whnf
         refine picRight (by omega) hfit (by rfl) (fun v hv => ?_)
         rw [hb] at hv
         subst hv
         conv => whnf
         exact ⟨rfl, rfl, h⟩)
theorem refPlain52_n {W H n : Int} {s : List Ob} {Q : AV → List Ob → Prop} (h : Q (.agg [.int .i64 0, .int .i64 0, .nils]) s) : AC Try.prog 18 [.agg [.int .i64 W, .int .i64 H, .nils], .int .i64 n] s Q := by
  refine AC_pure rfl ?_
  refine AC_body tok 3 Try.func18 rfl (by kernel_rfl) ?_
  conv => whnf
  repeat' first
    | (refine AW_draw tok hP ?_; conv => whnf)
    | (refine And.intro (OkD.mk (by kernel_rfl)) ?_; conv => whnf)
    | (refine refMay_n ?_; conv => whnf)
    | (refine ditGiven (fun v hv => ?_); conv => whnf)
    | (refine picRight_n ?_; conv => whnf)
    | (refine AC_body tok 3 Try.func41 rfl (by kernel_rfl) ?_; conv => whnf)
    | fail
  first
    | exact ⟨rfl, h⟩
    | (cases v
       · conv => whnf
         exact ⟨rfl, h⟩
       · conv => whnf
         refine picRight_n ?_
         conv => whnf
         exact ⟨rfl, h⟩)
theorem refPlain52_z {W H n : Int} {s : List Ob} {Q : AV → List Ob → Prop} (h : Q (.agg [.int .i64 0, .int .i64 0, .nils]) s) : AC Try.prog 18 [.agg [.int .i64 W, .int .i64 H, .sl0], .int .i64 n] s Q := by
  refine AC_pure rfl ?_
  refine AC_body tok 3 Try.func18 rfl (by kernel_rfl) ?_
  conv => whnf
  repeat' first
    | (refine AW_draw tok hP ?_; conv => whnf)
    | (refine And.intro (OkD.mk (by kernel_rfl)) ?_; conv => whnf)
    | (refine refMay_z ?_; conv => whnf)
    | (refine ditGiven (fun v hv => ?_); conv => whnf)
    | (refine picRight_z ?_; conv => whnf)
    | (refine AC_body tok 3 Try.func41 rfl (by kernel_rfl) ?_; conv => whnf)
    | fail
  first
    | exact ⟨rfl, h⟩
    | (cases v
       · conv => whnf
         exact ⟨rfl, h⟩
       · conv => whnf
         refine picRight_z ?_
         conv => whnf
         exact ⟨rfl, h⟩)
theorem refPlain52_bad {W H n : Int} {rows : List (List Int)} {e : TypeId} {own : Bool} (hl : rows.length ≤ 1000000) (hfit : Fit3 rows) (hb : (picB W H rows && decide (2 ≤ n ∧ n ≤ 16)) = false) {i : Nat} {s : List Ob} (hs : s[i]? = some (.row own e [.ik .i64, .ik .i64, .ik .i64] rows)) {Q : AV → List Ob → Prop} (h : Q (.agg [.int .i64 0, .int .i64 0, .nils]) s) : AC Try.prog 18 [.agg [.int .i64 W, .int .i64 H, .sl i 0 rows.length none], .int .i64 n] s Q := by
  refine AC_rd (args' := [.agg [.int .i64 W, .int .i64 H, .sl 0 0 rows.length none], .int .i64 n]) (L := [.row own e [.ik .i64, .ik .i64, .ik .i64] rows]) [i] (by simp) rfl (by rintro (_ | i') j ob h1 h2 <;> simp at h1 h2 <;> subst h1 h2 <;> assumption) ?_
  refine AC_body tok 0 Try.func18 rfl (by kernel_rfl) ?_
  conv => whnf
  try (refine andI (by simp; omega) ?_; conv => whnf)
  try (refine AC_body tok 0 Try.func41 rfl (by kernel_rfl) ?_; conv => whnf)
  first
    | (refine refMay (by omega) hfit (by rfl) (fun v hv => ?_); conv => whnf
       rw [hb] at hv
       subst hv
       conv => whnf
       exact ⟨rfl, rfl, h⟩)
    | (refine ditGiven (fun v hv => ?_); conv => whnf
       cases v
       · conv => whnf
         exact ⟨rfl, rfl, h⟩
       · rw [← hv, Bool.and_true] at hb
         conv => whnf
         refine picRight (by omega) hfit (by rfl) (fun v hv => ?_)
         rw [hb] at hv
         subst hv
         conv => whnf
         exact ⟨rfl, rfl, h⟩)
theorem refSpread52_n {W H n : Int} {s : List Ob} {Q : AV → List Ob → Prop} (h : Q (.agg [.int .i64 0, .int .i64 0, .nils]) s) : AC Try.prog 20 [.agg [.int .i64 W, .int .i64 H, .nils], .int .i64 n] s Q := by
  refine AC_pure rfl ?_
  refine AC_body tok 3 Try.func20 rfl (by kernel_rfl) ?_
  conv => whnf
  repeat' first
    | (refine AW_draw tok hP ?_; conv => whnf)
    | (refine And.intro (OkD.mk (by kernel_rfl)) ?_; conv => whnf)
    | (refine refMay_n ?_; conv => whnf)
    | (refine ditGiven (fun v hv => ?_); conv => whnf)
    | (refine picRight_n ?_; conv => whnf)
    | (refine AC_body tok 3 Try.func41 rfl (by kernel_rfl) ?_; conv => whnf)
    | fail
  first
    | exact ⟨rfl, h⟩
    | (cases v
       · conv => whnf
         exact ⟨rfl, h⟩
       · conv => whnf
         refine picRight_n ?_
         conv => whnf
         exact ⟨rfl, h⟩)
theorem refSpread52_z {W H n : Int} {s : List Ob} {Q : AV → List Ob → Prop} (h : Q (.agg [.int .i64 0, .int .i64 0, .nils]) s) : AC Try.prog 20 [.agg [.int .i64 W, .int .i64 H, .sl0], .int .i64 n] s Q := by
  refine AC_pure rfl ?_
  refine AC_body tok 3 Try.func20 rfl (by kernel_rfl) ?_
  conv => whnf
  repeat' first
    | (refine AW_draw tok hP ?_; conv => whnf)
    | (refine And.intro (OkD.mk (by kernel_rfl)) ?_; conv => whnf)
    | (refine refMay_z ?_; conv => whnf)
    | (refine ditGiven (fun v hv => ?_); conv => whnf)
    | (refine picRight_z ?_; conv => whnf)
    | (refine AC_body tok 3 Try.func41 rfl (by kernel_rfl) ?_; conv => whnf)
    | fail
  first
    | exact ⟨rfl, h⟩
    | (cases v
       · conv => whnf
         exact ⟨rfl, h⟩
       · conv => whnf
         refine picRight_z ?_
         conv => whnf
         exact ⟨rfl, h⟩)
theorem refSpread52_bad {W H n : Int} {rows : List (List Int)} {e : TypeId} {own : Bool} (hl : rows.length ≤ 1000000) (hfit : Fit3 rows) (hb : (picB W H rows && decide (2 ≤ n ∧ n ≤ 16)) = false) {i : Nat} {s : List Ob} (hs : s[i]? = some (.row own e [.ik .i64, .ik .i64, .ik .i64] rows)) {Q : AV → List Ob → Prop} (h : Q (.agg [.int .i64 0, .int .i64 0, .nils]) s) : AC Try.prog 20 [.agg [.int .i64 W, .int .i64 H, .sl i 0 rows.length none], .int .i64 n] s Q := by
  refine AC_rd (args' := [.agg [.int .i64 W, .int .i64 H, .sl 0 0 rows.length none], .int .i64 n]) (L := [.row own e [.ik .i64, .ik .i64, .ik .i64] rows]) [i] (by simp) rfl (by rintro (_ | i') j ob h1 h2 <;> simp at h1 h2 <;> subst h1 h2 <;> assumption) ?_
  refine AC_body tok 0 Try.func20 rfl (by kernel_rfl) ?_
  conv => whnf
  try (refine andI (by simp; omega) ?_; conv => whnf)
  try (refine AC_body tok 0 Try.func41 rfl (by kernel_rfl) ?_; conv => whnf)
  first
    | (refine refMay (by omega) hfit (by rfl) (fun v hv => ?_); conv => whnf
       rw [hb] at hv
       subst hv
       conv => whnf
       exact ⟨rfl, rfl, h⟩)
    | (refine ditGiven (fun v hv => ?_); conv => whnf
       cases v
       · conv => whnf
         exact ⟨rfl, rfl, h⟩
       · rw [← hv, Bool.and_true] at hb
         conv => whnf
         refine picRight (by omega) hfit (by rfl) (fun v hv => ?_)
         rw [hb] at hv
         subst hv
         conv => whnf
         exact ⟨rfl, rfl, h⟩)
theorem refOrd52_n {W H n : Int} {s : List Ob} {Q : AV → List Ob → Prop} (h : Q (.agg [.int .i64 0, .int .i64 0, .nils]) s) : AC Try.prog 22 [.agg [.int .i64 W, .int .i64 H, .nils], .int .i64 n] s Q := by
  refine AC_pure rfl ?_
  refine AC_body tok 3 Try.func22 rfl (by kernel_rfl) ?_
  conv => whnf
  repeat' first
    | (refine AW_draw tok hP ?_; conv => whnf)
    | (refine And.intro (OkD.mk (by kernel_rfl)) ?_; conv => whnf)
    | (refine refMay_n ?_; conv => whnf)
    | (refine ditGiven (fun v hv => ?_); conv => whnf)
    | (refine picRight_n ?_; conv => whnf)
    | (refine AC_body tok 3 Try.func41 rfl (by kernel_rfl) ?_; conv => whnf)
    | fail
  first
    | exact ⟨rfl, h⟩
    | (cases v
       · conv => whnf
         exact ⟨rfl, h⟩
       · conv => whnf
         refine picRight_n ?_
         conv => whnf
         exact ⟨rfl, h⟩)
theorem refOrd52_z {W H n : Int} {s : List Ob} {Q : AV → List Ob → Prop} (h : Q (.agg [.int .i64 0, .int .i64 0, .nils]) s) : AC Try.prog 22 [.agg [.int .i64 W, .int .i64 H, .sl0], .int .i64 n] s Q := by
  refine AC_pure rfl ?_
  refine AC_body tok 3 Try.func22 rfl (by kernel_rfl) ?_
  conv => whnf
  repeat' first
    | (refine AW_draw tok hP ?_; conv => whnf)
    | (refine And.intro (OkD.mk (by kernel_rfl)) ?_; conv => whnf)
    | (refine refMay_z ?_; conv => whnf)
    | (refine ditGiven (fun v hv => ?_); conv => whnf)
    | (refine picRight_z ?_; conv => whnf)
    | (refine AC_body tok 3 Try.func41 rfl (by kernel_rfl) ?_; conv => whnf)
    | fail
  first
    | exact ⟨rfl, h⟩
    | (cases v
       · conv => whnf
         exact ⟨rfl, h⟩
       · conv => whnf
         refine picRight_z ?_
         conv => whnf
         exact ⟨rfl, h⟩)
theorem refOrd52_bad {W H n : Int} {rows : List (List Int)} {e : TypeId} {own : Bool} (hl : rows.length ≤ 1000000) (hfit : Fit3 rows) (hb : (picB W H rows && decide (2 ≤ n ∧ n ≤ 16)) = false) {i : Nat} {s : List Ob} (hs : s[i]? = some (.row own e [.ik .i64, .ik .i64, .ik .i64] rows)) {Q : AV → List Ob → Prop} (h : Q (.agg [.int .i64 0, .int .i64 0, .nils]) s) : AC Try.prog 22 [.agg [.int .i64 W, .int .i64 H, .sl i 0 rows.length none], .int .i64 n] s Q := by
  refine AC_rd (args' := [.agg [.int .i64 W, .int .i64 H, .sl 0 0 rows.length none], .int .i64 n]) (L := [.row own e [.ik .i64, .ik .i64, .ik .i64] rows]) [i] (by simp) rfl (by rintro (_ | i') j ob h1 h2 <;> simp at h1 h2 <;> subst h1 h2 <;> assumption) ?_
  refine AC_body tok 0 Try.func22 rfl (by kernel_rfl) ?_
  conv => whnf
  try (refine andI (by simp; omega) ?_; conv => whnf)
  try (refine AC_body tok 0 Try.func41 rfl (by kernel_rfl) ?_; conv => whnf)
  first
    | (refine refMay (by omega) hfit (by rfl) (fun v hv => ?_); conv => whnf
       rw [hb] at hv
       subst hv
       conv => whnf
       exact ⟨rfl, rfl, h⟩)
    | (refine ditGiven (fun v hv => ?_); conv => whnf
       cases v
       · conv => whnf
         exact ⟨rfl, rfl, h⟩
       · rw [← hv, Bool.and_true] at hb
         conv => whnf
         refine picRight (by omega) hfit (by rfl) (fun v hv => ?_)
         rw [hb] at hv
         subst hv
         conv => whnf
         exact ⟨rfl, rfl, h⟩)
theorem ditCount_n {W H : Int} {s : List Ob} {Q : AV → List Ob → Prop} (h : Q (.int .i64 0) s) : AC Try.prog 23 [.agg [.int .i64 W, .int .i64 H, .nils]] s Q := by
  refine AC_pure rfl ?_
  refine AC_body tok 3 Try.func23 rfl (by kernel_rfl) ?_
  conv => whnf
  repeat' first
    | (refine AW_draw tok hP ?_; conv => whnf)
    | (refine And.intro (OkD.mk (by kernel_rfl)) ?_; conv => whnf)
    | (refine picRight_n ?_; conv => whnf)
    | (refine refRight_n ?_; conv => whnf)
    | fail
  exact ⟨rfl, h⟩
theorem ditCount_z {W H : Int} {s : List Ob} {Q : AV → List Ob → Prop} (h : Q (.int .i64 0) s) : AC Try.prog 23 [.agg [.int .i64 W, .int .i64 H, .sl0]] s Q := by
  refine AC_pure rfl ?_
  refine AC_body tok 3 Try.func23 rfl (by kernel_rfl) ?_
  conv => whnf
  repeat' first
    | (refine AW_draw tok hP ?_; conv => whnf)
    | (refine And.intro (OkD.mk (by kernel_rfl)) ?_; conv => whnf)
    | (refine picRight_z ?_; conv => whnf)
    | (refine refRight_z ?_; conv => whnf)
    | fail
  exact ⟨rfl, h⟩
theorem ditCount_bad {W H : Int} {rows : List (List Int)} {e : TypeId} {own : Bool} (hl : rows.length ≤ 1000000) (hfit : Fit3 rows) (hb : picB W H rows = false) {i : Nat} {s : List Ob} (hs : s[i]? = some (.row own e [.ik .i64, .ik .i64, .ik .i64] rows)) {Q : AV → List Ob → Prop} (h : Q (.int .i64 0) s) : AC Try.prog 23 [.agg [.int .i64 W, .int .i64 H, .sl i 0 rows.length none]] s Q := by
  refine AC_rd (args' := [.agg [.int .i64 W, .int .i64 H, .sl 0 0 rows.length none]]) (L := [.row own e [.ik .i64, .ik .i64, .ik .i64] rows]) [i] (by simp) rfl (by rintro (_ | i') j ob h1 h2 <;> simp at h1 h2 <;> subst h1 h2 <;> assumption) ?_
  refine AC_body tok 3 Try.func23 rfl (by kernel_rfl) ?_
  conv => whnf
  first
    | (refine picRight (by omega) hfit (by rfl) (fun v hv => ?_); conv => whnf)
    | (refine refRight41 (by omega) hfit (by rfl) (fun v hv => ?_); conv => whnf)
  rw [hb] at hv
  subst hv
  conv => whnf
  exact ⟨rfl, rfl, h⟩
theorem refCount52_n {W H : Int} {s : List Ob} {Q : AV → List Ob → Prop} (h : Q (.int .i64 0) s) : AC Try.prog 24 [.agg [.int .i64 W, .int .i64 H, .nils]] s Q := by
  refine AC_pure rfl ?_
  refine AC_body tok 3 Try.func24 rfl (by kernel_rfl) ?_
  conv => whnf
  repeat' first
    | (refine AW_draw tok hP ?_; conv => whnf)
    | (refine And.intro (OkD.mk (by kernel_rfl)) ?_; conv => whnf)
    | (refine picRight_n ?_; conv => whnf)
    | (refine refRight_n ?_; conv => whnf)
    | fail
  exact ⟨rfl, h⟩
theorem refCount52_z {W H : Int} {s : List Ob} {Q : AV → List Ob → Prop} (h : Q (.int .i64 0) s) : AC Try.prog 24 [.agg [.int .i64 W, .int .i64 H, .sl0]] s Q := by
  refine AC_pure rfl ?_
  refine AC_body tok 3 Try.func24 rfl (by kernel_rfl) ?_
  conv => whnf
  repeat' first
    | (refine AW_draw tok hP ?_; conv => whnf)
    | (refine And.intro (OkD.mk (by kernel_rfl)) ?_; conv => whnf)
    | (refine picRight_z ?_; conv => whnf)
    | (refine refRight_z ?_; conv => whnf)
    | fail
  exact ⟨rfl, h⟩
theorem refCount52_bad {W H : Int} {rows : List (List Int)} {e : TypeId} {own : Bool} (hl : rows.length ≤ 1000000) (hfit : Fit3 rows) (hb : picB W H rows = false) {i : Nat} {s : List Ob} (hs : s[i]? = some (.row own e [.ik .i64, .ik .i64, .ik .i64] rows)) {Q : AV → List Ob → Prop} (h : Q (.int .i64 0) s) : AC Try.prog 24 [.agg [.int .i64 W, .int .i64 H, .sl i 0 rows.length none]] s Q := by
  refine AC_rd (args' := [.agg [.int .i64 W, .int .i64 H, .sl 0 0 rows.length none]]) (L := [.row own e [.ik .i64, .ik .i64, .ik .i64] rows]) [i] (by simp) rfl (by rintro (_ | i') j ob h1 h2 <;> simp at h1 h2 <;> subst h1 h2 <;> assumption) ?_
  refine AC_body tok 3 Try.func24 rfl (by kernel_rfl) ?_
  conv => whnf
  first
    | (refine picRight (by omega) hfit (by rfl) (fun v hv => ?_); conv => whnf)
    | (refine refRight41 (by omega) hfit (by rfl) (fun v hv => ?_); conv => whnf)
  rw [hb] at hv
  subst hv
  conv => whnf
  exact ⟨rfl, rfl, h⟩
