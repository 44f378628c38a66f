/- Part of the proof of a law of the seat: its functions, walked. No condition. -/
import Derived.Test.YthhhgdefejogoaaA3Num
import Derived.Test.YthhhgdefejogoaaPVec
import Derived.Test.YthhhgdefejogoaaPPic
import Derived.Test.YthhhgdefejogoaaEngC
namespace Go.AW.A3
open Go Go.AW Go.Proofs
set_option maxRecDepth 100000
set_option linter.unusedVariables false
theorem picBright {x : Int} {s : List Ob} {Q : AV → List Ob → Prop} (h : ∀ v, v = byteB x → Q (.bool v) s) : AC Try.prog 57 [.int .i64 x] s Q := by
  refine AC_pure rfl ?_
  refine AC_body tok 3 Try.func57 rfl (by kernel_rfl) ?_
  conv => whnf
  unfold byteB at h
  by_cases g : 0 ≤ x
  · rw [decide_eq_true g]
    conv => whnf
    exact ⟨rfl, h _ (decide_eq_decide.2 (by omega))⟩
  · rw [decide_eq_false g]
    conv => whnf
    exact ⟨rfl, h _ (decide_eq_false (by omega)).symm⟩
theorem picSides {W H n : Int} (hn : 0 ≤ n ∧ n ≤ 9223372036854775807) {s : List Ob} {Q : AV → List Ob → Prop} (h : ∀ v, v = decide ((1 ≤ W ∧ W ≤ 256) ∧ (1 ≤ H ∧ H ≤ 256) ∧ n = W * H) → Q (.bool v) s) : AC Try.prog 58 [.int .i64 W, .int .i64 H, .int .i64 n] s Q := by
  refine AC_pure rfl ?_
  refine AC_body tok 3 Try.func58 rfl (by kernel_rfl) ?_
  conv => whnf
  by_cases g1 : 1 ≤ W
  case neg => rw [decide_eq_false g1]; conv => whnf
              exact ⟨rfl, h _ (decide_eq_false (by omega)).symm⟩
  rw [decide_eq_true g1]
  conv => whnf
  by_cases g2 : W ≤ 256
  case neg => rw [decide_eq_false g2]; conv => whnf
              exact ⟨rfl, h _ (decide_eq_false (by omega)).symm⟩
  rw [decide_eq_true g2]
  conv => whnf
  by_cases g3 : 1 ≤ H
  case neg => rw [decide_eq_false g3]; conv => whnf
              exact ⟨rfl, h _ (decide_eq_false (by omega)).symm⟩
  rw [decide_eq_true g3]
  conv => whnf
  by_cases g4 : H ≤ 256
  case neg => rw [decide_eq_false g4]; conv => whnf
              exact ⟨rfl, h _ (decide_eq_false (by omega)).symm⟩
  rw [decide_eq_true g4]
  conv => whnf
  have m := PV.mul_le (a := W) (b := H) (A := 256) (B := 256) (by omega) (by omega)
  have e : Z.mul .i64 W H = W * H := Z.wrap_iid (by omega) (by omega)
  exact ⟨rfl, h _ (by rw [e, Bool.eq_iff_iff, beq_iff_eq, decide_eq_true_iff]; omega)⟩
theorem picRight {W H : Int} {rows : List (List Int)} {e : TypeId} {own : Bool} (hl : rows.length ≤ 9223372036854775807) (hfit : Fit3 rows) {i : Nat} {s : List Ob} (hs : s[i]? = some (.row own e [.ik .i64, .ik .i64, .ik .i64] rows)) {Q : AV → List Ob → Prop} (h : ∀ v, v = picB W H rows → Q (.bool v) s) : AC Try.prog 53 [.agg [.int .i64 W, .int .i64 H, .sl i 0 rows.length none]] s Q := by
  refine AC_read (args' := [.agg [.int .i64 W, .int .i64 H, .sl 0 0 rows.length none]]) (L := [.row own e [.ik .i64, .ik .i64, .ik .i64] rows]) [i] (by simp) rfl rfl (by rintro (_ | i') j ob h1 h2 <;> simp at h1 h2; subst h1 h2; exact hs) ?_
  unfold picB at h
  refine AC_body tok 0 Try.func53 rfl (by kernel_rfl) ?_
  conv => whnf
  refine ALs.invD (ι := Int) tok 12 [false, true, false, false, false, false, true, true, true] (fun k => 0 ≤ k ∧ k ≤ rows.length ∧ ∀ j : Nat, (j : Int) < k → bytesB (rows.getD j []) = true) (fun k => ((rows.length : Int) - k).toNat)
    (fun k => [.junk, .ptr 1 0 0, .junk, .junk, .junk, .junk, .sl 0 0 rows.length none, .int .i64 rows.length, .int .i64 k] ++ junks 28)
    (fun k => [.row own e [.ik .i64, .ik .i64, .ik .i64] rows, .cells 0 [.int .i64 W, .int .i64 H, .sl 0 0 rows.length none]]) (fun _ => ()) 0 ⟨by omega, by omega, fun j hj => by omega⟩ (by rfl) ⟨_, rfl⟩ rfl (fun _ => Nat.le_add_left 1 1) (fun _ => rfl) ?_
  rintro k ⟨k1, k2, k3⟩
  conv => whnf
  by_cases dk : k < rows.length
  · refine ifT (decide_eq_true dk) ?_
    conv => whnf
    obtain ⟨a, b, c, ek, hx, hy, hz⟩ := hfit (0 + k.toNat) (by omega)
    have eb : Z.add .i64 k 1 = k + 1 := Z.wrap_iid (by omega) (by omega)
    rw [Nat.zero_add] at ek
    have no : bytesB [a, b, c] = false → (rows.all bytesB && decide ((1 ≤ W ∧ W ≤ 256) ∧ (1 ≤ H ∧ H ≤ 256) ∧ (rows.length : Int) = W * H)) = false := fun g => by
      rw [PPi.all_no (k := k.toNat) (by omega) (by rw [ek]; exact g)]; rfl
    refine ixI k1 dk ?_
    conv => whnf
    refine rowI k1 dk ?_
    conv => whnf
    rw [Nat.zero_add, ek]
    refine picBright (x := a) (fun v hv => ?_)
    conv => whnf
    cases v
    · conv => whnf
      exact ⟨rfl, rfl, h _ (no (by show (byteB a && _) = false; rw [← hv]; rfl)).symm⟩
    conv => whnf
    refine picBright (x := b) (fun v2 hv2 => ?_)
    conv => whnf
    cases v2
    · conv => whnf
      exact ⟨rfl, rfl, h _ (no (by show (byteB a && (byteB b && _)) = false; rw [← hv, ← hv2]; rfl)).symm⟩
    conv => whnf
    refine picBright (x := c) (fun v3 hv3 => ?_)
    conv => whnf
    cases v3
    · conv => whnf
      exact ⟨rfl, rfl, h _ (no (by show (byteB a && (byteB b && (byteB c && true))) = false; rw [← hv, ← hv2, ← hv3]; rfl)).symm⟩
    conv => whnf
    exact ⟨Z.add .i64 k 1, _, rfl, rfl, rfl, by show ((rows.length : Int) - Z.add .i64 k 1).toNat < ((rows.length : Int) - k).toNat; rw [eb]; omega, by show 0 ≤ Z.add .i64 k 1; rw [eb]; omega, by show Z.add .i64 k 1 ≤ _; rw [eb]; omega, fun j hj => by
      rw [eb] at hj
      rcases Int.lt_or_le (j : Int) k with q | q
      · exact k3 j q
      · rw [show j = k.toNat by omega, ek]; show (byteB a && (byteB b && (byteB c && true))) = true; rw [← hv, ← hv2, ← hv3]; rfl⟩
  · refine ifF (decide_eq_false dk) ?_
    conv => whnf
    have al := PPi.all_yes (rows := rows) (fun j hj => k3 j (by omega))
    rw [al] at h
    try (refine AWs.go tok 0 ?_; conv => whnf)
    refine picSides (W := W) (H := H) (n := rows.length) (by omega) (fun v hv => ?_)
    conv => whnf
    exact ⟨rfl, rfl, h _ (by rw [hv]; rfl)⟩
