/- Part of the proof of a law of the seat: its functions, walked. No condition. -/
import Derived.Test.YtabnlimfmfmkmaaA8Trig
namespace Go.AW.A8
open Go Go.AW Go.Proofs
set_option maxRecDepth 100000
set_option linter.unusedVariables false
theorem refSin0 {h : Int} (h0 : I64 h) (hh : h % 65536 < 32768) {s : List Ob} {Q : AV → List Ob → Prop} (hq : ∀ v, v = sinI h → Q (.int .i64 v) s) : AC Try.prog 65 [.int .i64 h] s Q := by
  refine AC_pure rfl ?_
  refine AC_body tok 0 Try.func65 rfl (by kernel_rfl) ?_
  unfold sinI at hq
  rw [if_pos hh] at hq
  conv => whnf
  refine refMod h0.1 h0.2 (by omega) (fun v hv => ?_)
  rw [PT.mod_w] at hv
  rw [← hv] at hq
  conv => whnf
  rw [decide_eq_false (show ¬ v ≥ 32768 by omega)]
  conv => whnf
  obtain ⟨a0, a1⟩ := PT.bow_arg (show 0 ≤ v by omega) (show v ≤ 32768 by omega)
  have e1 : Z.sub .i64 32768 v = 32768 - v := Z.wrap_iid (by omega) (by omega)
  have e2 : Z.mul .i64 v (Z.sub .i64 32768 v) = v * (32768 - v) := by rw [e1]; exact Z.wrap_iid (by omega) (by omega)
  have e3 : Z.mul .i64 4 (Z.mul .i64 v (Z.sub .i64 32768 v)) = 4 * (v * (32768 - v)) := by rw [e2]; exact Z.wrap_iid (by omega) (by omega)
  have e4 : Z.sub .i64 5368709120 (Z.mul .i64 4 (Z.mul .i64 v (Z.sub .i64 32768 v))) = 5368709120 - 4 * (v * (32768 - v)) := by rw [e3]; exact Z.wrap_iid (by omega) (by omega)
  have e5 : Z.mul .i64 262144 (Z.mul .i64 v (Z.sub .i64 32768 v)) = 262144 * (v * (32768 - v)) := by rw [e2]; exact Z.wrap_iid (by omega) (by omega)
  obtain ⟨L, eL, L0, L1⟩ : ∃ L, Z.sub .i64 5368709120 (Z.mul .i64 4 (Z.mul .i64 v (Z.sub .i64 32768 v))) = L ∧ 4294967296 ≤ L ∧ L ≤ 5368709120 := ⟨_, e4, by omega, by omega⟩
  obtain ⟨U, eU, U0, U1⟩ : ∃ U, Z.mul .i64 262144 (Z.mul .i64 v (Z.sub .i64 32768 v)) = U ∧ 0 ≤ U ∧ U ≤ 16384 * L := ⟨_, e5, by omega, by omega⟩
  have hb : bowI v = U / L := by unfold bowI; rw [← eL, ← eU, e4, e5]
  rw [hb] at hq
  refine ALs.inv (ι := Int × Int) tok 0 (keepN 8) (fun (i, r) => -1 ≤ i ∧ i ≤ 14 ∧ 0 ≤ r ∧ r + 2 ^ (i + 1).toNat ≤ 32768 ∧ r * L ≤ U ∧ U < (r + 2 ^ (i + 1).toNat) * L) (fun (i, _) => (i + 1).toNat)
    (fun (i, r) => [.int .i64 v, .junk, .int .i64 0, .int .i64 (Z.mul .i64 v (Z.sub .i64 32768 v)), .int .i64 (Z.mul .i64 262144 (Z.mul .i64 v (Z.sub .i64 32768 v))), .int .i64 (Z.sub .i64 5368709120 (Z.mul .i64 4 (Z.mul .i64 v (Z.sub .i64 32768 v)))), .int .i64 r, .int .i64 i] ++ junks 34) (fun _ => []) (fun _ => ()) (14, 0) ⟨by omega, by omega, by omega, by decide, by omega, by show U < (0 + 2 ^ 15) * L; omega⟩ rfl rfl rfl ?_
  rintro ⟨i, r⟩ ⟨i1, i2, i3, i4, i5, i6⟩
  conv => whnf
  by_cases c : i ≥ 0
  · rw [decide_eq_true c]
    obtain ⟨n, rfl⟩ := Int.eq_ofNat_of_zero_le c
    rw [show ((n : Int) + 1).toNat = n + 1 by omega, PN.pow_s] at i4 i6
    have p0 := PN.pow_pos n
    have es : Z.shl .i64 1 (n : Int) = 2 ^ n := by
      rw [PN.shl_one (by omega) (by show Int.toNat (n : Int) ≤ 64; omega)]
      exact Z.wrap_iid (by simp; omega) (by simp; omega)
    have ea : Z.add .i64 r (Z.shl .i64 1 (n : Int)) = r + 2 ^ n := by rw [es]; exact Z.wrap_iid (by omega) (by omega)
    have m0 : 0 ≤ (r + 2 ^ n) * L := Int.mul_nonneg (by omega) (by omega)
    have m1 : (r + 2 ^ n) * L ≤ 32768 * 5368709120 := Int.mul_le_mul (by omega) (by omega) (by omega) (by omega)
    have em : Z.mul .i64 (Z.add .i64 r (Z.shl .i64 1 (n : Int))) (Z.sub .i64 5368709120 (Z.mul .i64 4 (Z.mul .i64 v (Z.sub .i64 32768 v)))) = (r + 2 ^ n) * L := by rw [ea, eL]; exact Z.wrap_iid (by omega) (by omega)
    have ei : Z.sub .i64 (n : Int) 1 = (n : Int) - 1 := Z.wrap_iid (by omega) (by omega)
    conv => whnf
    by_cases c2 : (r + 2 ^ n) * L ≤ U
    · refine ifT (decide_eq_true (by rw [em, eU]; exact c2)) ?_
      conv => whnf
      refine ⟨(Z.sub .i64 (n : Int) 1, Z.add .i64 r (Z.shl .i64 1 (n : Int))), rfl, rfl, rfl, ?_⟩
      rw [ea, ei]
      refine ⟨?_, ?_⟩
      · show ((n : Int) - 1 + 1).toNat < ((n : Int) + 1).toNat; omega
      · show _ ∧ _ ∧ _ ∧ _ ∧ _ ∧ _
        rw [show ((n : Int) - 1 + 1).toNat = n by omega]
        exact ⟨by omega, by omega, by omega, by omega, c2, by rw [Int.add_assoc]; exact i6⟩
    · refine ifF (decide_eq_false (by rw [em, eU]; exact c2)) ?_
      conv => whnf
      refine ⟨(Z.sub .i64 (n : Int) 1, r), rfl, rfl, rfl, ?_⟩
      rw [ei]
      refine ⟨?_, ?_⟩
      · show ((n : Int) - 1 + 1).toNat < ((n : Int) + 1).toNat; omega
      · show _ ∧ _ ∧ _ ∧ _ ∧ _ ∧ _
        rw [show ((n : Int) - 1 + 1).toNat = n by omega]
        exact ⟨by omega, by omega, by omega, by omega, i5, by omega⟩
  · rw [decide_eq_false c]
    obtain rfl : i = -1 := by omega
    conv => whnf
    refine AWs.go tok 0 ?_
    conv => whnf
    refine ⟨rfl, hq _ ?_⟩
    rw [show ((-1 : Int) + 1).toNat = 0 from rfl] at i6
    symm
    refine Int.le_antisymm ?_ ?_
    · exact Int.le_of_lt_add_one (Int.ediv_lt_of_lt_mul (by omega) (by simpa using i6))
    · exact Int.le_ediv_of_mul_le (by omega) i5
theorem refSin {h : Int} (h0 : I64 h) {s : List Ob} {Q : AV → List Ob → Prop} (hq : ∀ v, v = sinI h → Q (.int .i64 v) s) : AC Try.prog 65 [.int .i64 h] s Q := by
  by_cases hh : h % 65536 < 32768
  · exact refSin0 h0 hh hq
  refine AC_pure rfl ?_
  refine AC_body tok 0 Try.func65 rfl (by kernel_rfl) ?_
  conv => whnf
  refine refMod h0.1 h0.2 (by omega) (fun v hv => ?_)
  rw [PT.mod_w] at hv
  conv => whnf
  rw [decide_eq_true (show v ≥ 32768 by omega)]
  conv => whnf
  have e1 : Z.sub .i64 v 32768 = v - 32768 := Z.wrap_iid (by omega) (by omega)
  refine refSin0 (by rw [e1]; constructor <;> omega) (by rw [e1]; omega) (fun u hu => ?_)
  have sb := PT.sin_le (Z.sub .i64 v 32768)
  rw [e1] at hu sb
  conv => whnf
  refine ⟨rfl, hq _ ?_⟩
  rw [show Z.neg .i64 u = 0 - u from Z.wrap_iid (by omega) (by omega), hu]
  unfold sinI
  rw [if_pos (show (v - 32768) % 65536 < 32768 by omega), if_neg hh, show (v - 32768) % 65536 = h % 65536 - 32768 by omega]
  omega
theorem refCos {h : Int} (h0 : I64 h) {s : List Ob} {Q : AV → List Ob → Prop} (hq : ∀ v, v = cosI h → Q (.int .i64 v) s) : AC Try.prog 64 [.int .i64 h] s Q := by
  refine AC_pure rfl ?_
  refine AC_body tok 3 Try.func64 rfl (by kernel_rfl) ?_
  conv => whnf
  refine refMod h0.1 h0.2 (by omega) (fun v hv => ?_)
  rw [PT.mod_w] at hv
  conv => whnf
  have e1 : Z.add .i64 v 16384 = v + 16384 := Z.wrap_iid (by omega) (by omega)
  refine refSin (by rw [e1]; constructor <;> omega) (fun w hw => ?_)
  conv => whnf
  exact ⟨rfl, hq _ (by rw [hw, e1, hv]; rfl)⟩
