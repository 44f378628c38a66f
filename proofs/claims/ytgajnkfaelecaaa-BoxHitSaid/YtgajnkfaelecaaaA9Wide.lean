/- Part of the proof of a law of the seat: its functions, walked. No condition. -/
import Derived.Test.YtgajnkfaelecaaaA9Num
import Derived.Test.YtgajnkfaelecaaaPWide
namespace Go.AW.A9
open Go Go.AW Go.Proofs
set_option maxRecDepth 100000
set_option linter.unusedVariables false
theorem wwide {h l : Int} {s : List Ob} {Q : AV → List Ob → Prop} (hq : Q (.agg [.int .i64 (IntKind.i64.wrap h), .int .u64 l]) s) : AC Try.prog 91 [.agg [.int .u64 l, .int .u64 h]] s Q := by
  refine AC_pure rfl ?_
  refine AC_body tok 3 Try.func91 rfl (by kernel_rfl) ?_
  conv => whnf
  exact ⟨rfl, hq⟩
theorem wideMul {a b : Int} (ha : I64 a) (hb : I64 b) {s : List Ob} {Q : AV → List Ob → Prop} (h : Q (WA (a * b)) s) : AC Try.prog 85 [.int .i64 a, .int .i64 b] s Q := by
  refine AC_pure rfl ?_
  refine AC_body tok 3 Try.func85 rfl (by kernel_rfl) ?_
  conv => whnf
  refine mul64 (Z.wrap_u_lo _) (Z.wrap_u_hi _) (Z.wrap_u_lo _) (Z.wrap_u_hi _) (fun hi lo hhi hlo => ?_)
  rw [Z.wrap_u, Z.wrap_u] at hhi hlo
  obtain ⟨m1, m2⟩ := PW.mul_halves ha hb hhi hlo
  conv => whnf
  unfold I64 at ha hb
  refine ifP (fun g1 => ?_) (fun g1 => ?_) <;> conv => whnf
  all_goals refine ifP (fun g2 => ?_) (fun g2 => ?_) <;> conv => whnf
  all_goals
    refine wwide ?_
    conv => whnf
    have g1' : a < 0 ∨ ¬ a < 0 := by omega
    refine ⟨rfl, Qeq ?_ h⟩
    unfold WA
    rw [m1, m2]
    first
      | rw [if_pos (show a < 0 from g1), if_pos (show b < 0 from g2)]
      | rw [if_pos (show a < 0 from g1), if_neg (show ¬ b < 0 from g2)]
      | rw [if_neg (show ¬ a < 0 from g1), if_pos (show b < 0 from g2)]
      | rw [if_neg (show ¬ a < 0 from g1), if_neg (show ¬ b < 0 from g2)]
    congr 2
    simp only [Z.sub, Z.wrap_u, IntKind.wrap_i64, AV.int.injEq, true_and]
    omega
theorem nanI {a : Int} {s : List Ob} {Q : AV → List Ob → Prop} (h : Q (.bool false) s) : AC Try.prog 93 [.int .i64 a] s Q := by
  refine AC_pure rfl ?_
  refine AC_body tok 3 Try.func93 rfl (by kernel_rfl) ?_
  conv => whnf
  exact ⟨rfl, Qeq (by rw [bne_s]) h⟩
theorem nanU {a : Int} {s : List Ob} {Q : AV → List Ob → Prop} (h : Q (.bool false) s) : AC Try.prog 94 [.int .u64 a] s Q := by
  refine AC_pure rfl ?_
  refine AC_body tok 3 Try.func94 rfl (by kernel_rfl) ?_
  conv => whnf
  exact ⟨rfl, Qeq (by rw [bne_s]) h⟩
theorem cmpI {a b : Int} {s : List Ob} {Q : AV → List Ob → Prop} (h : ∀ v, v = cmp3 a b → Q (.int .i64 v) s) : AC Try.prog 89 [.int .i64 a, .int .i64 b] s Q := by
  refine AC_pure rfl ?_
  refine AC_body tok 3 Try.func89 rfl (by kernel_rfl) ?_
  conv => whnf
  refine nanI ?_
  conv => whnf
  refine nanI ?_
  conv => whnf
  unfold cmp3 at h
  refine ifP (fun g => ?_) (fun g => ?_)
  · conv => whnf
    exact ⟨rfl, h _ (by rw [if_pos g])⟩
  · conv => whnf
    refine ifP (fun g2 => ?_) (fun g2 => ?_)
    · conv => whnf
      exact ⟨rfl, h _ (by rw [if_neg g, if_pos g2])⟩
    · conv => whnf
      exact ⟨rfl, h _ (by rw [if_neg g, if_neg g2])⟩
theorem cmpU {a b : Int} {s : List Ob} {Q : AV → List Ob → Prop} (h : ∀ v, v = cmp3 a b → Q (.int .i64 v) s) : AC Try.prog 90 [.int .u64 a, .int .u64 b] s Q := by
  refine AC_pure rfl ?_
  refine AC_body tok 3 Try.func90 rfl (by kernel_rfl) ?_
  conv => whnf
  refine nanU ?_
  conv => whnf
  refine nanU ?_
  conv => whnf
  unfold cmp3 at h
  refine ifP (fun g => ?_) (fun g => ?_)
  · conv => whnf
    exact ⟨rfl, h _ (by rw [if_pos g])⟩
  · conv => whnf
    refine ifP (fun g2 => ?_) (fun g2 => ?_)
    · conv => whnf
      exact ⟨rfl, h _ (by rw [if_neg g, if_pos g2])⟩
    · conv => whnf
      exact ⟨rfl, h _ (by rw [if_neg g, if_neg g2])⟩
theorem cmpOr {a b : Int} {s : List Ob} {e : TypeId} {i : Nat} (hs : s[i]? = some (.row true e [.ik .i64] [[a], [b]])) {Q : AV → List Ob → Prop} (h : ∀ v, v = (if a = 0 then b else a) → Q (.int .i64 v) s) : AC Try.prog 88 [.sl i 0 2 none] s Q := by
  refine AC_read (args' := [.sl 0 0 2 none]) (L := [.row true e [.ik .i64] [[a], [b]]]) [i] (by simp) rfl rfl (by rintro (_ | i') j ob h1 h2 <;> simp at h1 h2; subst h1 h2; exact hs) ?_
  refine AC_body tok 12 Try.func88 rfl (by kernel_rfl) ?_
  conv => whnf
  refine ifNE (fun (g : a ≠ 0) => ?_) (fun (g : a = 0) => ?_)
  · conv => whnf
    exact ⟨rfl, rfl, h _ (by rw [if_neg g]; rfl)⟩
  conv => whnf
  refine ifNE (fun (g2 : b ≠ 0) => ?_) (fun (g2 : b = 0) => ?_)
  · conv => whnf
    exact ⟨rfl, rfl, h _ (by rw [if_pos g]; rfl)⟩
  conv => whnf
  exact ⟨rfl, rfl, h _ (by rw [if_pos g]; exact g2.symm)⟩
theorem wideCmp {a b c d : Int} (hb : U64 b) (hd : U64 d) {s : List Ob} {Q : AV → List Ob → Prop} (h : ∀ v, v = cmp3 (wv a b) (wv c d) → Q (.int .i64 v) s) : AC Try.prog 84 [.agg [.int .i64 a, .int .u64 b], .agg [.int .i64 c, .int .u64 d]] s Q := by
  refine AC_pure rfl ?_
  refine AC_body tok 3 Try.func84 rfl (by kernel_rfl) ?_
  conv => whnf
  try (refine AW_draw tok hP ?_; conv => whnf)
  refine AQ_pure (fun s Q h => cmpI (fun v hv => by rw [hv]; exact h)) ?_
  conv => whnf
  refine AQ_pure (fun s Q h => cmpU (fun v hv => by rw [hv]; exact h)) ?_
  conv => whnf
  refine AQ.mk [2] (.int .i64 (if cmp3 a c = 0 then cmp3 b d else cmp3 a c)) [] [] (fun s' hl hC hR => cmpOr (hC 2 (by simp)) (fun v hv => ⟨by rw [hv], by simp [setsL]⟩)) ?_
  conv => whnf
  refine ⟨⟨by kernel_rfl⟩, ?_⟩
  conv => whnf
  refine ⟨rfl, h _ ?_⟩
  unfold U64 at hb hd
  unfold cmp3 wv
  split <;> split <;> omega
theorem not_u {a : Int} (ha : 0 ≤ a) (ha' : a < 18446744073709551616) : Z.not .u64 a = 18446744073709551615 - a := by
  unfold Z.not
  show IntKind.u64.wrap (BitVec.ofInt 64 (18446744073709551615 : Int) ^^^ BitVec.ofInt 64 a).toNat = _
  have e : (BitVec.ofInt 64 (18446744073709551615 : Int)) = BitVec.allOnes 64 := by decide
  rw [e, BitVec.allOnes_xor, BitVec.toNat_not, BitVec.toNat_ofInt, Z.wrap_u]
  omega
theorem half_sum {z v u : Int} (h0 : 0 ≤ z) (h1 : z < 36893488147419103232) (hv : v = z % 18446744073709551616) (hu : u = z / 18446744073709551616) : Z.or .u64 (Z.shr .u64 v 1) (Z.shl .u64 u 63) = z / 2 := by
  rw [Z.shr_eq 1 rfl]
  have hs : Z.shl .u64 u 63 = u * 9223372036854775808 := by
    unfold Z.shl
    exact Z.wrap_uid (by show 0 ≤ u * 9223372036854775808; omega) (by show u * 9223372036854775808 < _; omega)
  rw [hs, Z.or_u (by omega) (by omega) (by omega) (by omega)]
  obtain ⟨U, rfl⟩ := Int.eq_ofNat_of_zero_le (show 0 ≤ u by omega)
  obtain ⟨V, eV⟩ := Int.eq_ofNat_of_zero_le (show 0 ≤ v / 2 ^ 1 by omega)
  rw [eV]
  have e : ((U : Int) * 9223372036854775808).toNat = U * 2 ^ 63 := by omega
  rw [e, Int.toNat_natCast, Nat.or_comm, PN.or_add' (by omega)]
  omega
theorem wideCmpW {x y : Int} {s : List Ob} {Q : AV → List Ob → Prop} (h : ∀ v, v = cmp3 x y → Q (.int .i64 v) s) : AC Try.prog 84 [WA x, WA y] s Q :=
  wideCmp (PW.lo_u x) (PW.lo_u y) (fun v hv => h v (by rw [hv, PW.wv_split, PW.wv_split]))
