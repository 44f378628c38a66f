/- Part of the proof of a law of the seat: its functions, walked. No condition. -/
import Derived.Test.YtmihhfiefhgaiaaA5Num
import Derived.Test.YtmihhfiefhgaiaaPWide
namespace Go.AW.A5
open Go Go.AW Go.Proofs
set_option maxRecDepth 100000
set_option linter.unusedVariables false
theorem wof {h l : Int} {s : List Ob} {Q : AV → List Ob → Prop} (hq : Q (.agg [.int .u64 l, .int .u64 (IntKind.u64.wrap h)]) s) : AC Try.prog 96 [.agg [.int .i64 h, .int .u64 l]] s Q := by
  refine AC_pure rfl ?_
  refine AC_body tok 3 Try.func96 rfl (by kernel_rfl) ?_
  conv => whnf
  exact ⟨rfl, hq⟩
theorem wwide {h l : Int} {s : List Ob} {Q : AV → List Ob → Prop} (hq : Q (.agg [.int .i64 (IntKind.i64.wrap h), .int .u64 l]) s) : AC Try.prog 95 [.agg [.int .u64 l, .int .u64 h]] s Q := by
  refine AC_pure rfl ?_
  refine AC_body tok 3 Try.func95 rfl (by kernel_rfl) ?_
  conv => whnf
  exact ⟨rfl, hq⟩
theorem wideMul {a b : Int} (ha : I64 a) (hb : I64 b) {s : List Ob} {Q : AV → List Ob → Prop} (h : Q (WA (a * b)) s) : AC Try.prog 83 [.int .i64 a, .int .i64 b] s Q := by
  refine AC_pure rfl ?_
  refine AC_body tok 3 Try.func83 rfl (by kernel_rfl) ?_
  conv => whnf
  refine mul64 (Z.wrap_u_lo _) (Z.wrap_u_hi _) (Z.wrap_u_lo _) (Z.wrap_u_hi _) (fun hi lo hhi hlo => ?_)
  rw [Z.wrap_u, Z.wrap_u] at hhi hlo
  obtain ⟨m1, m2⟩ := PW.mul_halves ha hb hhi hlo
  conv => whnf
  unfold I64 at ha hb
  refine ifP (fun g1 => ?_) (fun g1 => ?_) <;> conv => whnf
  all_goals refine ifP (fun g2 => ?_) (fun g2 => ?_) <;> conv => whnf
  all_goals
    refine wwide ?_
    conv => whnf
    have g1' : a < 0 ∨ ¬ a < 0 := by omega
    refine ⟨rfl, Qeq ?_ h⟩
    unfold WA
    rw [m1, m2]
    first
      | rw [if_pos (show a < 0 from g1), if_pos (show b < 0 from g2)]
      | rw [if_pos (show a < 0 from g1), if_neg (show ¬ b < 0 from g2)]
      | rw [if_neg (show ¬ a < 0 from g1), if_pos (show b < 0 from g2)]
      | rw [if_neg (show ¬ a < 0 from g1), if_neg (show ¬ b < 0 from g2)]
    congr 2
    simp only [Z.sub, Z.wrap_u, IntKind.wrap_i64, AV.int.injEq, true_and]
    omega
theorem not_u {a : Int} (ha : 0 ≤ a) (ha' : a < 18446744073709551616) : Z.not .u64 a = 18446744073709551615 - a := by
  unfold Z.not
  show IntKind.u64.wrap (BitVec.ofInt 64 (18446744073709551615 : Int) ^^^ BitVec.ofInt 64 a).toNat = _
  have e : (BitVec.ofInt 64 (18446744073709551615 : Int)) = BitVec.allOnes 64 := by decide
  rw [e, BitVec.allOnes_xor, BitVec.toNat_not, BitVec.toNat_ofInt, Z.wrap_u]
  omega
theorem wideOver {h l d : Int} (hh : I64 h) (hl : U64 l) (hd : I64 d) {s : List Ob} {Q : AV → List Ob → Prop} (hq : ∀ v ok, v = overI (wv h l) d → ok = overB (wv h l) d → Q (.tup [.int .i64 v, .bool ok]) s) : AC Try.prog 84 [.agg [.int .i64 h, .int .u64 l], .int .i64 d] s Q := by
  refine AC_pure rfl ?_
  refine AC_body tok 3 Try.func84 rfl (by kernel_rfl) ?_
  conv => whnf
  refine ifP (fun g => ?_) (fun g => ?_)
  · conv => whnf
    exact ⟨rfl, hq _ _ (by unfold overI; rw [if_neg (by omega)]) (by unfold overB; symm; rw [decide_eq_false_iff_not]; omega)⟩
  conv => whnf
  refine wof ?_
  conv => whnf
  unfold I64 at hh hd
  unfold U64 at hl
  have wd : IntKind.u64.wrap d = d := Z.wrap_uid (by omega) (by omega)
  have dp : 0 < d := by omega
  refine ifP (fun g1 => ?_) (fun g1 => ?_)
  · have wh : Z.not .u64 (IntKind.u64.wrap h) = -h - 1 := by rw [not_u (Z.wrap_u_lo _) (Z.wrap_u_hi _), Z.wrap_u]; omega
    have wl : Z.not .u64 l = 18446744073709551615 - l := not_u hl.1 hl.2
    have em : (-h - 1) * 18446744073709551616 + (18446744073709551615 - l) = -wv h l - 1 := by unfold wv; omega
    have nd := PW.neg_div (n := wv h l) dp
    conv => whnf
    refine ifP (fun g2 => ?_) (fun g2 => ?_)
    · rw [wh, wd] at g2
      have f1 : ¬ -9223372036854775808 ≤ wv h l / d := by rw [PW.div_ge dp]; unfold wv; omega
      conv => whnf
      exact ⟨rfl, hq _ _ (by unfold overI; rw [if_neg (by omega)]) (by unfold overB; symm; rw [decide_eq_false_iff_not]; omega)⟩
    · conv => whnf
      rw [wh, wd] at g2
      rw [wh, wl, wd]
      have g2' : -h - 1 < d := by omega
      refine div64 (by omega) g2' (by omega) (by omega) (by omega) (fun q r h1 h2 => ?_)
      conv => whnf
      rw [em] at h1
      have q0 : 0 ≤ q := by rw [h1]; exact Int.ediv_nonneg (by unfold wv; omega) (by omega)
      refine ifP (fun g3 => ?_) (fun g3 => ?_)
      · conv => whnf
        have g3 : q > 9223372036854775807 := g3
        exact ⟨rfl, hq _ _ (by unfold overI; rw [if_neg (by omega)]) (by unfold overB; symm; rw [decide_eq_false_iff_not]; omega)⟩
      · have g3 : ¬ q > 9223372036854775807 := g3
        conv => whnf
        have e1 : IntKind.i64.wrap q = q := Z.wrap_iid (by omega) (by omega)
        have e2 : Z.not .i64 (IntKind.i64.wrap q) = -q - 1 := by rw [e1, not_i (by omega) (by omega)]
        refine ifT (decide_eq_true g1) ?_
        conv => whnf
        exact ⟨rfl, hq _ _ (by unfold overI; rw [if_pos (by omega), e2]; omega) (by unfold overB; symm; rw [decide_eq_true_iff]; omega)⟩
  · have wh : IntKind.u64.wrap h = h := Z.wrap_uid (by omega) (by omega)
    conv => whnf
    refine ifP (fun g2 => ?_) (fun g2 => ?_)
    · rw [wh, wd] at g2
      have f1 : ¬ wv h l / d < 9223372036854775808 := by
        rw [PW.div_lt dp]
        unfold wv; omega
      conv => whnf
      exact ⟨rfl, hq _ _ (by unfold overI; rw [if_neg (by omega)]) (by unfold overB; symm; rw [decide_eq_false_iff_not]; omega)⟩
    · conv => whnf
      rw [wh, wd] at g2
      rw [wh, wd]
      have g2' : h < d := by omega
      refine div64 (by omega) g2' (by omega) (by omega) (by omega) (fun q r h1 h2 => ?_)
      conv => whnf
      have q0 : 0 ≤ q := by rw [h1]; exact Int.ediv_nonneg (by omega) (by omega)
      have h1 : q = wv h l / d := h1
      refine ifP (fun g3 => ?_) (fun g3 => ?_)
      · conv => whnf
        have g3 : q > 9223372036854775807 := g3
        exact ⟨rfl, hq _ _ (by unfold overI; rw [if_neg (by omega)]) (by unfold overB; symm; rw [decide_eq_false_iff_not]; omega)⟩
      · have g3 : ¬ q > 9223372036854775807 := g3
        conv => whnf
        have e1 : IntKind.i64.wrap q = q := Z.wrap_iid (by omega) (by omega)
        refine ifF (decide_eq_false g1) ?_
        conv => whnf
        exact ⟨rfl, hq _ _ (by unfold overI; rw [if_pos (by omega), e1]; omega) (by unfold overB; symm; rw [decide_eq_true_iff]; omega)⟩
theorem half_sum {z v u : Int} (h0 : 0 ≤ z) (h1 : z < 36893488147419103232) (hv : v = z % 18446744073709551616) (hu : u = z / 18446744073709551616) : Z.or .u64 (Z.shr .u64 v 1) (Z.shl .u64 u 63) = z / 2 := by
  rw [Z.shr_eq 1 rfl]
  have hs : Z.shl .u64 u 63 = u * 9223372036854775808 := by
    unfold Z.shl
    exact Z.wrap_uid (by show 0 ≤ u * 9223372036854775808; omega) (by show u * 9223372036854775808 < _; omega)
  rw [hs, Z.or_u (by omega) (by omega) (by omega) (by omega)]
  obtain ⟨U, rfl⟩ := Int.eq_ofNat_of_zero_le (show 0 ≤ u by omega)
  obtain ⟨V, eV⟩ := Int.eq_ofNat_of_zero_le (show 0 ≤ v / 2 ^ 1 by omega)
  rw [eV]
  have e : ((U : Int) * 9223372036854775808).toNat = U * 2 ^ 63 := by omega
  rw [e, Int.toNat_natCast, Nat.or_comm, PN.or_add' (by omega)]
  omega
theorem wideOverW {x d : Int} (hx : I128 x) (hd : I64 d) {s : List Ob} {Q : AV → List Ob → Prop} (hq : ∀ v ok, v = overI x d → ok = overB x d → Q (.tup [.int .i64 v, .bool ok]) s) : AC Try.prog 84 [WA x, .int .i64 d] s Q :=
  wideOver (PW.hi_i hx) (PW.lo_u x) hd (fun v ok h1 h2 => hq v ok (by rw [h1, PW.wv_split]) (by rw [h2, PW.wv_split]))
