/- Part of the proof of a law of the seat: its functions, walked. No condition. -/
import Derived.Test.YtpfcppkggnngiaaA6Num
import Derived.Test.YtpfcppkggnngiaaPWide
namespace Go.AW.A6
open Go Go.AW Go.Proofs
set_option maxRecDepth 100000
set_option linter.unusedVariables false
theorem sub64 {x y c : Int} (hx : U64 x) (hy : U64 y) (hc0 : 0 ≤ c) (hc : c ≤ 1) {s : List Ob} {Q : AV → List Ob → Prop}
    (h : ∀ v u, v = (x - y - c) % 18446744073709551616 → u = (if x - y - c < 0 then 1 else 0) → Q (.tup [.int .u64 v, .int .u64 u]) s) : AC Try.prog 74 [.int .u64 x, .int .u64 y, .int .u64 c] s Q := by
  refine AC_ext Try.func74 (by kernel_rfl) (by kernel_rfl) (by kernel_rfl) (e := (Extern.MathBitsCarry.rows.getD 1 default).2) (by kernel_rfl) _ (h _ _ rfl rfl) fun D μ cargs w hv => ?_
  simp only [VRL, VR] at hv
  obtain ⟨_, _, rfl, rfl, _, _, rfl, rfl, _, _, rfl, rfl, rfl⟩ := hv
  unfold U64 at hx hy
  obtain ⟨X, rfl⟩ := Int.eq_ofNat_of_zero_le hx.1
  obtain ⟨Y, rfl⟩ := Int.eq_ofNat_of_zero_le hy.1
  obtain ⟨C, rfl⟩ := Int.eq_ofNat_of_zero_le hc0
  have hC : C = 0 ∨ C = 1 := by omega
  refine ⟨.tuple #[.int .u64 (((X + 18446744073709551616 - Y - C) % 18446744073709551616 : Nat) : Int), .int .u64 ((if X < Y + C then 1 else 0 : Nat) : Int)], ?_, fun D μ => ?_⟩
  · rcases hC with rfl | rfl <;> rfl
  · simp only [VR]
    refine ⟨[.int .u64 (((X + 18446744073709551616 - Y - C) % 18446744073709551616 : Nat) : Int), .int .u64 ((if X < Y + C then 1 else 0 : Nat) : Int)], rfl, ?_⟩
    simp only [VRL, VR]
    refine ⟨_, _, rfl, ?_, _, _, rfl, ?_, rfl⟩
    · congr 1; omega
    · congr 1; split <;> split <;> omega
theorem wof {h l : Int} {s : List Ob} {Q : AV → List Ob → Prop} (hq : Q (.agg [.int .u64 l, .int .u64 (IntKind.u64.wrap h)]) s) : AC Try.prog 50 [.agg [.int .i64 h, .int .u64 l]] s Q := by
  refine AC_pure rfl ?_
  refine AC_body tok 3 Try.func50 rfl (by kernel_rfl) ?_
  conv => whnf
  exact ⟨rfl, hq⟩
theorem wwide {h l : Int} {s : List Ob} {Q : AV → List Ob → Prop} (hq : Q (.agg [.int .i64 (IntKind.i64.wrap h), .int .u64 l]) s) : AC Try.prog 49 [.agg [.int .u64 l, .int .u64 h]] s Q := by
  refine AC_pure rfl ?_
  refine AC_body tok 3 Try.func49 rfl (by kernel_rfl) ?_
  conv => whnf
  exact ⟨rfl, hq⟩
theorem wideOf {n : Int} (hn : I64 n) {s : List Ob} {Q : AV → List Ob → Prop} (h : Q (WA n) s) : AC Try.prog 16 [.int .i64 n] s Q := by
  refine AC_pure rfl ?_
  refine AC_body tok 3 Try.func16 rfl (by kernel_rfl) ?_
  conv => whnf
  unfold I64 at hn
  refine ⟨rfl, ?_⟩
  rw [Z.shr_eq 63 rfl, Z.wrap_u, show n / 2 ^ 63 = whi n by unfold whi; show n / 9223372036854775808 = _; omega]
  exact h
theorem wideMul {a b : Int} (ha : I64 a) (hb : I64 b) {s : List Ob} {Q : AV → List Ob → Prop} (h : Q (WA (a * b)) s) : AC Try.prog 12 [.int .i64 a, .int .i64 b] s Q := by
  refine AC_pure rfl ?_
  refine AC_body tok 3 Try.func12 rfl (by kernel_rfl) ?_
  conv => whnf
  refine mul64 (Z.wrap_u_lo _) (Z.wrap_u_hi _) (Z.wrap_u_lo _) (Z.wrap_u_hi _) (fun hi lo hhi hlo => ?_)
  rw [Z.wrap_u, Z.wrap_u] at hhi hlo
  obtain ⟨m1, m2⟩ := PW.mul_halves ha hb hhi hlo
  conv => whnf
  unfold I64 at ha hb
  refine ifP (fun g1 => ?_) (fun g1 => ?_) <;> conv => whnf
  all_goals refine ifP (fun g2 => ?_) (fun g2 => ?_) <;> conv => whnf
  all_goals
    refine wwide ?_
    conv => whnf
    have g1' : a < 0 ∨ ¬ a < 0 := by omega
    refine ⟨rfl, Qeq ?_ h⟩
    unfold WA
    rw [m1, m2]
    first
      | rw [if_pos (show a < 0 from g1), if_pos (show b < 0 from g2)]
      | rw [if_pos (show a < 0 from g1), if_neg (show ¬ b < 0 from g2)]
      | rw [if_neg (show ¬ a < 0 from g1), if_pos (show b < 0 from g2)]
      | rw [if_neg (show ¬ a < 0 from g1), if_neg (show ¬ b < 0 from g2)]
    congr 2
    simp only [Z.sub, Z.wrap_u, IntKind.wrap_i64, AV.int.injEq, true_and]
    omega
theorem wideAdd {a b c d : Int} (ha : I64 a) (hb : U64 b) (hc : I64 c) (hd : U64 d) {s : List Ob} {Q : AV → List Ob → Prop} (h : Q (WA (w128 (wv a b + wv c d))) s) : AC Try.prog 22 [.agg [.int .i64 a, .int .u64 b], .agg [.int .i64 c, .int .u64 d]] s Q := by
  refine AC_pure rfl ?_
  refine AC_body tok 3 Try.func22 rfl (by kernel_rfl) ?_
  unfold I64 at ha hc
  unfold U64 at hb hd
  conv => whnf
  refine AW_draw tok hP ?_
  conv => whnf
  refine AQ_pure (fun s Q h => wof h) ?_
  conv => whnf
  refine AQ_pure (fun s Q h => wof h) ?_
  conv => whnf
  refine ⟨⟨by kernel_rfl⟩, ?_⟩
  conv => whnf
  refine AW_draw tok hP ?_
  conv => whnf
  refine AQ_two (fun s Q h => add64 hb.1 hd.1 (by omega) (by omega) h) (fun v u hv hu => ?_)
  conv => whnf
  refine ⟨⟨by kernel_rfl⟩, ?_⟩
  conv => whnf
  refine AW_draw tok hP ?_
  conv => whnf
  refine AQ_two (fun s Q h => add64 (Z.wrap_u_lo _) (Z.wrap_u_lo _) (by rw [hu]; omega) (by rw [hu]; omega) h) (fun v2 u2 hv2 hu2 => ?_)
  conv => whnf
  refine ⟨⟨by kernel_rfl⟩, ?_⟩
  conv => whnf
  rw [Z.wrap_u, Z.wrap_u] at hv2
  refine wwide ?_
  conv => whnf
  refine ⟨rfl, Qeq ?_ h⟩
  unfold WA
  congr 2
  · rw [IntKind.wrap_i64]; unfold whi w128 wv; congr 1; omega
  · congr 2; unfold wlo w128 wv; omega
theorem wless {a b c d : Int} (ha : U64 a) (hb : U64 b) (hc : U64 c) (hd : U64 d) {s : List Ob} {Q : AV → List Ob → Prop} (h : ∀ v u, v = (a - c) % 18446744073709551616 → u = (b - d - (if a - c < 0 then 1 else 0)) % 18446744073709551616 → Q (.agg [.int .u64 v, .int .u64 u]) s) : AC Try.prog 51 [.agg [.int .u64 a, .int .u64 b], .agg [.int .u64 c, .int .u64 d]] s Q := by
  refine AC_pure rfl ?_
  refine AC_body tok 3 Try.func51 rfl (by kernel_rfl) ?_
  conv => whnf
  refine sub64 ha hc (by omega) (by omega) (fun v u hv hu => ?_)
  conv => whnf
  refine sub64 hb hd (by rw [hu]; split <;> omega) (by rw [hu]; split <;> omega) (fun v2 u2 hv2 hu2 => ?_)
  conv => whnf
  refine ⟨rfl, h _ _ ?_ ?_⟩
  · rw [hv, Int.sub_zero]
  · rw [hv2, hu, Int.sub_zero]
theorem nanI {a : Int} {s : List Ob} {Q : AV → List Ob → Prop} (h : Q (.bool false) s) : AC Try.prog 72 [.int .i64 a] s Q := by
  refine AC_pure rfl ?_
  refine AC_body tok 3 Try.func72 rfl (by kernel_rfl) ?_
  conv => whnf
  exact ⟨rfl, Qeq (by rw [bne_s]) h⟩
theorem nanU {a : Int} {s : List Ob} {Q : AV → List Ob → Prop} (h : Q (.bool false) s) : AC Try.prog 73 [.int .u64 a] s Q := by
  refine AC_pure rfl ?_
  refine AC_body tok 3 Try.func73 rfl (by kernel_rfl) ?_
  conv => whnf
  exact ⟨rfl, Qeq (by rw [bne_s]) h⟩
theorem cmpI {a b : Int} {s : List Ob} {Q : AV → List Ob → Prop} (h : ∀ v, v = cmp3 a b → Q (.int .i64 v) s) : AC Try.prog 46 [.int .i64 a, .int .i64 b] s Q := by
  refine AC_pure rfl ?_
  refine AC_body tok 3 Try.func46 rfl (by kernel_rfl) ?_
  conv => whnf
  refine nanI ?_
  conv => whnf
  refine nanI ?_
  conv => whnf
  unfold cmp3 at h
  refine ifP (fun g => ?_) (fun g => ?_)
  · conv => whnf
    exact ⟨rfl, h _ (by rw [if_pos g])⟩
  · conv => whnf
    refine ifP (fun g2 => ?_) (fun g2 => ?_)
    · conv => whnf
      exact ⟨rfl, h _ (by rw [if_neg g, if_pos g2])⟩
    · conv => whnf
      exact ⟨rfl, h _ (by rw [if_neg g, if_neg g2])⟩
theorem cmpU {a b : Int} {s : List Ob} {Q : AV → List Ob → Prop} (h : ∀ v, v = cmp3 a b → Q (.int .i64 v) s) : AC Try.prog 47 [.int .u64 a, .int .u64 b] s Q := by
  refine AC_pure rfl ?_
  refine AC_body tok 3 Try.func47 rfl (by kernel_rfl) ?_
  conv => whnf
  refine nanU ?_
  conv => whnf
  refine nanU ?_
  conv => whnf
  unfold cmp3 at h
  refine ifP (fun g => ?_) (fun g => ?_)
  · conv => whnf
    exact ⟨rfl, h _ (by rw [if_pos g])⟩
  · conv => whnf
    refine ifP (fun g2 => ?_) (fun g2 => ?_)
    · conv => whnf
      exact ⟨rfl, h _ (by rw [if_neg g, if_pos g2])⟩
    · conv => whnf
      exact ⟨rfl, h _ (by rw [if_neg g, if_neg g2])⟩
theorem cmpOr {a b : Int} {s : List Ob} {e : TypeId} {i : Nat} (hs : s[i]? = some (.row true e [.ik .i64] [[a], [b]])) {Q : AV → List Ob → Prop} (h : ∀ v, v = (if a = 0 then b else a) → Q (.int .i64 v) s) : AC Try.prog 45 [.sl i 0 2 none] s Q := by
  refine AC_read (args' := [.sl 0 0 2 none]) (L := [.row true e [.ik .i64] [[a], [b]]]) [i] (by simp) rfl rfl (by rintro (_ | i') j ob h1 h2 <;> simp at h1 h2; subst h1 h2; exact hs) ?_
  refine AC_body tok 12 Try.func45 rfl (by kernel_rfl) ?_
  conv => whnf
  refine ifNE (fun (g : a ≠ 0) => ?_) (fun (g : a = 0) => ?_)
  · conv => whnf
    exact ⟨rfl, rfl, h _ (by rw [if_neg g]; rfl)⟩
  conv => whnf
  refine ifNE (fun (g2 : b ≠ 0) => ?_) (fun (g2 : b = 0) => ?_)
  · conv => whnf
    exact ⟨rfl, rfl, h _ (by rw [if_pos g]; rfl)⟩
  conv => whnf
  exact ⟨rfl, rfl, h _ (by rw [if_pos g]; exact g2.symm)⟩
theorem wideCmp {a b c d : Int} (hb : U64 b) (hd : U64 d) {s : List Ob} {Q : AV → List Ob → Prop} (h : ∀ v, v = cmp3 (wv a b) (wv c d) → Q (.int .i64 v) s) : AC Try.prog 11 [.agg [.int .i64 a, .int .u64 b], .agg [.int .i64 c, .int .u64 d]] s Q := by
  refine AC_pure rfl ?_
  refine AC_body tok 3 Try.func11 rfl (by kernel_rfl) ?_
  conv => whnf
  refine AW_draw tok hP ?_
  conv => whnf
  refine AQ_pure (fun s Q h => cmpI (fun v hv => by rw [hv]; exact h)) ?_
  conv => whnf
  refine AQ_pure (fun s Q h => cmpU (fun v hv => by rw [hv]; exact h)) ?_
  conv => whnf
  refine AQ.mk [2] (.int .i64 (if cmp3 a c = 0 then cmp3 b d else cmp3 a c)) [] [] (fun s' hl hC hR => cmpOr (hC 2 (by simp)) (fun v hv => ⟨by rw [hv], by simp [setsL]⟩)) ?_
  conv => whnf
  refine ⟨⟨by kernel_rfl⟩, ?_⟩
  conv => whnf
  refine ⟨rfl, h _ ?_⟩
  unfold U64 at hb hd
  unfold cmp3 wv
  split <;> split <;> omega
theorem wideSub {a b c d : Int} (ha : I64 a) (hb : U64 b) (hc : I64 c) (hd : U64 d) {s : List Ob} {Q : AV → List Ob → Prop} (h : Q (WA (w128 (wv a b - wv c d))) s) : AC Try.prog 15 [.agg [.int .i64 a, .int .u64 b], .agg [.int .i64 c, .int .u64 d]] s Q := by
  refine AC_pure rfl ?_
  refine AC_body tok 3 Try.func15 rfl (by kernel_rfl) ?_
  unfold I64 at ha hc
  have hb' := hb
  have hd' := hd
  unfold U64 at hb hd
  conv => whnf
  refine AW_draw tok hP ?_
  conv => whnf
  refine AQ_pure (fun s Q h => wof h) ?_
  conv => whnf
  refine AQ_pure (fun s Q h => wof h) ?_
  conv => whnf
  refine AQ_pair (fun s Q h => wless hb' ⟨Z.wrap_u_lo _, Z.wrap_u_hi _⟩ hd' ⟨Z.wrap_u_lo _, Z.wrap_u_hi _⟩ h) (fun v u hv hu => ?_)
  conv => whnf
  refine AQ_pure (fun s Q h => wwide h) ?_
  conv => whnf
  refine ⟨⟨by kernel_rfl⟩, ?_⟩
  conv => whnf
  rw [Z.wrap_u, Z.wrap_u] at hu
  refine ⟨rfl, Qeq ?_ h⟩
  unfold WA
  congr 2
  · rw [IntKind.wrap_i64]; unfold whi w128 wv; congr 1; split at hu <;> omega
  · congr 2; unfold wlo w128 wv; omega
theorem not_u {a : Int} (ha : 0 ≤ a) (ha' : a < 18446744073709551616) : Z.not .u64 a = 18446744073709551615 - a := by
  unfold Z.not
  show IntKind.u64.wrap (BitVec.ofInt 64 (18446744073709551615 : Int) ^^^ BitVec.ofInt 64 a).toNat = _
  have e : (BitVec.ofInt 64 (18446744073709551615 : Int)) = BitVec.allOnes 64 := by decide
  rw [e, BitVec.allOnes_xor, BitVec.toNat_not, BitVec.toNat_ofInt, Z.wrap_u]
  omega
theorem wideOver {h l d : Int} (hh : I64 h) (hl : U64 l) (hd : I64 d) {s : List Ob} {Q : AV → List Ob → Prop} (hq : ∀ v ok, v = overI (wv h l) d → ok = overB (wv h l) d → Q (.tup [.int .i64 v, .bool ok]) s) : AC Try.prog 13 [.agg [.int .i64 h, .int .u64 l], .int .i64 d] s Q := by
  refine AC_pure rfl ?_
  refine AC_body tok 3 Try.func13 rfl (by kernel_rfl) ?_
  conv => whnf
  refine ifP (fun g => ?_) (fun g => ?_)
  · conv => whnf
    exact ⟨rfl, hq _ _ (by unfold overI; rw [if_neg (by omega)]) (by unfold overB; symm; rw [decide_eq_false_iff_not]; omega)⟩
  conv => whnf
  refine wof ?_
  conv => whnf
  unfold I64 at hh hd
  unfold U64 at hl
  have wd : IntKind.u64.wrap d = d := Z.wrap_uid (by omega) (by omega)
  have dp : 0 < d := by omega
  refine ifP (fun g1 => ?_) (fun g1 => ?_)
  · have wh : Z.not .u64 (IntKind.u64.wrap h) = -h - 1 := by rw [not_u (Z.wrap_u_lo _) (Z.wrap_u_hi _), Z.wrap_u]; omega
    have wl : Z.not .u64 l = 18446744073709551615 - l := not_u hl.1 hl.2
    have em : (-h - 1) * 18446744073709551616 + (18446744073709551615 - l) = -wv h l - 1 := by unfold wv; omega
    have nd := PW.neg_div (n := wv h l) dp
    conv => whnf
    refine ifP (fun g2 => ?_) (fun g2 => ?_)
    · rw [wh, wd] at g2
      have f1 : ¬ -9223372036854775808 ≤ wv h l / d := by rw [PW.div_ge dp]; unfold wv; omega
      conv => whnf
      exact ⟨rfl, hq _ _ (by unfold overI; rw [if_neg (by omega)]) (by unfold overB; symm; rw [decide_eq_false_iff_not]; omega)⟩
    · conv => whnf
      rw [wh, wd] at g2
      rw [wh, wl, wd]
      have g2' : -h - 1 < d := by omega
      refine div64 (by omega) g2' (by omega) (by omega) (by omega) (fun q r h1 h2 => ?_)
      conv => whnf
      rw [em] at h1
      have q0 : 0 ≤ q := by rw [h1]; exact Int.ediv_nonneg (by unfold wv; omega) (by omega)
      refine ifP (fun g3 => ?_) (fun g3 => ?_)
      · conv => whnf
        have g3 : q > 9223372036854775807 := g3
        exact ⟨rfl, hq _ _ (by unfold overI; rw [if_neg (by omega)]) (by unfold overB; symm; rw [decide_eq_false_iff_not]; omega)⟩
      · have g3 : ¬ q > 9223372036854775807 := g3
        conv => whnf
        have e1 : IntKind.i64.wrap q = q := Z.wrap_iid (by omega) (by omega)
        have e2 : Z.not .i64 (IntKind.i64.wrap q) = -q - 1 := by rw [e1, not_i (by omega) (by omega)]
        refine ifT (decide_eq_true g1) ?_
        conv => whnf
        exact ⟨rfl, hq _ _ (by unfold overI; rw [if_pos (by omega), e2]; omega) (by unfold overB; symm; rw [decide_eq_true_iff]; omega)⟩
  · have wh : IntKind.u64.wrap h = h := Z.wrap_uid (by omega) (by omega)
    conv => whnf
    refine ifP (fun g2 => ?_) (fun g2 => ?_)
    · rw [wh, wd] at g2
      have f1 : ¬ wv h l / d < 9223372036854775808 := by
        rw [PW.div_lt dp]
        unfold wv; omega
      conv => whnf
      exact ⟨rfl, hq _ _ (by unfold overI; rw [if_neg (by omega)]) (by unfold overB; symm; rw [decide_eq_false_iff_not]; omega)⟩
    · conv => whnf
      rw [wh, wd] at g2
      rw [wh, wd]
      have g2' : h < d := by omega
      refine div64 (by omega) g2' (by omega) (by omega) (by omega) (fun q r h1 h2 => ?_)
      conv => whnf
      have q0 : 0 ≤ q := by rw [h1]; exact Int.ediv_nonneg (by omega) (by omega)
      have h1 : q = wv h l / d := h1
      refine ifP (fun g3 => ?_) (fun g3 => ?_)
      · conv => whnf
        have g3 : q > 9223372036854775807 := g3
        exact ⟨rfl, hq _ _ (by unfold overI; rw [if_neg (by omega)]) (by unfold overB; symm; rw [decide_eq_false_iff_not]; omega)⟩
      · have g3 : ¬ q > 9223372036854775807 := g3
        conv => whnf
        have e1 : IntKind.i64.wrap q = q := Z.wrap_iid (by omega) (by omega)
        refine ifF (decide_eq_false g1) ?_
        conv => whnf
        exact ⟨rfl, hq _ _ (by unfold overI; rw [if_pos (by omega), e1]; omega) (by unfold overB; symm; rw [decide_eq_true_iff]; omega)⟩
theorem half_sum {z v u : Int} (h0 : 0 ≤ z) (h1 : z < 36893488147419103232) (hv : v = z % 18446744073709551616) (hu : u = z / 18446744073709551616) : Z.or .u64 (Z.shr .u64 v 1) (Z.shl .u64 u 63) = z / 2 := by
  rw [Z.shr_eq 1 rfl]
  have hs : Z.shl .u64 u 63 = u * 9223372036854775808 := by
    unfold Z.shl
    exact Z.wrap_uid (by show 0 ≤ u * 9223372036854775808; omega) (by show u * 9223372036854775808 < _; omega)
  rw [hs, Z.or_u (by omega) (by omega) (by omega) (by omega)]
  obtain ⟨U, rfl⟩ := Int.eq_ofNat_of_zero_le (show 0 ≤ u by omega)
  obtain ⟨V, eV⟩ := Int.eq_ofNat_of_zero_le (show 0 ≤ v / 2 ^ 1 by omega)
  rw [eV]
  have e : ((U : Int) * 9223372036854775808).toNat = U * 2 ^ 63 := by omega
  rw [e, Int.toNat_natCast, Nat.or_comm, PN.or_add' (by omega)]
  omega
theorem wideRoot {h l : Int} (hh : I64 h) (hl : U64 l) {s : List Ob} {Q : AV → List Ob → Prop} (hq : ∀ v ok, v = rootW (wv h l) → ok = decide (0 ≤ h) → Q (.tup [.int .u64 v, .bool ok]) s) : AC Try.prog 10 [.agg [.int .i64 h, .int .u64 l]] s Q := by
  refine AC_pure rfl ?_
  refine AC_body tok 0 Try.func10 rfl (by kernel_rfl) ?_
  conv => whnf
  refine ifP (fun g => ?_) (fun g => ?_)
  · conv => whnf
    exact ⟨rfl, hq _ _ (by unfold rootW wv; unfold U64 at hl; rw [if_pos (by omega)]) (by symm; rw [decide_eq_false_iff_not]; omega)⟩
  conv => whnf
  have hi := PW.wv_i hh hl
  unfold I64 at hh
  refine ifE (fun g1 => ?_) (fun g1 => ?_)
  · subst g1
    conv => whnf
    refine numRoot hl.1 hl.2 (fun v hv => ?_)
    conv => whnf
    have := PN.root_hi hl.1 hl.2
    have := PN.root_I hl.1 hl.2
    have v0 : 0 ≤ v := by rw [hv]; exact this.ge 0 (by unfold U64 at hl; omega)
    refine ⟨rfl, hq _ _ ?_ ?_⟩
    · rw [Z.wrap_uid v0 (by omega), hv, ← PW.root_W_small hl]; unfold wv; congr 1; omega
    · symm; rw [decide_eq_true_iff]; omega
  conv => whnf
  have wh : IntKind.u64.wrap h = h := Z.wrap_uid (by omega) (by omega)
  rw [wh]
  refine len64 (by omega) (by omega) (fun n hn1 hn2 hn3 => ?_)
  conv => whnf
  have hn4 : n ≤ 63 := by
    rcases Nat.lt_or_ge n 64 with q | q
    · omega
    · exfalso
      have : (2 : Int) ^ 63 ≤ 2 ^ (n - 1) := PN.pow_le (by omega)
      rcases hn2 with h2 | h2 <;> omega
  have ek : Z.quo .i64 (Z.add .i64 (Z.add .i64 64 (n : Int)) 1) 2 = (((n + 65) / 2 : Nat) : Int) := by
    have e0 : Z.add .i64 64 (n : Int) = (n : Int) + 64 := (Z.wrap_iid (by omega) (by omega)).trans (by omega)
    have e1 : Z.add .i64 ((n : Int) + 64) 1 = (n : Int) + 65 := (Z.wrap_iid (by omega) (by omega)).trans (by omega)
    rw [e0, e1]
    unfold Z.quo
    rw [Int.tdiv_eq_ediv_of_nonneg (by omega)]
    exact (Z.wrap_iid (by omega) (by omega)).trans (by omega)
  have R := PW.root_W (n := wv h l) (by unfold wv; unfold U64 at hl; omega) hi
  have Rh := PW.root_W_hi (n := wv h l) (by unfold wv; unfold U64 at hl; omega) hi
  have R0 := R.ge 4294967296 (by unfold wv; unfold U64 at hl; omega)
  have Rg : h < rootW (wv h l) := by
    rcases Int.lt_or_le h (rootW (wv h l)) with q | q
    · exact q
    · exfalso
      have a1 := R.lt
      have a2 := PN.sq_le (show 0 ≤ rootW (wv h l) + 1 by omega) (show rootW (wv h l) + 1 ≤ h + 1 by omega)
      have a3 : (h + 1) * (h + 1) = h * h + 2 * h + 1 := by rw [Int.add_mul, Int.mul_add]; omega
      have a4 : h * h ≤ h * 9223372036854775808 := Int.mul_le_mul_of_nonneg_left (by omega) (by omega)
      have ev : wv h l = h * 18446744073709551616 + l := rfl
      unfold U64 at hl; omega
  generalize hk : (n + 65) / 2 = k at *
  refine andP (by rw [ek]; omega) ?_
  conv => whnf
  rw [ek]
  have rs : rootW (wv h l) ≤ 2 ^ k ∧ (k ≠ 64 → (2 : Int) ^ k ≤ 9223372036854775808) := by
    refine ⟨?_, fun q => ?_⟩
    · have h2 : wv h l < 2 ^ k * 2 ^ k := by
        rw [← Int.pow_add]
        have : (2 : Int) ^ (n + 64) ≤ 2 ^ (k + k) := PN.pow_le (by omega)
        rw [Int.pow_add] at this
        have p64 : (2 : Int) ^ 64 = 18446744073709551616 := by decide
        rw [p64] at this
        unfold wv; unfold U64 at hl; omega
      have := R.hi _ (Int.le_of_lt (PN.pow_pos k)) h2; omega
    · have : (2 : Int) ^ k ≤ 2 ^ 63 := PN.pow_le (by omega)
      exact this
  by_cases k64 : k = 64
  · have er : Z.shl .u64 1 (k : Int) = 0 := by subst k64; decide
    rw [er]
    conv => whnf
    refine ALs.inv (ι := Int) tok 0 (keepN 5) (fun r => rootW (wv h l) ≤ r ∧ r < 18446744073709551616) (fun r => r.toNat)
      (fun r => [.agg [.int .i64 h, .int .u64 l], .ptr 0 0 0, .int .u64 0, .bool false, .int .u64 r] ++ junks 51) (fun _ => [.cells 0 [.int .i64 h, .int .u64 l]]) (fun _ => ()) 18446744073709551615 ⟨by omega, by omega⟩ rfl rfl rfl ?_
    rintro r ⟨i1, i2⟩
    conv => whnf
    rw [wh]
    refine div64 (by omega) (by omega) i2 hl.1 hl.2 (fun q r' h1 h2 => ?_)
    conv => whnf
    have h1 : q = wv h l / r := h1
    obtain ⟨n1, n2⟩ := PN.newton R i1 (by omega)
    rw [← h1] at n1 n2
    have q0 : 0 ≤ q := by rw [h1]; exact Int.ediv_nonneg (by unfold wv; unfold U64 at hl; omega) (by omega)
    have q1 : q < 18446744073709551616 := by
      rw [h1]
      refine Int.ediv_lt_of_lt_mul (by omega) ?_
      have ev : wv h l = h * 18446744073709551616 + l := rfl
      unfold U64 at hl; omega
    refine add64 (by omega) q0 (by omega) (by omega) (fun v u hv hu => ?_)
    conv => whnf
    rw [half_sum (by omega) (by omega) hv hu]
    rw [Int.add_zero, Int.add_comm r q] at *
    refine ifP (fun c => ?_) (fun c => ?_)
    · conv => whnf
      exact ⟨rfl, hq _ _ (n2 c) (by symm; rw [decide_eq_true_iff]; omega)⟩
    · conv => whnf
      exact ⟨(q + r) / 2, rfl, rfl, rfl, by show ((q + r) / 2).toNat < r.toNat; omega, n1, by show (q + r) / 2 < 18446744073709551616; omega⟩
  · have er : Z.shl .u64 1 (k : Int) = 2 ^ k := by
      rw [PN.shl_one (by omega) (by show Int.toNat (k : Int) ≤ 64; omega)]
      have : (2 : Int) ^ k ≤ 2 ^ 63 := PN.pow_le (by omega)
      have h0 := PN.pow_pos k
      exact Z.wrap_uid (by simp; omega) (by simp; omega)
    have p0 := PN.pow_pos k
    have rs2 := rs.2 k64
    rw [er]
    generalize (2 : Int) ^ k = z at *
    refine ifF (by rw [beq_eq_false_iff_ne]; omega) ?_
    conv => whnf
    refine ALs.inv (ι := Int) tok 0 (keepN 5) (fun r => rootW (wv h l) ≤ r ∧ r < 18446744073709551616) (fun r => r.toNat)
      (fun r => [.agg [.int .i64 h, .int .u64 l], .ptr 0 0 0, .int .u64 0, .bool false, .int .u64 r] ++ junks 51) (fun _ => [.cells 0 [.int .i64 h, .int .u64 l]]) (fun _ => ()) z ⟨by omega, by omega⟩ rfl rfl rfl ?_
    rintro r ⟨i1, i2⟩
    conv => whnf
    rw [wh]
    refine div64 (by omega) (by omega) i2 hl.1 hl.2 (fun q r' h1 h2 => ?_)
    conv => whnf
    have h1 : q = wv h l / r := h1
    obtain ⟨n1, n2⟩ := PN.newton R i1 (by omega)
    rw [← h1] at n1 n2
    have q0 : 0 ≤ q := by rw [h1]; exact Int.ediv_nonneg (by unfold wv; unfold U64 at hl; omega) (by omega)
    have q1 : q < 18446744073709551616 := by
      rw [h1]
      refine Int.ediv_lt_of_lt_mul (by omega) ?_
      have ev : wv h l = h * 18446744073709551616 + l := rfl
      unfold U64 at hl; omega
    refine add64 (by omega) q0 (by omega) (by omega) (fun v u hv hu => ?_)
    conv => whnf
    rw [half_sum (by omega) (by omega) hv hu]
    rw [Int.add_zero, Int.add_comm r q] at *
    refine ifP (fun c => ?_) (fun c => ?_)
    · conv => whnf
      exact ⟨rfl, hq _ _ (n2 c) (by symm; rw [decide_eq_true_iff]; omega)⟩
    · conv => whnf
      exact ⟨(q + r) / 2, rfl, rfl, rfl, by show ((q + r) / 2).toNat < r.toNat; omega, n1, by show (q + r) / 2 < 18446744073709551616; omega⟩
theorem wideCmpW {x y : Int} {s : List Ob} {Q : AV → List Ob → Prop} (h : ∀ v, v = cmp3 x y → Q (.int .i64 v) s) : AC Try.prog 11 [WA x, WA y] s Q :=
  wideCmp (PW.lo_u x) (PW.lo_u y) (fun v hv => h v (by rw [hv, PW.wv_split, PW.wv_split]))
theorem wideSubW {x y : Int} (hx : I128 x) (hy : I128 y) {s : List Ob} {Q : AV → List Ob → Prop} (h : Q (WA (w128 (x - y))) s) : AC Try.prog 15 [WA x, WA y] s Q :=
  wideSub (PW.hi_i hx) (PW.lo_u x) (PW.hi_i hy) (PW.lo_u y) (by rw [PW.wv_split, PW.wv_split]; exact h)
theorem wideAddW {x y : Int} (hx : I128 x) (hy : I128 y) {s : List Ob} {Q : AV → List Ob → Prop} (h : Q (WA (w128 (x + y))) s) : AC Try.prog 22 [WA x, WA y] s Q :=
  wideAdd (PW.hi_i hx) (PW.lo_u x) (PW.hi_i hy) (PW.lo_u y) (by rw [PW.wv_split, PW.wv_split]; exact h)
theorem wideOverW {x d : Int} (hx : I128 x) (hd : I64 d) {s : List Ob} {Q : AV → List Ob → Prop} (hq : ∀ v ok, v = overI x d → ok = overB x d → Q (.tup [.int .i64 v, .bool ok]) s) : AC Try.prog 13 [WA x, .int .i64 d] s Q :=
  wideOver (PW.hi_i hx) (PW.lo_u x) hd (fun v ok h1 h2 => hq v ok (by rw [h1, PW.wv_split]) (by rw [h2, PW.wv_split]))
theorem wideRootW {x : Int} (hx : I128 x) {s : List Ob} {Q : AV → List Ob → Prop} (hq : ∀ v ok, v = rootW x → ok = decide (0 ≤ x) → Q (.tup [.int .u64 v, .bool ok]) s) : AC Try.prog 10 [WA x] s Q :=
  wideRoot (PW.hi_i hx) (PW.lo_u x) (fun v ok h1 h2 => hq v ok (by rw [h1, PW.wv_split]) (by rw [h2]; exact decide_eq_decide.2 (by unfold whi; omega)))
