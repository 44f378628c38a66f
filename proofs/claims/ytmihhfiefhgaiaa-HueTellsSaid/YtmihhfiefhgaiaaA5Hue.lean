/- Part of the proof of a law of the seat: its functions, walked. No condition. -/
import Derived.Test.YtmihhfiefhgaiaaA5Frac
import Derived.Test.YtmihhfiefhgaiaaPHue
import Derived.Test.YtmihhfiefhgaiaaPTone
namespace Go.AW.A5
open Go Go.AW Go.Proofs
set_option maxRecDepth 100000
set_option linter.unusedVariables false
theorem hueOf {r g b : Int} {s : List Ob} {Q : AV → List Ob → Prop} (h : Q (.agg [.int .i64 r, .int .i64 g, .int .i64 b]) s) : AC Try.prog 65 [.agg [.int .i64 r, .int .i64 g, .int .i64 b]] s Q := by
  refine AC_pure rfl ?_
  refine AC_body tok 3 Try.func65 rfl (by kernel_rfl) ?_
  conv => whnf
  exact ⟨rfl, h⟩
theorem hueRgb {r g b : Int} {s : List Ob} {Q : AV → List Ob → Prop} (h : Q (.agg [.int .i64 r, .int .i64 g, .int .i64 b]) s) : AC Try.prog 68 [.agg [.int .i64 r, .int .i64 g, .int .i64 b]] s Q := by
  refine AC_pure rfl ?_
  refine AC_body tok 3 Try.func68 rfl (by kernel_rfl) ?_
  conv => whnf
  exact ⟨rfl, h⟩
theorem hueWithin {r g b n : Int} {s : List Ob} {Q : AV → List Ob → Prop} (h : ∀ v, v = decide ((0 ≤ r ∧ r ≤ n) ∧ (0 ≤ g ∧ g ≤ n) ∧ (0 ≤ b ∧ b ≤ n)) → Q (.bool v) s) : AC Try.prog 66 [.agg [.int .i64 r, .int .i64 g, .int .i64 b], .int .i64 n] s Q := by
  refine AC_pure rfl ?_
  refine AC_body tok 12 Try.func66 rfl (by kernel_rfl) ?_
  conv => whnf
  have no : ¬ ((0 ≤ r ∧ r ≤ n) ∧ (0 ≤ g ∧ g ≤ n) ∧ (0 ≤ b ∧ b ≤ n)) → Q (.bool false) s := fun q => h _ (by symm; rw [decide_eq_false_iff_not]; exact q)
  generalize hB : decide ((_ : Int) < 0) = bB
  replace hB : decide (r < 0) = bB := hB
  by_cases g1 : r < 0
  · rw [decide_eq_true g1] at hB; subst hB
    conv => whnf
    exact ⟨rfl, no (by omega)⟩
  rw [decide_eq_false g1] at hB; subst hB
  conv => whnf
  generalize hB : decide ((_ : Int) > n) = bB
  replace hB : decide (r > n) = bB := hB
  by_cases g2 : r > n
  · rw [decide_eq_true g2] at hB; subst hB
    conv => whnf
    exact ⟨rfl, no (by omega)⟩
  rw [decide_eq_false g2] at hB; subst hB
  conv => whnf
  generalize hB : decide ((_ : Int) < 0) = bB
  replace hB : decide (g < 0) = bB := hB
  by_cases g3 : g < 0
  · rw [decide_eq_true g3] at hB; subst hB
    conv => whnf
    exact ⟨rfl, no (by omega)⟩
  rw [decide_eq_false g3] at hB; subst hB
  conv => whnf
  generalize hB : decide ((_ : Int) > n) = bB
  replace hB : decide (g > n) = bB := hB
  by_cases g4 : g > n
  · rw [decide_eq_true g4] at hB; subst hB
    conv => whnf
    exact ⟨rfl, no (by omega)⟩
  rw [decide_eq_false g4] at hB; subst hB
  conv => whnf
  generalize hB : decide ((_ : Int) < 0) = bB
  replace hB : decide (b < 0) = bB := hB
  by_cases g5 : b < 0
  · rw [decide_eq_true g5] at hB; subst hB
    conv => whnf
    exact ⟨rfl, no (by omega)⟩
  rw [decide_eq_false g5] at hB; subst hB
  conv => whnf
  generalize hB : decide ((_ : Int) > n) = bB
  replace hB : decide (b > n) = bB := hB
  by_cases g6 : b > n
  · rw [decide_eq_true g6] at hB; subst hB
    conv => whnf
    exact ⟨rfl, no (by omega)⟩
  rw [decide_eq_false g6] at hB; subst hB
  conv => whnf
  exact ⟨rfl, h _ (by symm; rw [decide_eq_true_iff]; omega)⟩
theorem hueWeight {r g b : Int} {s : List Ob} {Q : AV → List Ob → Prop} (h : ∀ v, v = isWt r g b → Q (.bool v) s) : AC Try.prog 31 [.agg [.int .i64 r, .int .i64 g, .int .i64 b]] s Q := by
  refine AC_pure rfl ?_
  refine AC_body tok 3 Try.func31 rfl (by kernel_rfl) ?_
  conv => whnf
  try (refine AW_draw tok hP ?_; conv => whnf)
  first | refine AQ_pure (fun sK QK hK => hueOf hK) ?_ | refine hueOf ?_
  conv => whnf
  try (refine And.intro (OkD.mk (by kernel_rfl)) ?_; conv => whnf)
  try (refine AW_draw tok hP ?_; conv => whnf)
  first | refine AQ_bool (fun sK QK hK => hueWithin hK) (fun v hv => ?_) | refine hueWithin (fun v hv => ?_)
  conv => whnf
  try (refine And.intro (OkD.mk (by kernel_rfl)) ?_; conv => whnf)
  exact ⟨rfl, h _ hv⟩
theorem hueColor {r g b : Int} {s : List Ob} {Q : AV → List Ob → Prop} (h : ∀ v, v = isC r g b → Q (.bool v) s) : AC Try.prog 36 [.agg [.int .i64 r, .int .i64 g, .int .i64 b]] s Q := by
  refine AC_pure rfl ?_
  refine AC_body tok 3 Try.func36 rfl (by kernel_rfl) ?_
  conv => whnf
  try (refine AW_draw tok hP ?_; conv => whnf)
  first | refine AQ_pure (fun sK QK hK => hueOf hK) ?_ | refine hueOf ?_
  conv => whnf
  try (refine And.intro (OkD.mk (by kernel_rfl)) ?_; conv => whnf)
  try (refine AW_draw tok hP ?_; conv => whnf)
  first | refine AQ_bool (fun sK QK hK => hueWithin hK) (fun v hv => ?_) | refine hueWithin (fun v hv => ?_)
  conv => whnf
  try (refine And.intro (OkD.mk (by kernel_rfl)) ?_; conv => whnf)
  exact ⟨rfl, h _ hv⟩
theorem hueMix1 {w c : Int} (hw : 0 ≤ w ∧ w ≤ 1099511627776) (hc : 0 ≤ c ∧ c ≤ 65536) {s : List Ob} {Q : AV → List Ob → Prop} (h : Q (.int .i64 (w * c / 65536)) s) : AC Try.prog 64 [.int .i64 w, .int .i64 c] s Q := by
  refine AC_pure rfl ?_
  refine AC_body tok 3 Try.func64 rfl (by kernel_rfl) ?_
  conv => whnf
  have m := PH.mix_b hw hc
  refine ⟨rfl, Qeq ?_ h⟩
  rw [show Z.mul .i64 w c = w * c from Z.wrap_iid (by omega) (by omega), Z.shr_eq 16 rfl]; rfl
theorem hueMix {r g b x y z : Int} {s : List Ob} {Q : AV → List Ob → Prop} (h : ∀ u v w, u = mixI (isWt r g b && isC x y z) r x → v = mixI (isWt r g b && isC x y z) g y → w = mixI (isWt r g b && isC x y z) b z → Q (.agg [.int .i64 u, .int .i64 v, .int .i64 w]) s) : AC Try.prog 29 [.agg [.int .i64 r, .int .i64 g, .int .i64 b], .agg [.int .i64 x, .int .i64 y, .int .i64 z]] s Q := by
  refine AC_pure rfl ?_
  refine AC_body tok 12 Try.func29 rfl (by kernel_rfl) ?_
  conv => whnf
  unfold mixI at h
  try (refine AW_draw tok hP ?_; conv => whnf)
  first | refine AQ_bool (fun sK QK hK => hueWeight hK) (fun p hp => ?_) | refine hueWeight (fun p hp => ?_)
  conv => whnf
  try (refine And.intro (OkD.mk (by kernel_rfl)) ?_; conv => whnf)
  cases p
  · conv => whnf
    exact ⟨rfl, h _ _ _ (by rw [← hp]; rfl) (by rw [← hp]; rfl) (by rw [← hp]; rfl)⟩
  conv => whnf
  try (refine AW_draw tok hP ?_; conv => whnf)
  first | refine AQ_bool (fun sK QK hK => hueColor hK) (fun q hq => ?_) | refine hueColor (fun q hq => ?_)
  conv => whnf
  try (refine And.intro (OkD.mk (by kernel_rfl)) ?_; conv => whnf)
  cases q
  · conv => whnf
    exact ⟨rfl, h _ _ _ (by rw [← hp, ← hq]; rfl) (by rw [← hp, ← hq]; rfl) (by rw [← hp, ← hq]; rfl)⟩
  conv => whnf
  rw [← hp, ← hq] at h
  obtain ⟨a1, a2, a3⟩ := PH.isWt_iff.1 hp.symm
  obtain ⟨b1, b2, b3⟩ := PH.isC_iff.1 hq.symm
  repeat' first
    | (refine AW_draw tok hP ?_; conv => whnf)
    | (refine And.intro (OkD.mk (by kernel_rfl)) ?_; conv => whnf)
    | (refine hueOf ?_; conv => whnf)
    | (refine AQ_pure (fun s Q h => hueOf h) ?_; conv => whnf)
    | (refine hueRgb ?_; conv => whnf)
    | (refine hueMix1 a1 b1 ?_; conv => whnf)
    | (refine hueMix1 a2 b2 ?_; conv => whnf)
    | (refine hueMix1 a3 b3 ?_; conv => whnf)
    | (refine AQ_pure (fun s Q h => hueMix1 a1 b1 h) ?_; conv => whnf)
    | (refine AQ_pure (fun s Q h => hueMix1 a2 b2 h) ?_; conv => whnf)
    | (refine AQ_pure (fun s Q h => hueMix1 a3 b3 h) ?_; conv => whnf)
    | (refine AC_body tok 12 Try.func63 rfl (by kernel_rfl) ?_; conv => whnf)
    | fail
  exact ⟨rfl, h _ _ _ rfl rfl rfl⟩
theorem hueAdd {r g b x y z : Int} (hr : I64 r) (hg : I64 g) (hb : I64 b) (hx : I64 x) (hy : I64 y) (hz : I64 z) {s : List Ob} {Q : AV → List Ob → Prop} (h : ∀ u v w, u = plusI r x → v = plusI g y → w = plusI b z → Q (.agg [.int .i64 u, .int .i64 v, .int .i64 w]) s) : AC Try.prog 38 [.agg [.int .i64 r, .int .i64 g, .int .i64 b], .agg [.int .i64 x, .int .i64 y, .int .i64 z]] s Q := by
  refine AC_pure rfl ?_
  refine AC_body tok 12 Try.func38 rfl (by kernel_rfl) ?_
  conv => whnf
  unfold I64 at *
  repeat' first
    | (refine AW_draw tok hP ?_; conv => whnf)
    | (refine And.intro (OkD.mk (by kernel_rfl)) ?_; conv => whnf)
    | (refine hueOf ?_; conv => whnf)
    | (refine AQ_pure (fun s Q h => hueOf h) ?_; conv => whnf)
    | (refine hueRgb ?_; conv => whnf)
    | (refine AC_body tok 12 Try.func63 rfl (by kernel_rfl) ?_; conv => whnf)
    | fail
  try (refine AW_draw tok hP ?_; conv => whnf)
  first | refine AQ_int (fun sK QK hK => numPlus hr.1 hr.2 hx.1 hx.2 hK) (fun u hu => ?_) | refine numPlus hr.1 hr.2 hx.1 hx.2 (fun u hu => ?_)
  conv => whnf
  try (refine And.intro (OkD.mk (by kernel_rfl)) ?_; conv => whnf)
  repeat' first
    | (refine AW_draw tok hP ?_; conv => whnf)
    | (refine And.intro (OkD.mk (by kernel_rfl)) ?_; conv => whnf)
    | fail
  try (refine AW_draw tok hP ?_; conv => whnf)
  first | refine AQ_int (fun sK QK hK => numPlus hg.1 hg.2 hy.1 hy.2 hK) (fun v hv => ?_) | refine numPlus hg.1 hg.2 hy.1 hy.2 (fun v hv => ?_)
  conv => whnf
  try (refine And.intro (OkD.mk (by kernel_rfl)) ?_; conv => whnf)
  repeat' first
    | (refine AW_draw tok hP ?_; conv => whnf)
    | (refine And.intro (OkD.mk (by kernel_rfl)) ?_; conv => whnf)
    | fail
  try (refine AW_draw tok hP ?_; conv => whnf)
  first | refine AQ_int (fun sK QK hK => numPlus hb.1 hb.2 hz.1 hz.2 hK) (fun w hw => ?_) | refine numPlus hb.1 hb.2 hz.1 hz.2 (fun w hw => ?_)
  conv => whnf
  try (refine And.intro (OkD.mk (by kernel_rfl)) ?_; conv => whnf)
  repeat' first
    | (refine AW_draw tok hP ?_; conv => whnf)
    | (refine And.intro (OkD.mk (by kernel_rfl)) ?_; conv => whnf)
    | (refine hueRgb ?_; conv => whnf)
    | fail
  exact ⟨rfl, h _ _ _ hu hv hw⟩
theorem hueBlack {r g b : Int} {s : List Ob} {Q : AV → List Ob → Prop} (h : ∀ v, v = decide (r = 0 ∧ g = 0 ∧ b = 0) → Q (.bool v) s) : AC Try.prog 32 [.agg [.int .i64 r, .int .i64 g, .int .i64 b]] s Q := by
  refine AC_pure rfl ?_
  refine AC_body tok 3 Try.func32 rfl (by kernel_rfl) ?_
  conv => whnf
  refine ⟨rfl, h _ ?_⟩
  rw [Bool.eq_iff_iff]; simp
theorem hueMost {r g b : Int} {s : List Ob} {Q : AV → List Ob → Prop} (h : ∀ v, v = mostW r g b → Q (.int .i64 v) s) : AC Try.prog 35 [.agg [.int .i64 r, .int .i64 g, .int .i64 b]] s Q := by
  refine AC_pure rfl ?_
  refine AC_body tok 3 Try.func35 rfl (by kernel_rfl) ?_
  conv => whnf
  exact ⟨rfl, h _ rfl⟩
theorem hueGrey {r g b : Int} {s : List Ob} {Q : AV → List Ob → Prop} (h : ∀ v, v = greyI r g b → Q (.int .i64 v) s) : AC Try.prog 34 [.agg [.int .i64 r, .int .i64 g, .int .i64 b]] s Q := by
  refine AC_pure rfl ?_
  refine AC_body tok 12 Try.func34 rfl (by kernel_rfl) ?_
  conv => whnf
  unfold greyI at h
  try (refine AW_draw tok hP ?_; conv => whnf)
  first | refine AQ_bool (fun sK QK hK => hueWeight hK) (fun p hp => ?_) | refine hueWeight (fun p hp => ?_)
  conv => whnf
  try (refine And.intro (OkD.mk (by kernel_rfl)) ?_; conv => whnf)
  cases p
  · conv => whnf
    exact ⟨rfl, h _ (by rw [← hp]; rfl)⟩
  rw [← hp, if_pos rfl] at h
  have a := PH.isWt_iff.1 hp.symm
  conv => whnf
  repeat' first
    | (refine AW_draw tok hP ?_; conv => whnf)
    | (refine And.intro (OkD.mk (by kernel_rfl)) ?_; conv => whnf)
    | (refine hueOf ?_; conv => whnf)
    | fail
  refine ⟨rfl, h _ ?_⟩
  show Z.shr .i64 (Z.add .i64 (Z.add .i64 (Z.add .i64 0 (Z.shl .i64 r 0)) (Z.shl .i64 g 1)) (Z.shl .i64 b 0)) 2 = _
  have s0 : ∀ x : Int, 0 ≤ x ∧ x ≤ 1099511627776 → Z.shl .i64 x 0 = x := fun x hx => by
    unfold Z.shl; rw [show min (0 : Int).toNat IntKind.i64.bits = 0 from rfl, Int.pow_zero, Int.mul_one]; exact Z.wrap_iid (by omega) (by omega)
  have s1 : Z.shl .i64 g 1 = g * 2 := by
    unfold Z.shl; rw [show min (1 : Int).toNat IntKind.i64.bits = 1 from rfl]; exact Z.wrap_iid (by omega) (by omega)
  rw [s0 r a.1, s0 b a.2.2, s1, Z.shr_eq 2 rfl]
  rw [show Z.add .i64 0 r = r from (Z.wrap_iid (by omega) (by omega)).trans (by omega), show Z.add .i64 r (g * 2) = r + g * 2 from Z.wrap_iid (by omega) (by omega), show Z.add .i64 (r + g * 2) b = r + g * 2 + b from Z.wrap_iid (by omega) (by omega)]
  omega
theorem huePart {r g b n d : Int} (hn : I64 n) (hd : I64 d) {s : List Ob} {Q : AV → List Ob → Prop} (h : ∀ u v w, u = partW (isWt r g b && (decide (1 ≤ d) && decide (0 ≤ n))) r n d → v = partW (isWt r g b && (decide (1 ≤ d) && decide (0 ≤ n))) g n d → w = partW (isWt r g b && (decide (1 ≤ d) && decide (0 ≤ n))) b n d → Q (.agg [.int .i64 u, .int .i64 v, .int .i64 w]) s) : AC Try.prog 33 [.agg [.int .i64 r, .int .i64 g, .int .i64 b], .agg [.int .i64 n, .int .i64 d]] s Q := by
  refine AC_pure rfl ?_
  refine AC_body tok 12 Try.func33 rfl (by kernel_rfl) ?_
  conv => whnf
  unfold partW at h
  try (refine AW_draw tok hP ?_; conv => whnf)
  first | refine AQ_bool (fun sK QK hK => hueWeight hK) (fun p hp => ?_) | refine hueWeight (fun p hp => ?_)
  conv => whnf
  try (refine And.intro (OkD.mk (by kernel_rfl)) ?_; conv => whnf)
  cases p
  · conv => whnf
    exact ⟨rfl, h _ _ _ (by rw [← hp]; rfl) (by rw [← hp]; rfl) (by rw [← hp]; rfl)⟩
  rw [← hp] at h
  have a := PH.isWt_iff.1 hp.symm
  conv => whnf
  generalize hB : decide ((_ : Int) < 1) = bB
  replace hB : decide (d < 1) = bB := hB
  by_cases g1 : d < 1
  · rw [decide_eq_true g1] at hB; subst hB
    conv => whnf
    rw [decide_eq_false (show ¬ 1 ≤ d by omega)] at h
    exact ⟨rfl, h _ _ _ rfl rfl rfl⟩
  rw [decide_eq_false g1] at hB; subst hB
  conv => whnf
  rw [decide_eq_true (show 1 ≤ d by omega)] at h
  generalize hB : decide ((_ : Int) < 0) = bB
  replace hB : decide (n < 0) = bB := hB
  by_cases g2 : n < 0
  · rw [decide_eq_true g2] at hB; subst hB
    conv => whnf
    rw [decide_eq_false (show ¬ 0 ≤ n by omega)] at h
    exact ⟨rfl, h _ _ _ rfl rfl rfl⟩
  rw [decide_eq_false g2] at hB; subst hB
  conv => whnf
  rw [decide_eq_true (show 0 ≤ n by omega)] at h
  repeat' first
    | (refine AW_draw tok hP ?_; conv => whnf)
    | (refine And.intro (OkD.mk (by kernel_rfl)) ?_; conv => whnf)
    | (refine hueOf ?_; conv => whnf)
    | fail
  try (refine AW_draw tok hP ?_; conv => whnf)
  first | refine AQ_int (fun sK QK hK => fracAt (by unfold I64; omega) hn hd hK) (fun u hu => ?_) | refine fracAt (by unfold I64; omega) hn hd (fun u hu => ?_)
  conv => whnf
  try (refine And.intro (OkD.mk (by kernel_rfl)) ?_; conv => whnf)
  repeat' first
    | (refine AW_draw tok hP ?_; conv => whnf)
    | (refine And.intro (OkD.mk (by kernel_rfl)) ?_; conv => whnf)
    | fail
  try (refine AW_draw tok hP ?_; conv => whnf)
  first | refine AQ_int (fun sK QK hK => fracAt (by unfold I64; omega) hn hd hK) (fun v hv => ?_) | refine fracAt (by unfold I64; omega) hn hd (fun v hv => ?_)
  conv => whnf
  try (refine And.intro (OkD.mk (by kernel_rfl)) ?_; conv => whnf)
  repeat' first
    | (refine AW_draw tok hP ?_; conv => whnf)
    | (refine And.intro (OkD.mk (by kernel_rfl)) ?_; conv => whnf)
    | fail
  try (refine AW_draw tok hP ?_; conv => whnf)
  first | refine AQ_int (fun sK QK hK => fracAt (by unfold I64; omega) hn hd hK) (fun w hw => ?_) | refine fracAt (by unfold I64; omega) hn hd (fun w hw => ?_)
  conv => whnf
  try (refine And.intro (OkD.mk (by kernel_rfl)) ?_; conv => whnf)
  repeat' first
    | (refine AW_draw tok hP ?_; conv => whnf)
    | (refine And.intro (OkD.mk (by kernel_rfl)) ?_; conv => whnf)
    | (refine hueRgb ?_; conv => whnf)
    | fail
  exact ⟨rfl, h _ _ _ (by rw [hu]; rfl) (by rw [hv]; rfl) (by rw [hw]; rfl)⟩
theorem hueFoldN {s : List Ob} {Q : AV → List Ob → Prop} (h : Q (.agg [.int .i64 0, .int .i64 0, .int .i64 0]) s) : AC Try.prog 44 [.nils] s Q := by
  refine AC_pure rfl ?_
  refine AC_body tok 12 Try.func44 rfl (by kernel_rfl) ?_
  conv => whnf
  repeat' first
    | (refine AW_draw tok hP ?_; conv => whnf)
    | (refine And.intro (OkD.mk (by kernel_rfl)) ?_; conv => whnf)
    | (refine hueRgb ?_; conv => whnf)
    | (refine AC_body tok 12 Try.func63 rfl (by kernel_rfl) ?_; conv => whnf)
    | fail
  exact ⟨rfl, h⟩
theorem hueFold {rows : List (List Int)} {e : TypeId} {own : Bool} (hl : rows.length ≤ 1000) (hfit : Fit3 rows) {i : Nat} {s : List Ob} (hs : s[i]? = some (.row own e [.ik .i64, .ik .i64, .ik .i64] rows)) {Q : AV → List Ob → Prop} (h : Q (.agg [.int .i64 (rows.foldl addW (0, 0, 0)).1, .int .i64 (rows.foldl addW (0, 0, 0)).2.1, .int .i64 (rows.foldl addW (0, 0, 0)).2.2]) s) : AC Try.prog 44 [.sl i 0 rows.length none] s Q := by
  refine AC_read (args' := [.sl 0 0 rows.length none]) (L := [.row own e [.ik .i64, .ik .i64, .ik .i64] rows]) [i] (by simp) rfl rfl (by rintro (_ | i') j ob h1 h2 <;> simp at h1 h2; subst h1 h2; exact hs) ?_
  refine AC_body tok 0 Try.func44 rfl (by kernel_rfl) ?_
  conv => whnf
  refine AC_body tok 0 Try.func63 rfl (by kernel_rfl) ?_
  conv => whnf
  refine ALs.invD (ι := Int) tok 12 [true, true, false, false, true, true, false, false, false, false, false, true, true, true] (fun k => 0 ≤ k ∧ k ≤ rows.length) (fun k => ((rows.length : Int) - k).toNat)
    (fun k => [.fn 69 [] [], .sl 0 0 rows.length none, .junk, .junk, .ptr 2 0 0, .ptr 3 0 0, .junk, .junk, .junk, .junk, .junk, .sl 0 0 rows.length none, .int .i64 rows.length, .int .i64 k] ++ junks 27)
    (fun k => [.row own e [.ik .i64, .ik .i64, .ik .i64] rows, .cells 0 [.int .i64 0, .int .i64 0, .int .i64 0], .cells 0 [.int .i64 0, .int .i64 0, .int .i64 0], .cells 0 [.int .i64 (upto addW (0, 0, 0) rows k).1, .int .i64 (upto addW (0, 0, 0) rows k).2.1, .int .i64 (upto addW (0, 0, 0) rows k).2.2]]) (fun _ => ()) 0 ⟨by omega, by omega⟩ (by rfl) ⟨[], rfl⟩ rfl (fun _ => Nat.le_add_left 2 2) (fun _ => rfl) ?_
  rintro k ⟨k1, k2⟩
  conv => whnf
  by_cases dk : k < rows.length
  · refine ifT (decide_eq_true dk) ?_
    conv => whnf
    obtain ⟨a, b, c, ek, hx, hy, hz⟩ := hfit (0 + k.toNat) (by omega)
    have us := upto_step addW (0, 0, 0) [] rows k1 dk
    have eb : Z.add .i64 k 1 = k + 1 := Z.wrap_iid (by omega) (by omega)
    obtain ⟨u1, u2, u3⟩ := fold3 hfit k
    have ho : k = 0 → upto addW (0, 0, 0) rows k = (0, 0, 0) := by rintro rfl; rfl
    generalize upto addW (0, 0, 0) rows k = o at *
    rw [Nat.zero_add] at ek
    have fin : ∀ o', o' = addW o [a, b, c] → upto addW (0, 0, 0) rows (Z.add .i64 k 1) = o' := fun o' q => by rw [eb, us, ek, q]
    rw [ek] at us
    refine ixI k1 dk ?_
    conv => whnf
    refine rowI k1 dk ?_
    conv => whnf
    rw [Nat.zero_add, ek]
    refine hueOf ?_
    conv => whnf
    by_cases hk : k = 0
    · refine ifT (beq_iff_eq.2 hk) ?_
      conv => whnf
      repeat' first
        | (refine AW_draw tok hP ?_; conv => whnf)
        | (refine And.intro (OkD.mk (by kernel_rfl)) ?_; conv => whnf)
        | (refine ifT (beq_iff_eq.2 hk) ?_; conv => whnf)
        | fail
      have e := fin (a, b, c) (by rw [ho hk]; unfold addW; show (a, b, c) = (plusI 0 a, plusI 0 b, plusI 0 c); rw [plus_0 hx, plus_0 hy, plus_0 hz])
      exact ⟨Z.add .i64 k 1, [.cells 0 [.int .i64 a, .int .i64 b, .int .i64 c]], rfl, by rw [e]; rfl, rfl, by show (rows.length - Z.add .i64 k 1).toNat < (rows.length - k).toNat; rw [eb]; omega, by show 0 ≤ Z.add .i64 k 1; rw [eb]; omega, by show Z.add .i64 k 1 ≤ _; rw [eb]; omega⟩
    · refine ifF (beq_eq_false_iff_ne.2 hk) ?_
      conv => whnf
      unfold I64 at *
      repeat' first
        | (refine AW_draw tok hP ?_; conv => whnf)
        | (refine And.intro (OkD.mk (by kernel_rfl)) ?_; conv => whnf)
        | (refine ifF (beq_eq_false_iff_ne.2 hk) ?_; conv => whnf)
        | fail
      try (refine AW_draw tok hP ?_; conv => whnf)
      first | refine AQ_int (fun sK QK hK => numPlus u1.1 u1.2 hx.1 hx.2 hK) (fun p hp => ?_) | refine numPlus u1.1 u1.2 hx.1 hx.2 (fun p hp => ?_)
      conv => whnf
      try (refine And.intro (OkD.mk (by kernel_rfl)) ?_; conv => whnf)
      repeat' first
        | (refine AW_draw tok hP ?_; conv => whnf)
        | (refine And.intro (OkD.mk (by kernel_rfl)) ?_; conv => whnf)
        | (refine ifF (beq_eq_false_iff_ne.2 hk) ?_; conv => whnf)
        | fail
      try (refine AW_draw tok hP ?_; conv => whnf)
      first | refine AQ_int (fun sK QK hK => numPlus u2.1 u2.2 hy.1 hy.2 hK) (fun q hq => ?_) | refine numPlus u2.1 u2.2 hy.1 hy.2 (fun q hq => ?_)
      conv => whnf
      try (refine And.intro (OkD.mk (by kernel_rfl)) ?_; conv => whnf)
      repeat' first
        | (refine AW_draw tok hP ?_; conv => whnf)
        | (refine And.intro (OkD.mk (by kernel_rfl)) ?_; conv => whnf)
        | (refine ifF (beq_eq_false_iff_ne.2 hk) ?_; conv => whnf)
        | fail
      try (refine AW_draw tok hP ?_; conv => whnf)
      first | refine AQ_int (fun sK QK hK => numPlus u3.1 u3.2 hz.1 hz.2 hK) (fun r hr => ?_) | refine numPlus u3.1 u3.2 hz.1 hz.2 (fun r hr => ?_)
      conv => whnf
      try (refine And.intro (OkD.mk (by kernel_rfl)) ?_; conv => whnf)
      repeat' first
        | (refine AW_draw tok hP ?_; conv => whnf)
        | (refine And.intro (OkD.mk (by kernel_rfl)) ?_; conv => whnf)
        | (refine ifF (beq_eq_false_iff_ne.2 hk) ?_; conv => whnf)
        | fail
      have e := fin (p, q, r) (by rw [hp, hq, hr]; rfl)
      exact ⟨Z.add .i64 k 1, [.cells 0 [.int .i64 a, .int .i64 b, .int .i64 c]], rfl, by rw [e]; rfl, rfl, by show (rows.length - Z.add .i64 k 1).toNat < (rows.length - k).toNat; rw [eb]; omega, by show 0 ≤ Z.add .i64 k 1; rw [eb]; omega, by show Z.add .i64 k 1 ≤ _; rw [eb]; omega⟩
  · refine ifF (decide_eq_false dk) ?_
    conv => whnf
    refine AWs.go tok 0 ?_
    conv => whnf
    refine hueRgb ?_
    conv => whnf
    have e1 : upto addW (0, 0, 0) rows k = rows.foldl addW (0, 0, 0) := upto_all _ _ _ (by omega)
    exact ⟨rfl, rfl, by rw [e1]; exact h⟩
