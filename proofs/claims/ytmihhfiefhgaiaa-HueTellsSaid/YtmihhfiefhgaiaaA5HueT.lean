/- Part of the proof of a law of the seat: its functions, walked. No condition. -/
import Derived.Test.YtmihhfiefhgaiaaA5HueRef
import Derived.Test.YtmihhfiefhgaiaaA5FracRef
namespace Go.AW.A5
open Go Go.AW Go.Proofs
set_option maxRecDepth 100000
set_option linter.unusedVariables false
theorem rhMix {r g b x y z : Int} {s : List Ob} {Q : AV → List Ob → Prop} (h : ∀ u v w, u = mixI (isWt r g b && isC x y z) r x → v = mixI (isWt r g b && isC x y z) g y → w = mixI (isWt r g b && isC x y z) b z → Q (.agg [.int .i64 u, .int .i64 v, .int .i64 w]) s) : AC Try.prog 37 [.agg [.int .i64 r, .int .i64 g, .int .i64 b], .agg [.int .i64 x, .int .i64 y, .int .i64 z]] s Q := by
  refine AC_pure rfl ?_
  refine AC_body tok 12 Try.func37 rfl (by kernel_rfl) ?_
  conv => whnf
  unfold mixI at h
  try (refine AW_draw tok hP ?_; conv => whnf)
  first | refine AQ_bool (fun sK QK hK => rhWeight hK) (fun p hp => ?_) | refine rhWeight (fun p hp => ?_)
  conv => whnf
  try (refine And.intro (OkD.mk (by kernel_rfl)) ?_; conv => whnf)
  cases p
  · conv => whnf
    exact ⟨rfl, h _ _ _ (by rw [← hp]; rfl) (by rw [← hp]; rfl) (by rw [← hp]; rfl)⟩
  conv => whnf
  try (refine AW_draw tok hP ?_; conv => whnf)
  first | refine AQ_bool (fun sK QK hK => rhColor hK) (fun q hq => ?_) | refine rhColor (fun q hq => ?_)
  conv => whnf
  try (refine And.intro (OkD.mk (by kernel_rfl)) ?_; conv => whnf)
  cases q
  · conv => whnf
    exact ⟨rfl, h _ _ _ (by rw [← hp, ← hq]; rfl) (by rw [← hp, ← hq]; rfl) (by rw [← hp, ← hq]; rfl)⟩
  conv => whnf
  rw [← hp, ← hq] at h
  obtain ⟨a1, a2, a3⟩ := PH.isWt_iff.1 hp.symm
  obtain ⟨b1, b2, b3⟩ := PH.isC_iff.1 hq.symm
  have md : ∀ w c : Int, 0 ≤ w ∧ w ≤ 1099511627776 → 0 ≤ c ∧ c ≤ 65536 → Z.mul .i64 w c = w * c ∧ -9223372036854775808 ≤ w * c ∧ w * c < 9223372036854775808 := fun w c h1 h2 => by have m := PH.mix_b h1 h2; exact ⟨Z.wrap_iid (by omega) (by omega), by omega, by omega⟩
  obtain ⟨m1, n1⟩ := md _ _ a1 b1
  obtain ⟨m2, n2⟩ := md _ _ a2 b2
  obtain ⟨m3, n3⟩ := md _ _ a3 b3
  refine AW_draw tok hP ?_
  conv => whnf
  rw [m1]
  try (refine AW_draw tok hP ?_; conv => whnf)
  first | refine AQ_int (fun sK QK hK => refDiv n1.1 n1.2 hK) (fun u hu => ?_) | refine refDiv n1.1 n1.2 (fun u hu => ?_)
  conv => whnf
  try (refine And.intro (OkD.mk (by kernel_rfl)) ?_; conv => whnf)
  rw [m2]
  try (refine AW_draw tok hP ?_; conv => whnf)
  first | refine AQ_int (fun sK QK hK => refDiv n2.1 n2.2 hK) (fun v hv => ?_) | refine refDiv n2.1 n2.2 (fun v hv => ?_)
  conv => whnf
  try (refine And.intro (OkD.mk (by kernel_rfl)) ?_; conv => whnf)
  rw [m3]
  try (refine AW_draw tok hP ?_; conv => whnf)
  first | refine AQ_int (fun sK QK hK => refDiv n3.1 n3.2 hK) (fun w hw => ?_) | refine refDiv n3.1 n3.2 (fun w hw => ?_)
  conv => whnf
  try (refine And.intro (OkD.mk (by kernel_rfl)) ?_; conv => whnf)
  exact ⟨rfl, h _ _ _ hu hv hw⟩
theorem rhAdd {r g b x y z : Int} (hr : I64 r) (hg : I64 g) (hb : I64 b) (hx : I64 x) (hy : I64 y) (hz : I64 z) {s : List Ob} {Q : AV → List Ob → Prop} (h : ∀ u v w, u = plusI r x → v = plusI g y → w = plusI b z → Q (.agg [.int .i64 u, .int .i64 v, .int .i64 w]) s) : AC Try.prog 39 [.agg [.int .i64 r, .int .i64 g, .int .i64 b], .agg [.int .i64 x, .int .i64 y, .int .i64 z]] s Q := by
  refine AC_pure rfl ?_
  refine AC_body tok 12 Try.func39 rfl (by kernel_rfl) ?_
  conv => whnf
  unfold I64 at *
  try (refine AW_draw tok hP ?_; conv => whnf)
  first | refine AQ_int (fun sK QK hK => refPlus hr.1 hr.2 hx.1 hx.2 hK) (fun u hu => ?_) | refine refPlus hr.1 hr.2 hx.1 hx.2 (fun u hu => ?_)
  conv => whnf
  try (refine And.intro (OkD.mk (by kernel_rfl)) ?_; conv => whnf)
  try (refine AW_draw tok hP ?_; conv => whnf)
  first | refine AQ_int (fun sK QK hK => refPlus hg.1 hg.2 hy.1 hy.2 hK) (fun v hv => ?_) | refine refPlus hg.1 hg.2 hy.1 hy.2 (fun v hv => ?_)
  conv => whnf
  try (refine And.intro (OkD.mk (by kernel_rfl)) ?_; conv => whnf)
  try (refine AW_draw tok hP ?_; conv => whnf)
  first | refine AQ_int (fun sK QK hK => refPlus hb.1 hb.2 hz.1 hz.2 hK) (fun w hw => ?_) | refine refPlus hb.1 hb.2 hz.1 hz.2 (fun w hw => ?_)
  conv => whnf
  try (refine And.intro (OkD.mk (by kernel_rfl)) ?_; conv => whnf)
  exact ⟨rfl, h _ _ _ hu hv hw⟩
theorem rhBlack {r g b : Int} {s : List Ob} {Q : AV → List Ob → Prop} (h : ∀ v, v = decide (r = 0 ∧ g = 0 ∧ b = 0) → Q (.bool v) s) : AC Try.prog 43 [.agg [.int .i64 r, .int .i64 g, .int .i64 b]] s Q := by
  refine AC_pure rfl ?_
  refine AC_body tok 3 Try.func43 rfl (by kernel_rfl) ?_
  conv => whnf
  refine ⟨rfl, h _ ?_⟩
  rw [Bool.eq_iff_iff]; simp
theorem rhMost {r g b : Int} {s : List Ob} {Q : AV → List Ob → Prop} (h : ∀ v, v = mostW r g b → Q (.int .i64 v) s) : AC Try.prog 41 [.agg [.int .i64 r, .int .i64 g, .int .i64 b]] s Q := by
  refine AC_pure rfl ?_
  refine AC_body tok 3 Try.func41 rfl (by kernel_rfl) ?_
  conv => whnf
  exact ⟨rfl, h _ rfl⟩
theorem rhGrey {r g b : Int} {s : List Ob} {Q : AV → List Ob → Prop} (h : ∀ v, v = greyI r g b → Q (.int .i64 v) s) : AC Try.prog 42 [.agg [.int .i64 r, .int .i64 g, .int .i64 b]] s Q := by
  refine AC_pure rfl ?_
  refine AC_body tok 12 Try.func42 rfl (by kernel_rfl) ?_
  conv => whnf
  unfold greyI at h
  try (refine AW_draw tok hP ?_; conv => whnf)
  first | refine AQ_bool (fun sK QK hK => rhWeight hK) (fun p hp => ?_) | refine rhWeight (fun p hp => ?_)
  conv => whnf
  try (refine And.intro (OkD.mk (by kernel_rfl)) ?_; conv => whnf)
  cases p
  · conv => whnf
    exact ⟨rfl, h _ (by rw [← hp]; rfl)⟩
  rw [← hp, if_pos rfl] at h
  have a := PH.isWt_iff.1 hp.symm
  conv => whnf
  repeat' first
    | (refine AW_draw tok hP ?_; conv => whnf)
    | (refine And.intro (OkD.mk (by kernel_rfl)) ?_; conv => whnf)
    | fail
  rw [show Z.mul .i64 2 g = 2 * g from Z.wrap_iid (by omega) (by omega), show Z.add .i64 r (2 * g) = r + 2 * g from Z.wrap_iid (by omega) (by omega), show Z.add .i64 (r + 2 * g) b = r + 2 * g + b from Z.wrap_iid (by omega) (by omega)]
  try (refine AW_draw tok hP ?_; conv => whnf)
  first | refine AQ_int (fun sK QK hK => refDiv (by omega) (by omega) hK) (fun v hv => ?_) | refine refDiv (by omega) (by omega) (fun v hv => ?_)
  conv => whnf
  try (refine And.intro (OkD.mk (by kernel_rfl)) ?_; conv => whnf)
  exact ⟨rfl, h _ hv⟩
theorem rhPart {r g b n d : Int} (hn : I64 n) (hd : I64 d) {s : List Ob} {Q : AV → List Ob → Prop} (h : ∀ u v w, u = partW (isWt r g b && (decide (1 ≤ d) && decide (0 ≤ n))) r n d → v = partW (isWt r g b && (decide (1 ≤ d) && decide (0 ≤ n))) g n d → w = partW (isWt r g b && (decide (1 ≤ d) && decide (0 ≤ n))) b n d → Q (.agg [.int .i64 u, .int .i64 v, .int .i64 w]) s) : AC Try.prog 40 [.agg [.int .i64 r, .int .i64 g, .int .i64 b], .agg [.int .i64 n, .int .i64 d]] s Q := by
  refine AC_pure rfl ?_
  refine AC_body tok 12 Try.func40 rfl (by kernel_rfl) ?_
  conv => whnf
  unfold partW at h
  try (refine AW_draw tok hP ?_; conv => whnf)
  first | refine AQ_bool (fun sK QK hK => rhWeight hK) (fun p hp => ?_) | refine rhWeight (fun p hp => ?_)
  conv => whnf
  try (refine And.intro (OkD.mk (by kernel_rfl)) ?_; conv => whnf)
  cases p
  · conv => whnf
    exact ⟨rfl, h _ _ _ (by rw [← hp]; rfl) (by rw [← hp]; rfl) (by rw [← hp]; rfl)⟩
  rw [← hp] at h
  have a := PH.isWt_iff.1 hp.symm
  conv => whnf
  try (refine AW_draw tok hP ?_; conv => whnf)
  first | refine AQ_bool (fun sK QK hK => rfRight hK) (fun k hk => ?_) | refine rfRight (fun k hk => ?_)
  conv => whnf
  try (refine And.intro (OkD.mk (by kernel_rfl)) ?_; conv => whnf)
  by_cases g1 : d > 0
  case neg =>
    obtain rfl : k = false := by rw [hk]; exact decide_eq_false g1
    conv => whnf
    rw [decide_eq_false (show ¬ 1 ≤ d by omega)] at h
    exact ⟨rfl, h _ _ _ rfl rfl rfl⟩
  obtain rfl : k = true := by rw [hk]; exact decide_eq_true g1
  rw [decide_eq_true (show 1 ≤ d by omega)] at h
  conv => whnf
  generalize hB : decide ((_ : Int) < 0) = bB
  replace hB : decide (n < 0) = bB := hB
  by_cases g2 : n < 0
  · rw [decide_eq_true g2] at hB; subst hB
    conv => whnf
    rw [decide_eq_false (show ¬ 0 ≤ n by omega)] at h
    exact ⟨rfl, h _ _ _ rfl rfl rfl⟩
  rw [decide_eq_false g2] at hB; subst hB
  conv => whnf
  rw [decide_eq_true (show 0 ≤ n by omega)] at h
  try (refine AW_draw tok hP ?_; conv => whnf)
  first | refine AQ_int (fun sK QK hK => rfAt (by unfold I64; omega) hn hd hK) (fun u hu => ?_) | refine rfAt (by unfold I64; omega) hn hd (fun u hu => ?_)
  conv => whnf
  try (refine And.intro (OkD.mk (by kernel_rfl)) ?_; conv => whnf)
  try (refine AW_draw tok hP ?_; conv => whnf)
  first | refine AQ_int (fun sK QK hK => rfAt (by unfold I64; omega) hn hd hK) (fun v hv => ?_) | refine rfAt (by unfold I64; omega) hn hd (fun v hv => ?_)
  conv => whnf
  try (refine And.intro (OkD.mk (by kernel_rfl)) ?_; conv => whnf)
  try (refine AW_draw tok hP ?_; conv => whnf)
  first | refine AQ_int (fun sK QK hK => rfAt (by unfold I64; omega) hn hd hK) (fun w hw => ?_) | refine rfAt (by unfold I64; omega) hn hd (fun w hw => ?_)
  conv => whnf
  try (refine And.intro (OkD.mk (by kernel_rfl)) ?_; conv => whnf)
  exact ⟨rfl, h _ _ _ (by rw [hu]; rfl) (by rw [hv]; rfl) (by rw [hw]; rfl)⟩
theorem rhFoldN {s : List Ob} {Q : AV → List Ob → Prop} (h : Q (.agg [.int .i64 0, .int .i64 0, .int .i64 0]) s) : AC Try.prog 45 [.nils] s Q := by
  refine AC_pure rfl ?_
  refine AC_body tok 12 Try.func45 rfl (by kernel_rfl) ?_
  conv => whnf
  exact ⟨rfl, h⟩
theorem rhFold {rows : List (List Int)} {e : TypeId} {own : Bool} (hl : rows.length ≤ 1000) (hfit : Fit3 rows) {i : Nat} {s : List Ob} (hs : s[i]? = some (.row own e [.ik .i64, .ik .i64, .ik .i64] rows)) {Q : AV → List Ob → Prop} (h : Q (.agg [.int .i64 (rows.foldl addW (0, 0, 0)).1, .int .i64 (rows.foldl addW (0, 0, 0)).2.1, .int .i64 (rows.foldl addW (0, 0, 0)).2.2]) s) : AC Try.prog 45 [.sl i 0 rows.length none] s Q := by
  cases own
  all_goals
    refine AC_read (args' := [.sl 0 0 rows.length none]) (L := [.row _ e [.ik .i64, .ik .i64, .ik .i64] rows]) [i] (by simp) rfl rfl (by rintro (_ | i') j ob h1 h2 <;> simp at h1 h2; subst h1 h2; exact hs) ?_
    refine AC_body tok 0 Try.func45 rfl (by kernel_rfl) ?_
    conv => whnf
    refine ALs.invD (ι := Int) tok 12 [true, false, true, true, true] (fun k => 0 ≤ k ∧ k ≤ rows.length) (fun k => ((rows.length : Int) - k).toNat)
      (fun k => [.sl 0 0 rows.length none, .junk, .ptr 1 0 0, .ptr 2 0 0, .int .i64 k] ++ junks 14)
      (fun k => [.row _ e [.ik .i64, .ik .i64, .ik .i64] rows, .cells 0 [.int .i64 0, .int .i64 0, .int .i64 0], .cells 0 [.int .i64 (upto addW (0, 0, 0) rows k).1, .int .i64 (upto addW (0, 0, 0) rows k).2.1, .int .i64 (upto addW (0, 0, 0) rows k).2.2]]) (fun _ => ()) 0 ⟨by omega, by omega⟩ (by rfl) ⟨[], rfl⟩ rfl (fun _ => Nat.le_add_left 1 2) (fun _ => rfl) ?_
    rintro k ⟨k1, k2⟩
    conv => whnf
    by_cases dk : k < rows.length
    · refine ifT (decide_eq_true dk) ?_
      conv => whnf
      obtain ⟨a, b, c, ek, hx, hy, hz⟩ := hfit (0 + k.toNat) (by omega)
      have us := upto_step addW (0, 0, 0) [] rows k1 dk
      have eb : Z.add .i64 k 1 = k + 1 := Z.wrap_iid (by omega) (by omega)
      obtain ⟨u1, u2, u3⟩ := fold3 hfit k
      generalize upto addW (0, 0, 0) rows k = o at *
      rw [Nat.zero_add] at ek
      have fin : ∀ o', o' = addW o [a, b, c] → upto addW (0, 0, 0) rows (Z.add .i64 k 1) = o' := fun o' q => by rw [eb, us, ek, q]
      refine AW_draw tok hP ?_
      conv => whnf
      refine ixI k1 dk ?_
      conv => whnf
      refine rowI k1 dk ?_
      conv => whnf
      rw [Nat.zero_add, ek]
      try (refine AW_draw tok hP ?_; conv => whnf)
      first | refine AQ_vec (fun sK QK hK => rhAdd u1 u2 u3 hx hy hz hK) (fun p q r hp hq hr => ?_) | refine rhAdd u1 u2 u3 hx hy hz (fun p q r hp hq hr => ?_)
      conv => whnf
      try (refine And.intro (OkD.mk (by kernel_rfl)) ?_; conv => whnf)
      have e := fin (p, q, r) (by rw [hp, hq, hr]; rfl)
      exact ⟨Z.add .i64 k 1, _, rfl, by rw [e]; rfl, rfl, by show (rows.length - Z.add .i64 k 1).toNat < (rows.length - k).toNat; rw [eb]; omega, by show 0 ≤ Z.add .i64 k 1; rw [eb]; omega, by show Z.add .i64 k 1 ≤ _; rw [eb]; omega⟩
    · refine ifF (decide_eq_false dk) ?_
      conv => whnf
      refine AWs.go tok 0 ?_
      conv => whnf
      have e1 : upto addW (0, 0, 0) rows k = rows.foldl addW (0, 0, 0) := upto_all _ _ _ (by omega)
      exact ⟨rfl, rfl, by rw [e1]; exact h⟩
theorem rhFold0 {s : List Ob} {Q : AV → List Ob → Prop} (h : Q (.agg [.int .i64 0, .int .i64 0, .int .i64 0]) s) : AC Try.prog 45 [.sl0] s Q := by
  refine AC_pure rfl ?_
  refine AC_body tok 12 Try.func45 rfl (by kernel_rfl) ?_
  conv => whnf
  exact ⟨rfl, h⟩
theorem hueFold0 {s : List Ob} {Q : AV → List Ob → Prop} (h : Q (.agg [.int .i64 0, .int .i64 0, .int .i64 0]) s) : AC Try.prog 44 [.sl0] s Q := by
  refine AC_pure rfl ?_
  refine AC_body tok 12 Try.func44 rfl (by kernel_rfl) ?_
  conv => whnf
  repeat' first
    | (refine AW_draw tok hP ?_; conv => whnf)
    | (refine And.intro (OkD.mk (by kernel_rfl)) ?_; conv => whnf)
    | (refine hueRgb ?_; conv => whnf)
    | (refine AC_body tok 12 Try.func63 rfl (by kernel_rfl) ?_; conv => whnf)
    | fail
  exact ⟨rfl, h⟩
theorem lawHueTells (avs : List AV) (obs : List Ob) (ha : ArgC 0 [.flat (.ik .i64), .flat (.ik .i64), .flat (.ik .i64), .flat (.ik .i64), .flat (.ik .i64), .flat (.ik .i64), .flat (.ik .i64), .flat (.ik .i64), .sl 49 [.ik .i64, .ik .i64, .ik .i64]] avs obs) : AC Try.prog 7 (groupK [some 3, some 3, some 2, none] avs) obs fun r _ => r = .bool true := by
  cases ha with | int w1 ha => cases ha with | int w2 ha => cases ha with | int w3 ha => cases ha with | int w4 ha => cases ha with | int w5 ha => cases ha with | int w6 ha => cases ha with | int w7 ha => cases ha with | int w8 ha =>
  rename_i wr wg wb cr cg cb n e rest
  replace w1 : I64 wr := wf_i64 w1
  replace w2 : I64 wg := wf_i64 w2
  replace w3 : I64 wb := wf_i64 w3
  replace w4 : I64 cr := wf_i64 w4
  replace w5 : I64 cg := wf_i64 w5
  replace w6 : I64 cb := wf_i64 w6
  replace w7 : I64 n := wf_i64 w7
  replace w8 : I64 e := wf_i64 w8
  cases ha with
  | nils ha =>
    cases ha
    refine AC_body tok 3 Try.func7 rfl (by kernel_rfl) ?_
    conv => whnf
    try (refine AW_draw tok hP ?_; conv => whnf)
    first | refine AQ_bool (fun sK QK hK => hueColor hK) (fun a1 h1 => ?_) | refine hueColor (fun a1 h1 => ?_)
    conv => whnf
    try (refine And.intro (OkD.mk (by kernel_rfl)) ?_; conv => whnf)
    try (refine AW_draw tok hP ?_; conv => whnf)
    first | refine AQ_bool (fun sK QK hK => rhColor hK) (fun a2 h2 => ?_) | refine rhColor (fun a2 h2 => ?_)
    conv => whnf
    try (refine And.intro (OkD.mk (by kernel_rfl)) ?_; conv => whnf)
    obtain rfl : a2 = a1 := by rw [h1, h2]
    rw [beq_self_eq_true a2]
    conv => whnf
    try (refine AW_draw tok hP ?_; conv => whnf)
    first | refine AQ_bool (fun sK QK hK => hueWeight hK) (fun b1 h3 => ?_) | refine hueWeight (fun b1 h3 => ?_)
    conv => whnf
    try (refine And.intro (OkD.mk (by kernel_rfl)) ?_; conv => whnf)
    try (refine AW_draw tok hP ?_; conv => whnf)
    first | refine AQ_bool (fun sK QK hK => rhWeight hK) (fun b2 h4 => ?_) | refine rhWeight (fun b2 h4 => ?_)
    conv => whnf
    try (refine And.intro (OkD.mk (by kernel_rfl)) ?_; conv => whnf)
    obtain rfl : b2 = b1 := by rw [h3, h4]
    rw [beq_self_eq_true b2]
    conv => whnf
    try (refine AW_draw tok hP ?_; conv => whnf)
    first | refine AQ_vec (fun sK QK hK => hueMix hK) (fun x y z hx hy hz => ?_) | refine hueMix (fun x y z hx hy hz => ?_)
    conv => whnf
    try (refine And.intro (OkD.mk (by kernel_rfl)) ?_; conv => whnf)
    try (refine AW_draw tok hP ?_; conv => whnf)
    first | refine AQ_vec (fun sK QK hK => rhMix hK) (fun x' y' z' hx' hy' hz' => ?_) | refine rhMix (fun x' y' z' hx' hy' hz' => ?_)
    conv => whnf
    try (refine And.intro (OkD.mk (by kernel_rfl)) ?_; conv => whnf)
    obtain rfl : x' = x := by rw [hx, hx']
    obtain rfl : y' = y := by rw [hy, hy']
    obtain rfl : z' = z := by rw [hz, hz']
    rw [beq_self_eq_true x', beq_self_eq_true y', beq_self_eq_true z']
    conv => whnf
    try (refine AW_draw tok hP ?_; conv => whnf)
    first | refine AQ_vec (fun sK QK hK => hueAdd w1 w2 w3 w4 w5 w6 hK) (fun x y z hx hy hz => ?_) | refine hueAdd w1 w2 w3 w4 w5 w6 (fun x y z hx hy hz => ?_)
    conv => whnf
    try (refine And.intro (OkD.mk (by kernel_rfl)) ?_; conv => whnf)
    try (refine AW_draw tok hP ?_; conv => whnf)
    first | refine AQ_vec (fun sK QK hK => rhAdd w1 w2 w3 w4 w5 w6 hK) (fun x' y' z' hx' hy' hz' => ?_) | refine rhAdd w1 w2 w3 w4 w5 w6 (fun x' y' z' hx' hy' hz' => ?_)
    conv => whnf
    try (refine And.intro (OkD.mk (by kernel_rfl)) ?_; conv => whnf)
    obtain rfl : x' = x := by rw [hx, hx']
    obtain rfl : y' = y := by rw [hy, hy']
    obtain rfl : z' = z := by rw [hz, hz']
    rw [beq_self_eq_true x', beq_self_eq_true y', beq_self_eq_true z']
    conv => whnf
    try (refine AW_draw tok hP ?_; conv => whnf)
    first | refine AQ_vec (fun sK QK hK => huePart w7 w8 hK) (fun x y z hx hy hz => ?_) | refine huePart w7 w8 (fun x y z hx hy hz => ?_)
    conv => whnf
    try (refine And.intro (OkD.mk (by kernel_rfl)) ?_; conv => whnf)
    try (refine AW_draw tok hP ?_; conv => whnf)
    first | refine AQ_vec (fun sK QK hK => rhPart w7 w8 hK) (fun x' y' z' hx' hy' hz' => ?_) | refine rhPart w7 w8 (fun x' y' z' hx' hy' hz' => ?_)
    conv => whnf
    try (refine And.intro (OkD.mk (by kernel_rfl)) ?_; conv => whnf)
    obtain rfl : x' = x := by rw [hx, hx']
    obtain rfl : y' = y := by rw [hy, hy']
    obtain rfl : z' = z := by rw [hz, hz']
    rw [beq_self_eq_true x', beq_self_eq_true y', beq_self_eq_true z']
    conv => whnf
    try (refine AW_draw tok hP ?_; conv => whnf)
    first | refine AQ_int (fun sK QK hK => hueMost hK) (fun m1 h5 => ?_) | refine hueMost (fun m1 h5 => ?_)
    conv => whnf
    try (refine And.intro (OkD.mk (by kernel_rfl)) ?_; conv => whnf)
    try (refine AW_draw tok hP ?_; conv => whnf)
    first | refine AQ_int (fun sK QK hK => rhMost hK) (fun m2 h6 => ?_) | refine rhMost (fun m2 h6 => ?_)
    conv => whnf
    try (refine And.intro (OkD.mk (by kernel_rfl)) ?_; conv => whnf)
    obtain rfl : m2 = m1 := by rw [h5, h6]
    rw [beq_self_eq_true m2]
    conv => whnf
    try (refine AW_draw tok hP ?_; conv => whnf)
    first | refine AQ_int (fun sK QK hK => hueGrey hK) (fun g1 h7 => ?_) | refine hueGrey (fun g1 h7 => ?_)
    conv => whnf
    try (refine And.intro (OkD.mk (by kernel_rfl)) ?_; conv => whnf)
    try (refine AW_draw tok hP ?_; conv => whnf)
    first | refine AQ_int (fun sK QK hK => rhGrey hK) (fun g2 h8 => ?_) | refine rhGrey (fun g2 h8 => ?_)
    conv => whnf
    try (refine And.intro (OkD.mk (by kernel_rfl)) ?_; conv => whnf)
    obtain rfl : g2 = g1 := by rw [h7, h8]
    rw [beq_self_eq_true g2]
    conv => whnf
    try (refine AW_draw tok hP ?_; conv => whnf)
    first | refine AQ_bool (fun sK QK hK => hueBlack hK) (fun k1 h9 => ?_) | refine hueBlack (fun k1 h9 => ?_)
    conv => whnf
    try (refine And.intro (OkD.mk (by kernel_rfl)) ?_; conv => whnf)
    try (refine AW_draw tok hP ?_; conv => whnf)
    first | refine AQ_bool (fun sK QK hK => rhBlack hK) (fun k2 h10 => ?_) | refine rhBlack (fun k2 h10 => ?_)
    conv => whnf
    try (refine And.intro (OkD.mk (by kernel_rfl)) ?_; conv => whnf)
    obtain rfl : k2 = k1 := by rw [h9, h10]
    rw [beq_self_eq_true k2]
    conv => whnf
    try (refine AW_draw tok hP ?_; conv => whnf)
    first | refine AQ_pure (fun sK QK hK => hueFoldN hK) ?_ | refine hueFoldN ?_
    conv => whnf
    try (refine And.intro (OkD.mk (by kernel_rfl)) ?_; conv => whnf)
    try (refine AW_draw tok hP ?_; conv => whnf)
    first | refine AQ_pure (fun sK QK hK => rhFoldN hK) ?_ | refine rhFoldN ?_
    conv => whnf
    try (refine And.intro (OkD.mk (by kernel_rfl)) ?_; conv => whnf)
    try (refine AW_draw tok hP ?_; conv => whnf)
    first | refine AQ_pure (fun sK QK hK => awake09 hK) ?_ | refine awake09 ?_
    conv => whnf
    try (refine And.intro (OkD.mk (by kernel_rfl)) ?_; conv => whnf)
  | sl0 ha =>
    cases ha
    refine AC_body tok 3 Try.func7 rfl (by kernel_rfl) ?_
    conv => whnf
    try (refine AW_draw tok hP ?_; conv => whnf)
    first | refine AQ_bool (fun sK QK hK => hueColor hK) (fun a1 h1 => ?_) | refine hueColor (fun a1 h1 => ?_)
    conv => whnf
    try (refine And.intro (OkD.mk (by kernel_rfl)) ?_; conv => whnf)
    try (refine AW_draw tok hP ?_; conv => whnf)
    first | refine AQ_bool (fun sK QK hK => rhColor hK) (fun a2 h2 => ?_) | refine rhColor (fun a2 h2 => ?_)
    conv => whnf
    try (refine And.intro (OkD.mk (by kernel_rfl)) ?_; conv => whnf)
    obtain rfl : a2 = a1 := by rw [h1, h2]
    rw [beq_self_eq_true a2]
    conv => whnf
    try (refine AW_draw tok hP ?_; conv => whnf)
    first | refine AQ_bool (fun sK QK hK => hueWeight hK) (fun b1 h3 => ?_) | refine hueWeight (fun b1 h3 => ?_)
    conv => whnf
    try (refine And.intro (OkD.mk (by kernel_rfl)) ?_; conv => whnf)
    try (refine AW_draw tok hP ?_; conv => whnf)
    first | refine AQ_bool (fun sK QK hK => rhWeight hK) (fun b2 h4 => ?_) | refine rhWeight (fun b2 h4 => ?_)
    conv => whnf
    try (refine And.intro (OkD.mk (by kernel_rfl)) ?_; conv => whnf)
    obtain rfl : b2 = b1 := by rw [h3, h4]
    rw [beq_self_eq_true b2]
    conv => whnf
    try (refine AW_draw tok hP ?_; conv => whnf)
    first | refine AQ_vec (fun sK QK hK => hueMix hK) (fun x y z hx hy hz => ?_) | refine hueMix (fun x y z hx hy hz => ?_)
    conv => whnf
    try (refine And.intro (OkD.mk (by kernel_rfl)) ?_; conv => whnf)
    try (refine AW_draw tok hP ?_; conv => whnf)
    first | refine AQ_vec (fun sK QK hK => rhMix hK) (fun x' y' z' hx' hy' hz' => ?_) | refine rhMix (fun x' y' z' hx' hy' hz' => ?_)
    conv => whnf
    try (refine And.intro (OkD.mk (by kernel_rfl)) ?_; conv => whnf)
    obtain rfl : x' = x := by rw [hx, hx']
    obtain rfl : y' = y := by rw [hy, hy']
    obtain rfl : z' = z := by rw [hz, hz']
    rw [beq_self_eq_true x', beq_self_eq_true y', beq_self_eq_true z']
    conv => whnf
    try (refine AW_draw tok hP ?_; conv => whnf)
    first | refine AQ_vec (fun sK QK hK => hueAdd w1 w2 w3 w4 w5 w6 hK) (fun x y z hx hy hz => ?_) | refine hueAdd w1 w2 w3 w4 w5 w6 (fun x y z hx hy hz => ?_)
    conv => whnf
    try (refine And.intro (OkD.mk (by kernel_rfl)) ?_; conv => whnf)
    try (refine AW_draw tok hP ?_; conv => whnf)
    first | refine AQ_vec (fun sK QK hK => rhAdd w1 w2 w3 w4 w5 w6 hK) (fun x' y' z' hx' hy' hz' => ?_) | refine rhAdd w1 w2 w3 w4 w5 w6 (fun x' y' z' hx' hy' hz' => ?_)
    conv => whnf
    try (refine And.intro (OkD.mk (by kernel_rfl)) ?_; conv => whnf)
    obtain rfl : x' = x := by rw [hx, hx']
    obtain rfl : y' = y := by rw [hy, hy']
    obtain rfl : z' = z := by rw [hz, hz']
    rw [beq_self_eq_true x', beq_self_eq_true y', beq_self_eq_true z']
    conv => whnf
    try (refine AW_draw tok hP ?_; conv => whnf)
    first | refine AQ_vec (fun sK QK hK => huePart w7 w8 hK) (fun x y z hx hy hz => ?_) | refine huePart w7 w8 (fun x y z hx hy hz => ?_)
    conv => whnf
    try (refine And.intro (OkD.mk (by kernel_rfl)) ?_; conv => whnf)
    try (refine AW_draw tok hP ?_; conv => whnf)
    first | refine AQ_vec (fun sK QK hK => rhPart w7 w8 hK) (fun x' y' z' hx' hy' hz' => ?_) | refine rhPart w7 w8 (fun x' y' z' hx' hy' hz' => ?_)
    conv => whnf
    try (refine And.intro (OkD.mk (by kernel_rfl)) ?_; conv => whnf)
    obtain rfl : x' = x := by rw [hx, hx']
    obtain rfl : y' = y := by rw [hy, hy']
    obtain rfl : z' = z := by rw [hz, hz']
    rw [beq_self_eq_true x', beq_self_eq_true y', beq_self_eq_true z']
    conv => whnf
    try (refine AW_draw tok hP ?_; conv => whnf)
    first | refine AQ_int (fun sK QK hK => hueMost hK) (fun m1 h5 => ?_) | refine hueMost (fun m1 h5 => ?_)
    conv => whnf
    try (refine And.intro (OkD.mk (by kernel_rfl)) ?_; conv => whnf)
    try (refine AW_draw tok hP ?_; conv => whnf)
    first | refine AQ_int (fun sK QK hK => rhMost hK) (fun m2 h6 => ?_) | refine rhMost (fun m2 h6 => ?_)
    conv => whnf
    try (refine And.intro (OkD.mk (by kernel_rfl)) ?_; conv => whnf)
    obtain rfl : m2 = m1 := by rw [h5, h6]
    rw [beq_self_eq_true m2]
    conv => whnf
    try (refine AW_draw tok hP ?_; conv => whnf)
    first | refine AQ_int (fun sK QK hK => hueGrey hK) (fun g1 h7 => ?_) | refine hueGrey (fun g1 h7 => ?_)
    conv => whnf
    try (refine And.intro (OkD.mk (by kernel_rfl)) ?_; conv => whnf)
    try (refine AW_draw tok hP ?_; conv => whnf)
    first | refine AQ_int (fun sK QK hK => rhGrey hK) (fun g2 h8 => ?_) | refine rhGrey (fun g2 h8 => ?_)
    conv => whnf
    try (refine And.intro (OkD.mk (by kernel_rfl)) ?_; conv => whnf)
    obtain rfl : g2 = g1 := by rw [h7, h8]
    rw [beq_self_eq_true g2]
    conv => whnf
    try (refine AW_draw tok hP ?_; conv => whnf)
    first | refine AQ_bool (fun sK QK hK => hueBlack hK) (fun k1 h9 => ?_) | refine hueBlack (fun k1 h9 => ?_)
    conv => whnf
    try (refine And.intro (OkD.mk (by kernel_rfl)) ?_; conv => whnf)
    try (refine AW_draw tok hP ?_; conv => whnf)
    first | refine AQ_bool (fun sK QK hK => rhBlack hK) (fun k2 h10 => ?_) | refine rhBlack (fun k2 h10 => ?_)
    conv => whnf
    try (refine And.intro (OkD.mk (by kernel_rfl)) ?_; conv => whnf)
    obtain rfl : k2 = k1 := by rw [h9, h10]
    rw [beq_self_eq_true k2]
    conv => whnf
    try (refine AW_draw tok hP ?_; conv => whnf)
    first | refine AQ_pure (fun sK QK hK => hueFold0 hK) ?_ | refine hueFold0 ?_
    conv => whnf
    try (refine And.intro (OkD.mk (by kernel_rfl)) ?_; conv => whnf)
    try (refine AW_draw tok hP ?_; conv => whnf)
    first | refine AQ_pure (fun sK QK hK => rhFold0 hK) ?_ | refine rhFold0 ?_
    conv => whnf
    try (refine And.intro (OkD.mk (by kernel_rfl)) ?_; conv => whnf)
    try (refine AW_draw tok hP ?_; conv => whnf)
    first | refine AQ_pure (fun sK QK hK => awake09 hK) ?_ | refine awake09 ?_
    conv => whnf
    try (refine And.intro (OkD.mk (by kernel_rfl)) ?_; conv => whnf)
  | sl hl hf ha =>
    cases ha
    rename_i rows
    refine AC_body tok 3 Try.func7 rfl (by kernel_rfl) ?_
    conv => whnf
    by_cases g12 : (rows.length : Int) > 12
    · rw [decide_eq_true g12]
      conv => whnf
      exact awake09 rfl
    rw [decide_eq_false g12]
    conv => whnf
    have ft := fit3_of hf
    try (refine AW_draw tok hP ?_; conv => whnf)
    first | refine AQ_bool (fun sK QK hK => hueColor hK) (fun a1 h1 => ?_) | refine hueColor (fun a1 h1 => ?_)
    conv => whnf
    try (refine And.intro (OkD.mk (by kernel_rfl)) ?_; conv => whnf)
    try (refine AW_draw tok hP ?_; conv => whnf)
    first | refine AQ_bool (fun sK QK hK => rhColor hK) (fun a2 h2 => ?_) | refine rhColor (fun a2 h2 => ?_)
    conv => whnf
    try (refine And.intro (OkD.mk (by kernel_rfl)) ?_; conv => whnf)
    obtain rfl : a2 = a1 := by rw [h1, h2]
    rw [beq_self_eq_true a2]
    conv => whnf
    try (refine AW_draw tok hP ?_; conv => whnf)
    first | refine AQ_bool (fun sK QK hK => hueWeight hK) (fun b1 h3 => ?_) | refine hueWeight (fun b1 h3 => ?_)
    conv => whnf
    try (refine And.intro (OkD.mk (by kernel_rfl)) ?_; conv => whnf)
    try (refine AW_draw tok hP ?_; conv => whnf)
    first | refine AQ_bool (fun sK QK hK => rhWeight hK) (fun b2 h4 => ?_) | refine rhWeight (fun b2 h4 => ?_)
    conv => whnf
    try (refine And.intro (OkD.mk (by kernel_rfl)) ?_; conv => whnf)
    obtain rfl : b2 = b1 := by rw [h3, h4]
    rw [beq_self_eq_true b2]
    conv => whnf
    try (refine AW_draw tok hP ?_; conv => whnf)
    first | refine AQ_vec (fun sK QK hK => hueMix hK) (fun x y z hx hy hz => ?_) | refine hueMix (fun x y z hx hy hz => ?_)
    conv => whnf
    try (refine And.intro (OkD.mk (by kernel_rfl)) ?_; conv => whnf)
    try (refine AW_draw tok hP ?_; conv => whnf)
    first | refine AQ_vec (fun sK QK hK => rhMix hK) (fun x' y' z' hx' hy' hz' => ?_) | refine rhMix (fun x' y' z' hx' hy' hz' => ?_)
    conv => whnf
    try (refine And.intro (OkD.mk (by kernel_rfl)) ?_; conv => whnf)
    obtain rfl : x' = x := by rw [hx, hx']
    obtain rfl : y' = y := by rw [hy, hy']
    obtain rfl : z' = z := by rw [hz, hz']
    rw [beq_self_eq_true x', beq_self_eq_true y', beq_self_eq_true z']
    conv => whnf
    try (refine AW_draw tok hP ?_; conv => whnf)
    first | refine AQ_vec (fun sK QK hK => hueAdd w1 w2 w3 w4 w5 w6 hK) (fun x y z hx hy hz => ?_) | refine hueAdd w1 w2 w3 w4 w5 w6 (fun x y z hx hy hz => ?_)
    conv => whnf
    try (refine And.intro (OkD.mk (by kernel_rfl)) ?_; conv => whnf)
    try (refine AW_draw tok hP ?_; conv => whnf)
    first | refine AQ_vec (fun sK QK hK => rhAdd w1 w2 w3 w4 w5 w6 hK) (fun x' y' z' hx' hy' hz' => ?_) | refine rhAdd w1 w2 w3 w4 w5 w6 (fun x' y' z' hx' hy' hz' => ?_)
    conv => whnf
    try (refine And.intro (OkD.mk (by kernel_rfl)) ?_; conv => whnf)
    obtain rfl : x' = x := by rw [hx, hx']
    obtain rfl : y' = y := by rw [hy, hy']
    obtain rfl : z' = z := by rw [hz, hz']
    rw [beq_self_eq_true x', beq_self_eq_true y', beq_self_eq_true z']
    conv => whnf
    try (refine AW_draw tok hP ?_; conv => whnf)
    first | refine AQ_vec (fun sK QK hK => huePart w7 w8 hK) (fun x y z hx hy hz => ?_) | refine huePart w7 w8 (fun x y z hx hy hz => ?_)
    conv => whnf
    try (refine And.intro (OkD.mk (by kernel_rfl)) ?_; conv => whnf)
    try (refine AW_draw tok hP ?_; conv => whnf)
    first | refine AQ_vec (fun sK QK hK => rhPart w7 w8 hK) (fun x' y' z' hx' hy' hz' => ?_) | refine rhPart w7 w8 (fun x' y' z' hx' hy' hz' => ?_)
    conv => whnf
    try (refine And.intro (OkD.mk (by kernel_rfl)) ?_; conv => whnf)
    obtain rfl : x' = x := by rw [hx, hx']
    obtain rfl : y' = y := by rw [hy, hy']
    obtain rfl : z' = z := by rw [hz, hz']
    rw [beq_self_eq_true x', beq_self_eq_true y', beq_self_eq_true z']
    conv => whnf
    try (refine AW_draw tok hP ?_; conv => whnf)
    first | refine AQ_int (fun sK QK hK => hueMost hK) (fun m1 h5 => ?_) | refine hueMost (fun m1 h5 => ?_)
    conv => whnf
    try (refine And.intro (OkD.mk (by kernel_rfl)) ?_; conv => whnf)
    try (refine AW_draw tok hP ?_; conv => whnf)
    first | refine AQ_int (fun sK QK hK => rhMost hK) (fun m2 h6 => ?_) | refine rhMost (fun m2 h6 => ?_)
    conv => whnf
    try (refine And.intro (OkD.mk (by kernel_rfl)) ?_; conv => whnf)
    obtain rfl : m2 = m1 := by rw [h5, h6]
    rw [beq_self_eq_true m2]
    conv => whnf
    try (refine AW_draw tok hP ?_; conv => whnf)
    first | refine AQ_int (fun sK QK hK => hueGrey hK) (fun g1 h7 => ?_) | refine hueGrey (fun g1 h7 => ?_)
    conv => whnf
    try (refine And.intro (OkD.mk (by kernel_rfl)) ?_; conv => whnf)
    try (refine AW_draw tok hP ?_; conv => whnf)
    first | refine AQ_int (fun sK QK hK => rhGrey hK) (fun g2 h8 => ?_) | refine rhGrey (fun g2 h8 => ?_)
    conv => whnf
    try (refine And.intro (OkD.mk (by kernel_rfl)) ?_; conv => whnf)
    obtain rfl : g2 = g1 := by rw [h7, h8]
    rw [beq_self_eq_true g2]
    conv => whnf
    try (refine AW_draw tok hP ?_; conv => whnf)
    first | refine AQ_bool (fun sK QK hK => hueBlack hK) (fun k1 h9 => ?_) | refine hueBlack (fun k1 h9 => ?_)
    conv => whnf
    try (refine And.intro (OkD.mk (by kernel_rfl)) ?_; conv => whnf)
    try (refine AW_draw tok hP ?_; conv => whnf)
    first | refine AQ_bool (fun sK QK hK => rhBlack hK) (fun k2 h10 => ?_) | refine rhBlack (fun k2 h10 => ?_)
    conv => whnf
    try (refine And.intro (OkD.mk (by kernel_rfl)) ?_; conv => whnf)
    obtain rfl : k2 = k1 := by rw [h9, h10]
    rw [beq_self_eq_true k2]
    conv => whnf
    refine AQ.mk [0] (.agg [.int .i64 (rows.foldl addW (0, 0, 0)).1, .int .i64 (rows.foldl addW (0, 0, 0)).2.1, .int .i64 (rows.foldl addW (0, 0, 0)).2.2]) [] [] (fun s' hl' hC hR => hueFold (by omega) ft (hC 0 (by simp)) ⟨rfl, by simp [setsL]⟩) ?_
    conv => whnf
    refine AQ.mk [0] (.agg [.int .i64 (rows.foldl addW (0, 0, 0)).1, .int .i64 (rows.foldl addW (0, 0, 0)).2.1, .int .i64 (rows.foldl addW (0, 0, 0)).2.2]) [] [] (fun s' hl' hC hR => rhFold (by omega) ft (hC 0 (by simp)) ⟨rfl, by simp [setsL]⟩) ?_
    conv => whnf
    generalize rows.foldl addW (0, 0, 0) = o
    rw [beq_self_eq_true o.1, beq_self_eq_true o.2.1, beq_self_eq_true o.2.2]
    conv => whnf
    try (refine AW_draw tok hP ?_; conv => whnf)
    first | refine AQ_pure (fun sK QK hK => awake09 hK) ?_ | refine awake09 ?_
    conv => whnf
    try (refine And.intro (OkD.mk (by kernel_rfl)) ?_; conv => whnf)
