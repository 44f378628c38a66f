/- Part of the proof of a law of the seat: its functions, walked. No condition. -/
import Derived.Test.YtpfcppkggnngiaaA6Frac
namespace Go.AW.A6
open Go Go.AW Go.Proofs
set_option maxRecDepth 100000
set_option linter.unusedVariables false
theorem leastC {s : List Ob} {Q : AV → List Ob → Prop} (hq : Q (.int .i64 1) s) {e : TypeId} {i : Nat} (hs : s[i]? = some (.row true e [.ik .i64, .ik .i64] [[2, 1], [1, 1], [1, 1]])) : AC Try.prog 36 [.sl i 0 3 none] s Q := by
  refine AC_read (args' := [.sl 0 0 3 none]) (L := [.row true e [.ik .i64, .ik .i64] [[2, 1], [1, 1], [1, 1]]]) [i] (by simp) rfl rfl (by rintro (_ | i') j ob h1 h2 <;> simp at h1 h2; subst h1 h2; exact hs) ?_
  refine AC_body tok 12 Try.func36 rfl (by kernel_rfl) ?_
  conv => whnf
  repeat' first
    | (refine AW_draw tok hP ?_; conv => whnf)
    | (refine And.intro (OkD.mk (by kernel_rfl)) ?_; conv => whnf)
    | (refine fracCmp (by decide) (by decide) (by decide) (by decide) (fun c hc => ?_); conv => whnf)
    | (refine fracSame (by decide) (by decide) (by decide) (by decide) (fun c hc => ?_); conv => whnf)
    | (refine AC_body tok 12 Try.func60 rfl (by kernel_rfl) ?_; conv => whnf)
    | (refine AC_body tok 12 Try.func59 rfl (by kernel_rfl) ?_; conv => whnf)
    | (refine AC_body tok 12 Try.func65 rfl (by kernel_rfl) ?_; conv => whnf)
    | (refine AC_body tok 12 Try.func61 rfl (by kernel_rfl) ?_; conv => whnf)
    | (refine AC_body tok 12 Try.func32 rfl (by kernel_rfl) ?_; conv => whnf)
    | (refine AC_body tok 12 Try.func57 rfl (by kernel_rfl) ?_; conv => whnf)
    | (refine AC_body tok 12 Try.func62 rfl (by kernel_rfl) ?_; conv => whnf)
    | (refine AC_body tok 12 Try.func63 rfl (by kernel_rfl) ?_; conv => whnf)
    | (refine AC_body tok 12 Try.func66 rfl (by kernel_rfl) ?_; conv => whnf)
  try (refine AW_draw tok hP ?_; conv => whnf)
  first | refine AQ_int (fun sK QK hK => fracLeast2 (n := 1) (d := 1) (m := 2) (e := 1) (by decide) (by decide) (by decide) (by decide) hK) (fun c1 h1 => ?_) | refine fracLeast2 (n := 1) (d := 1) (m := 2) (e := 1) (by decide) (by decide) (by decide) (by decide) (fun c1 h1 => ?_)
  conv => whnf
  try (refine And.intro (OkD.mk (by kernel_rfl)) ?_; conv => whnf)
  obtain rfl : c1 = -1 := by rw [h1]; decide
  conv => whnf
  try (refine AW_draw tok hP ?_; conv => whnf)
  first | refine AQ_int (fun sK QK hK => fracLeast2 (n := 1) (d := 1) (m := 1) (e := 1) (by decide) (by decide) (by decide) (by decide) hK) (fun c2 h2 => ?_) | refine fracLeast2 (n := 1) (d := 1) (m := 1) (e := 1) (by decide) (by decide) (by decide) (by decide) (fun c2 h2 => ?_)
  conv => whnf
  try (refine And.intro (OkD.mk (by kernel_rfl)) ?_; conv => whnf)
  obtain rfl : c2 = 0 := by rw [h2]; decide
  conv => whnf
  repeat' first
    | (refine AW_draw tok hP ?_; conv => whnf)
    | (refine And.intro (OkD.mk (by kernel_rfl)) ?_; conv => whnf)
    | (refine AC_body tok 12 Try.func65 rfl (by kernel_rfl) ?_; conv => whnf)
    | (refine AC_body tok 12 Try.func66 rfl (by kernel_rfl) ?_; conv => whnf)
  try (refine AW_draw tok hP ?_; conv => whnf)
  first | refine AQ_bool (fun sK QK hK => fracSame (n := 2) (d := 1) (m := 1) (e := 1) (by decide) (by decide) (by decide) (by decide) hK) (fun c3 h3 => ?_) | refine fracSame (n := 2) (d := 1) (m := 1) (e := 1) (by decide) (by decide) (by decide) (by decide) (fun c3 h3 => ?_)
  conv => whnf
  try (refine And.intro (OkD.mk (by kernel_rfl)) ?_; conv => whnf)
  obtain rfl : c3 = false := by rw [h3]; decide
  conv => whnf
  repeat' first
    | (refine AW_draw tok hP ?_; conv => whnf)
    | (refine And.intro (OkD.mk (by kernel_rfl)) ?_; conv => whnf)
    | (refine AC_body tok 12 Try.func66 rfl (by kernel_rfl) ?_; conv => whnf)
  try (refine AW_draw tok hP ?_; conv => whnf)
  first | refine AQ_bool (fun sK QK hK => fracSame (n := 1) (d := 1) (m := 1) (e := 1) (by decide) (by decide) (by decide) (by decide) hK) (fun c4 h4 => ?_) | refine fracSame (n := 1) (d := 1) (m := 1) (e := 1) (by decide) (by decide) (by decide) (by decide) (fun c4 h4 => ?_)
  conv => whnf
  try (refine And.intro (OkD.mk (by kernel_rfl)) ?_; conv => whnf)
  obtain rfl : c4 = true := by rw [h4]; decide
  conv => whnf
  exact ⟨rfl, rfl, hq⟩
theorem awake03 {s : List Ob} {Q : AV → List Ob → Prop} (hq : Q (.bool true) s) : AC Try.prog 26 [] s Q := by
  refine AC_pure rfl ?_
  refine AC_body tok 3 Try.func26 rfl (by kernel_rfl) ?_
  conv => whnf
  try (refine AW_draw tok hP ?_; conv => whnf)
  first | refine AQ_pure (fun sK QK hK => fracMake (n := 1) (d := -3) (by decide) (by decide) (fun a b ok e => by rw [show makeF 1 (-3) = (-1, 3, true) from rfl] at e; simp only [Prod.mk.injEq] at e; rw [e.1, e.2.1, e.2.2]; exact hK)) ?_ | refine AC_pureR (fun sK QK hK => fracMake (n := 1) (d := -3) (by decide) (by decide) (fun a b ok e => by rw [show makeF 1 (-3) = (-1, 3, true) from rfl] at e; simp only [Prod.mk.injEq] at e; rw [e.1, e.2.1, e.2.2]; exact hK)) ?_
  conv => whnf
  try (refine And.intro (OkD.mk (by kernel_rfl)) ?_; conv => whnf)
  try (refine AW_draw tok hP ?_; conv => whnf)
  first | refine AQ_bool (fun sK QK hK => fracLess (by decide) (by decide) (by decide) (by decide) hK) (fun c1 h1 => ?_) | refine fracLess (by decide) (by decide) (by decide) (by decide) (fun c1 h1 => ?_)
  conv => whnf
  try (refine And.intro (OkD.mk (by kernel_rfl)) ?_; conv => whnf)
  obtain rfl : c1 = true := by rw [h1]; decide
  conv => whnf
  try (refine AW_draw tok hP ?_; conv => whnf)
  first | refine AQ_int (fun sK QK hK => fracAt (by decide) (by decide) (by decide) hK) (fun c2 h2 => ?_) | refine fracAt (by decide) (by decide) (by decide) (fun c2 h2 => ?_)
  conv => whnf
  try (refine And.intro (OkD.mk (by kernel_rfl)) ?_; conv => whnf)
  obtain rfl : c2 = -4 := by rw [h2]; decide
  conv => whnf
  refine leastC ?_ rfl
  conv => whnf
  exact ⟨rfl, hq⟩
theorem lawFracOrder (avs : List AV) (obs : List Ob) (ha : ArgC 0 [.flat (.ik .i64), .flat (.ik .i64), .flat (.ik .i64), .flat (.ik .i64), .flat (.ik .i64), .flat (.ik .i64), .flat (.ik .i64)] avs obs) : AC Try.prog 6 (groupK [some 2, some 2, some 2, none] avs) obs fun r _ => r = .bool true := by
  cases ha with | int w1 ha => cases ha with | int w2 ha => cases ha with | int w3 ha => cases ha with | int w4 ha => cases ha with | int w5 ha => cases ha with | int w6 ha => cases ha with | int w7 ha =>
  cases ha
  rename_i n d m e k f v
  replace w1 : I64 n := wf_i64 w1
  replace w2 : I64 d := wf_i64 w2
  replace w3 : I64 m := wf_i64 w3
  replace w4 : I64 e := wf_i64 w4
  replace w5 : I64 k := wf_i64 w5
  replace w6 : I64 f := wf_i64 w6
  replace w7 : I64 v := wf_i64 w7
  refine AC_body tok 3 Try.func6 rfl (by kernel_rfl) ?_
  conv => whnf
  generalize hB : decide ((_ : Int) < 1) = bB
  replace hB : decide (d < 1) = bB := hB
  by_cases g1 : d < 1
  · rw [decide_eq_true g1] at hB; subst hB
    conv => whnf
    exact awake03 rfl
  rw [decide_eq_false g1] at hB; subst hB
  conv => whnf
  generalize hB : decide ((_ : Int) < 1) = bB
  replace hB : decide (e < 1) = bB := hB
  by_cases g2 : e < 1
  · rw [decide_eq_true g2] at hB; subst hB
    conv => whnf
    exact awake03 rfl
  rw [decide_eq_false g2] at hB; subst hB
  conv => whnf
  generalize hB : decide ((_ : Int) < 1) = bB
  replace hB : decide (f < 1) = bB := hB
  by_cases g3 : f < 1
  · rw [decide_eq_true g3] at hB; subst hB
    conv => whnf
    exact awake03 rfl
  rw [decide_eq_false g3] at hB; subst hB
  conv => whnf
  generalize hB : decide ((_ : Int) < 0) = bB
  replace hB : decide (v < 0) = bB := hB
  by_cases g4 : v < 0
  · rw [decide_eq_true g4] at hB; subst hB
    conv => whnf
    exact awake03 rfl
  rw [decide_eq_false g4] at hB; subst hB
  conv => whnf
  have hd : d > 0 := by omega
  have he : e > 0 := by omega
  have hf : f > 0 := by omega
  try (refine AW_draw tok hP ?_; conv => whnf)
  first | refine AQ_bool (fun sK QK hK => fracLess w1 w2 w3 w4 hK) (fun x hx => ?_) | refine fracLess w1 w2 w3 w4 (fun x hx => ?_)
  conv => whnf
  try (refine And.intro (OkD.mk (by kernel_rfl)) ?_; conv => whnf)
  try (refine AW_draw tok hP ?_; conv => whnf)
  first | refine AQ_bool (fun sK QK hK => fracLess w3 w4 w1 w2 hK) (fun y hy => ?_) | refine fracLess w3 w4 w1 w2 (fun y hy => ?_)
  conv => whnf
  try (refine And.intro (OkD.mk (by kernel_rfl)) ?_; conv => whnf)
  try (refine AW_draw tok hP ?_; conv => whnf)
  first | refine AQ_bool (fun sK QK hK => fracSame w1 w2 w3 w4 hK) (fun z hz => ?_) | refine fracSame w1 w2 w3 w4 (fun z hz => ?_)
  conv => whnf
  try (refine And.intro (OkD.mk (by kernel_rfl)) ?_; conv => whnf)
  have p1 := PF.held_lt (n := n) (m := m) hd he
  have p2 := PF.held_lt (n := m) (m := n) he hd
  have p3 := PF.held_eq (n := n) (m := m) hd he
  have tr : (x = true ∧ y = false ∧ z = false ∧ n * e < m * d) ∨ (x = false ∧ y = false ∧ z = true ∧ n * e = m * d) ∨ (x = false ∧ y = true ∧ z = false ∧ m * d < n * e) := by
    rw [hx, hy, hz]
    simp only [decide_eq_true_eq, decide_eq_false_iff_not, beq_iff_eq, beq_eq_false_iff_ne, p1, p2, p3, ne_eq]
    omega
  have la : ∀ l, l = decide (heldF n d n d < 0) → l = false := fun l q => by rw [q, decide_eq_false_iff_not, PF.held_lt hd hd]; omega
  have sa : ∀ l, l = (heldF n d n d == 0) → l = true := fun l q => by rw [q, beq_iff_eq, PF.held_eq hd hd]
  rcases tr with ⟨rfl, rfl, rfl, q⟩ | ⟨rfl, rfl, rfl, q⟩ | ⟨rfl, rfl, rfl, q⟩
  all_goals
    conv => whnf
    try (refine AW_draw tok hP ?_; conv => whnf)
    first | refine AQ_bool (fun sK QK hK => fracLess w1 w2 w1 w2 hK) (fun l hl => ?_) | refine fracLess w1 w2 w1 w2 (fun l hl => ?_)
    conv => whnf
    try (refine And.intro (OkD.mk (by kernel_rfl)) ?_; conv => whnf)
    obtain rfl := la l hl
    conv => whnf
    try (refine AW_draw tok hP ?_; conv => whnf)
    first | refine AQ_bool (fun sK QK hK => fracSame w1 w2 w1 w2 hK) (fun r hr => ?_) | refine fracSame w1 w2 w1 w2 (fun r hr => ?_)
    conv => whnf
    try (refine And.intro (OkD.mk (by kernel_rfl)) ?_; conv => whnf)
    obtain rfl := sa r hr
    conv => whnf
  · try (refine AW_draw tok hP ?_; conv => whnf)
    first | refine AQ_bool (fun sK QK hK => fracLess w3 w4 w5 w6 hK) (fun u hu => ?_) | refine fracLess w3 w4 w5 w6 (fun u hu => ?_)
    conv => whnf
    try (refine And.intro (OkD.mk (by kernel_rfl)) ?_; conv => whnf)
    have at1 := PF.at_mono (v := v) (by omega) hd he (Int.le_of_lt q)
    have key : u = true → ∀ t, t = decide (heldF n d k f < 0) → t = true := by
      rintro rfl t rfl
      rw [decide_eq_true_iff, PF.held_lt hd hf]
      have := of_decide_eq_true hu.symm
      rw [PF.held_lt he hf] at this
      exact PF.lt_trans hd he hf q this
    cases u
    case' false =>
      conv => whnf
    case' true =>
      conv => whnf
      try (refine AW_draw tok hP ?_; conv => whnf)
      first | refine AQ_bool (fun sK QK hK => fracLess w1 w2 w5 w6 hK) (fun t ht => ?_) | refine fracLess w1 w2 w5 w6 (fun t ht => ?_)
      conv => whnf
      try (refine And.intro (OkD.mk (by kernel_rfl)) ?_; conv => whnf)
      obtain rfl := key rfl t ht
      conv => whnf
    all_goals
      try (refine And.intro (OkD.mk (by kernel_rfl)) ?_; conv => whnf)
      try (refine AW_draw tok hP ?_; conv => whnf)
      first | refine AQ_int (fun sK QK hK => fracAt w7 w1 w2 hK) (fun a1 ha1 => ?_) | refine fracAt w7 w1 w2 (fun a1 ha1 => ?_)
      conv => whnf
      try (refine And.intro (OkD.mk (by kernel_rfl)) ?_; conv => whnf)
      try (refine AW_draw tok hP ?_; conv => whnf)
      first | refine AQ_int (fun sK QK hK => fracAt w7 w3 w4 hK) (fun a2 ha2 => ?_) | refine fracAt w7 w3 w4 (fun a2 ha2 => ?_)
      conv => whnf
      try (refine And.intro (OkD.mk (by kernel_rfl)) ?_; conv => whnf)
      rw [decide_eq_true (show a1 ≤ a2 by rw [ha1, ha2]; exact at1)]
      conv => whnf
      try (refine AW_draw tok hP ?_; conv => whnf)
      first | refine AQ_pure (fun sK QK hK => awake03 hK) ?_ | refine awake03 ?_
      conv => whnf
      try (refine And.intro (OkD.mk (by kernel_rfl)) ?_; conv => whnf)
  · have at1 := PF.at_eq (v := v) (by omega) hd he q
    try (refine AW_draw tok hP ?_; conv => whnf)
    first | refine AQ_bool (fun sK QK hK => fracLess w1 w2 w5 w6 hK) (fun u hu => ?_) | refine fracLess w1 w2 w5 w6 (fun u hu => ?_)
    conv => whnf
    try (refine And.intro (OkD.mk (by kernel_rfl)) ?_; conv => whnf)
    try (refine AW_draw tok hP ?_; conv => whnf)
    first | refine AQ_bool (fun sK QK hK => fracLess w3 w4 w5 w6 hK) (fun t ht => ?_) | refine fracLess w3 w4 w5 w6 (fun t ht => ?_)
    conv => whnf
    try (refine And.intro (OkD.mk (by kernel_rfl)) ?_; conv => whnf)
    have key : u = t := by rw [hu, ht]; exact decide_eq_decide.2 (by rw [PF.held_lt hd hf, PF.held_lt he hf]; exact PF.eq_lt hd he hf q)
    rw [show (u == t) = true by rw [key]; exact beq_self_eq_true t]
    conv => whnf
    try (refine AW_draw tok hP ?_; conv => whnf)
    first | refine AQ_int (fun sK QK hK => fracAt w7 w1 w2 hK) (fun a1 ha1 => ?_) | refine fracAt w7 w1 w2 (fun a1 ha1 => ?_)
    conv => whnf
    try (refine And.intro (OkD.mk (by kernel_rfl)) ?_; conv => whnf)
    try (refine AW_draw tok hP ?_; conv => whnf)
    first | refine AQ_int (fun sK QK hK => fracAt w7 w3 w4 hK) (fun a2 ha2 => ?_) | refine fracAt w7 w3 w4 (fun a2 ha2 => ?_)
    conv => whnf
    try (refine And.intro (OkD.mk (by kernel_rfl)) ?_; conv => whnf)
    rw [show (a1 == a2) = true by rw [ha1, ha2]; exact beq_iff_eq.2 at1]
    conv => whnf
    try (refine AW_draw tok hP ?_; conv => whnf)
    first | refine AQ_pure (fun sK QK hK => awake03 hK) ?_ | refine awake03 ?_
    conv => whnf
    try (refine And.intro (OkD.mk (by kernel_rfl)) ?_; conv => whnf)
  · refine AW_draw tok hP ?_
    conv => whnf
    refine ⟨⟨by kernel_rfl⟩, ?_⟩
    conv => whnf
    try (refine AW_draw tok hP ?_; conv => whnf)
    first | refine AQ_pure (fun sK QK hK => awake03 hK) ?_ | refine awake03 ?_
    conv => whnf
    try (refine And.intro (OkD.mk (by kernel_rfl)) ?_; conv => whnf)
theorem lawFracMid (avs : List AV) (obs : List Ob) (ha : ArgC 0 [.flat (.ik .i32), .flat (.ik .u32), .flat (.ik .i32), .flat (.ik .u32)] avs obs) : AC Try.prog 8 (groupK [none, none, none, none] avs) obs fun r _ => r = .bool true := by
  cases ha with | int w1 ha => cases ha with | int w2 ha => cases ha with | int w3 ha => cases ha with | int w4 ha =>
  cases ha
  rename_i n d0 m e0
  replace w1 := wf_i32 w1
  replace w2 := wf_u32 w2
  replace w3 := wf_i32 w3
  replace w4 := wf_u32 w4
  refine AC_body tok 3 Try.func8 rfl (by kernel_rfl) ?_
  conv => whnf
  have cv : ∀ z : Int, -2147483648 ≤ z → z < 4294967296 → IntKind.i64.wrap z = z := fun z h1 h2 => Z.wrap_iid (by omega) (by omega)
  have sv : ∀ z : Int, 0 ≤ z ∧ z < 4294967296 → ∃ w, Z.add .i64 1 (IntKind.i64.wrap (Z.shr .u32 z 1)) = w ∧ 1 ≤ w ∧ w ≤ 2147483648 := by
    intro z hz
    refine ⟨_, rfl, ?_⟩
    rw [Z.shr_eq 1 rfl, cv _ (by omega) (by omega), show Z.add .i64 1 (z / 2 ^ 1) = 1 + z / 2 ^ 1 from Z.wrap_iid (by omega) (by omega)]
    omega
  obtain ⟨d, hd, d1, d2⟩ := sv d0 w2
  obtain ⟨e, he, e1, e2⟩ := sv e0 w4
  rw [hd, he, cv n (by omega) (by omega), cv m (by omega) (by omega)]
  have ni : I64 n := by unfold I64; omega
  have mi : I64 m := by unfold I64; omega
  have di : I64 d := by unfold I64; omega
  have ei : I64 e := by unfold I64; omega
  have sm : smallF n d ∧ smallF m e := by unfold smallF; omega
  have mb : ∀ {a b : Int}, -2147483648 ≤ a → a ≤ 2147483648 → 1 ≤ b → b ≤ 2147483648 → -4611686018427387904 ≤ a * b ∧ a * b ≤ 4611686018427387904 := by
    intro a b h1 h2 h3 h4
    have b1 : 0 ≤ (a + 2147483648) * b := Int.mul_nonneg (by omega) (by omega)
    have b2 : 0 ≤ (2147483648 - a) * b := Int.mul_nonneg (by omega) (by omega)
    rw [Int.add_mul] at b1
    rw [Int.sub_mul] at b2
    omega
  have m1 := mb (a := n) (b := e) (by omega) (by omega) (by omega) (by omega)
  have m2 := mb (a := m) (b := d) (by omega) (by omega) (by omega) (by omega)
  have f1 : Z.mul .i64 n e = n * e := Z.wrap_iid (by omega) (by omega)
  have f2 : Z.mul .i64 m d = m * d := Z.wrap_iid (by omega) (by omega)
  try (refine AW_draw tok hP ?_; conv => whnf)
  first | refine AQ_pair (fun sK QK hK => fracMid ni di mi ei hK) (fun a b h1 h2 => ?_) | refine fracMid ni di mi ei (fun a b h1 h2 => ?_)
  conv => whnf
  try (refine And.intro (OkD.mk (by kernel_rfl)) ?_; conv => whnf)
  rw [if_pos sm] at h1 h2
  have ai : I64 a := by unfold I64; omega
  have bi : I64 b := by unfold I64; omega
  try (refine AW_draw tok hP ?_; conv => whnf)
  first | refine AQ_int (fun sK QK hK => fracAt di ni di hK) (fun r hr => ?_) | refine fracAt di ni di (fun r hr => ?_)
  conv => whnf
  try (refine And.intro (OkD.mk (by kernel_rfl)) ?_; conv => whnf)
  rw [PF.at_self (by omega) ni] at hr
  rw [show (r != n) = false by rw [hr]; simp]
  conv => whnf
  try (refine AW_draw tok hP ?_; conv => whnf)
  first | refine AQ_bool (fun sK QK hK => fracLess ni di mi ei hK) (fun x hx => ?_) | refine fracLess ni di mi ei (fun x hx => ?_)
  conv => whnf
  try (refine And.intro (OkD.mk (by kernel_rfl)) ?_; conv => whnf)
  have hd0 : d > 0 := by omega
  have he0 : e > 0 := by omega
  rw [show (x == decide (Z.mul .i64 n e < Z.mul .i64 m d)) = true by rw [hx, f1, f2, beq_iff_eq]; exact decide_eq_decide.2 (PF.held_lt hd0 he0)]
  conv => whnf
  have x1 : n * (d + e) = n * d + n * e := Int.mul_add _ _ _
  have x2 : (n + m) * d = n * d + m * d := Int.add_mul _ _ _
  have x3 : (n + m) * e = n * e + m * e := Int.add_mul _ _ _
  have x4 : m * (d + e) = m * d + m * e := Int.mul_add _ _ _
  try (refine AW_draw tok hP ?_; conv => whnf)
  first | refine AQ_bool (fun sK QK hK => fracLess ni di mi ei hK) (fun y hy => ?_) | refine fracLess ni di mi ei (fun y hy => ?_)
  conv => whnf
  try (refine And.intro (OkD.mk (by kernel_rfl)) ?_; conv => whnf)
  have y1 : ∀ t, t = decide (heldF n d a b < 0) → t = decide (n * e < m * d) := fun t q => by rw [q]; exact decide_eq_decide.2 (by rw [PF.held_lt hd0 (by omega), h1, h2]; omega)
  have y2 : ∀ t, t = decide (heldF a b m e < 0) → t = decide (n * e < m * d) := fun t q => by rw [q]; exact decide_eq_decide.2 (by rw [PF.held_lt (by omega) he0, h1, h2]; omega)
  have hy : y = decide (n * e < m * d) := by rw [hy]; exact decide_eq_decide.2 (PF.held_lt hd0 he0)
  by_cases q : n * e < m * d
  · obtain rfl : y = true := by rw [hy]; exact decide_eq_true q
    conv => whnf
    try (refine AW_draw tok hP ?_; conv => whnf)
    first | refine AQ_bool (fun sK QK hK => fracLess ni di ai bi hK) (fun u hu => ?_) | refine fracLess ni di ai bi (fun u hu => ?_)
    conv => whnf
    try (refine And.intro (OkD.mk (by kernel_rfl)) ?_; conv => whnf)
    obtain rfl : u = true := by rw [y1 u hu]; exact decide_eq_true q
    conv => whnf
    try (refine AW_draw tok hP ?_; conv => whnf)
    first | refine AQ_bool (fun sK QK hK => fracLess ai bi mi ei hK) (fun w hw => ?_) | refine fracLess ai bi mi ei (fun w hw => ?_)
    conv => whnf
    try (refine And.intro (OkD.mk (by kernel_rfl)) ?_; conv => whnf)
    obtain rfl : w = true := by rw [y2 w hw]; exact decide_eq_true q
    conv => whnf
    try (refine AW_draw tok hP ?_; conv => whnf)
    first | refine AQ_pure (fun sK QK hK => awake03 hK) ?_ | refine awake03 ?_
    conv => whnf
    try (refine And.intro (OkD.mk (by kernel_rfl)) ?_; conv => whnf)
  · obtain rfl : y = false := by rw [hy]; exact decide_eq_false q
    conv => whnf
    try (refine AW_draw tok hP ?_; conv => whnf)
    first | refine AQ_bool (fun sK QK hK => fracLess ai bi mi ei hK) (fun w hw => ?_) | refine fracLess ai bi mi ei (fun w hw => ?_)
    conv => whnf
    try (refine And.intro (OkD.mk (by kernel_rfl)) ?_; conv => whnf)
    obtain rfl : w = false := by rw [y2 w hw]; exact decide_eq_false q
    conv => whnf
    try (refine AW_draw tok hP ?_; conv => whnf)
    first | refine AQ_bool (fun sK QK hK => fracLess ni di ai bi hK) (fun u hu => ?_) | refine fracLess ni di ai bi (fun u hu => ?_)
    conv => whnf
    try (refine And.intro (OkD.mk (by kernel_rfl)) ?_; conv => whnf)
    obtain rfl : u = false := by rw [y1 u hu]; exact decide_eq_false q
    conv => whnf
    try (refine AW_draw tok hP ?_; conv => whnf)
    first | refine AQ_pure (fun sK QK hK => awake03 hK) ?_ | refine awake03 ?_
    conv => whnf
    try (refine And.intro (OkD.mk (by kernel_rfl)) ?_; conv => whnf)
