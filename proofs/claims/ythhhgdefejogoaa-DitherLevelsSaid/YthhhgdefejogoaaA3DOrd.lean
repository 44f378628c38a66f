/- Part of the proof of a law of the seat: its functions, walked. No condition. -/
import Derived.Test.YthhhgdefejogoaaA3DithP
import Derived.Test.YthhhgdefejogoaaA3Ref52P
import Derived.Test.YthhhgdefejogoaaPOrd
namespace Go.AW.A3
open Go Go.AW Go.Proofs
set_option maxRecDepth 100000
set_option maxHeartbeats 4000000
set_option linter.unusedVariables false
theorem ditPattern {x y : Int} (hx : 0 ≤ x ∧ x < 4) (hy : 0 ≤ y ∧ y < 4) {s : List Ob} {Q : AV → List Ob → Prop} (h : ∀ v, v = patI x y → Q (.int .i64 v) s) : AC Try.prog 51 [.int .i64 x, .int .i64 y] s Q := by
  rcases (show x = 0 ∨ x = 1 ∨ x = 2 ∨ x = 3 by omega) with rfl | rfl | rfl | rfl <;> rcases (show y = 0 ∨ y = 1 ∨ y = 2 ∨ y = 3 by omega) with rfl | rfl | rfl | rfl
  all_goals
    refine AC_pure rfl ?_
    refine AC_body tok 4 Try.func51 rfl (by kernel_rfl) ?_
    conv => whnf
    exact ⟨rfl, h _ (by decide)⟩
theorem ditOrd1 {W H n k c : Int} {rows : List (List Int)} {e : TypeId} {own : Bool} (hl : rows.length ≤ 1000000) (hn : 2 ≤ n ∧ n ≤ 16) (hW : 1 ≤ W ∧ W ≤ 256) (hk : 0 ≤ k ∧ k < rows.length) (hc : c = 0 ∨ c = 1 ∨ c = 2) {x y z : Int} (hr : rows.getD k.toNat [] = [x, y, z]) (hb : bytesB [x, y, z] = true) {i0 i1 : Nat} (hi : [i0, i1].Nodup) {s : List Ob} (hs : s[i0]? = some (.row own e [.ik .i64, .ik .i64, .ik .i64] rows)) (hs1 : s[i1]? = some (.cells 0 [.int .i64 W, .int .i64 H, .sl i0 0 rows.length none])) {Q : AV → List Ob → Prop}
    (h : ∀ v, v = atN n ([x, y, z].getD c.toNat 0 + offI n (k % W % 4) (k / W % 4)) → Q (.int .i64 v) s) : AC Try.prog 50 [.int .i64 n, .int .i64 k, .int .i64 c, .ptr i1 0 0] s Q := by
  refine AC_rd (args' := [.int .i64 n, .int .i64 k, .int .i64 c, .ptr 1 0 0]) (L := [.row own e [.ik .i64, .ik .i64, .ik .i64] rows, .cells 0 [.int .i64 W, .int .i64 H, .sl 0 0 rows.length none]]) [i0, i1] hi rfl (by rintro (_ | _ | i') j ob h1 h2 <;> simp at h1 h2 <;> subst h1 h2 <;> assumption) ?_
  simp only [bytesB, byteB, List.all_cons, List.all_nil, Bool.and_true, Bool.and_eq_true, decide_eq_true_eq] at hb
  cases own
  all_goals
    refine AC_body tok 4 Try.func50 rfl (by kernel_rfl) ?_
    conv => whnf
    have q1 : Z.rem .i64 k W = k % W := Int.tmod_eq_emod_of_nonneg hk.1
    have q2 : Z.quo .i64 k W = k / W := quo_pos (by omega) (by omega) (by omega)
    try (refine AW_draw tok hP ?_; conv => whnf)
    refine nzI (by omega) ?_
    conv => whnf
    refine nzI (by omega) ?_
    conv => whnf
    have m1 := Int.emod_nonneg k (show W ≠ 0 by omega)
    have m2 := Int.emod_lt_of_pos k (show 0 < W by omega)
    have m3 := Int.ediv_nonneg hk.1 (show 0 ≤ W by omega)
    have q3 : Z.rem .i64 (Z.rem .i64 k W) 4 = k % W % 4 := by rw [q1]; exact Int.tmod_eq_emod_of_nonneg m1
    have q4 : Z.rem .i64 (Z.quo .i64 k W) 4 = k / W % 4 := by rw [q2]; exact Int.tmod_eq_emod_of_nonneg m3
    rw [q3, q4]
    obtain ⟨a, ea, ha⟩ : ∃ a, a = k % W % 4 ∧ 0 ≤ a ∧ a < 4 := ⟨_, rfl, by omega, by omega⟩
    obtain ⟨b, eb, hb4⟩ : ∃ b, b = k / W % 4 ∧ 0 ≤ b ∧ b < 4 := ⟨_, rfl, by omega, by omega⟩
    rw [← ea, ← eb] at h
    rw [← ea, ← eb]
    try (refine AW_draw tok hP ?_; conv => whnf)
    first | refine AQ_int (fun sK QK hK => ditPattern ha hb4 hK) (fun p hp => ?_) | refine ditPattern ha hb4 (fun p hp => ?_)
    conv => whnf
    try (refine And.intro (OkD.mk (by kernel_rfl)) ?_; conv => whnf)
    have pb := PD.pat_b ha hb4
    have ob := PD.off_b hn ha hb4
    rcases hc with rfl | rfl | rfl
    all_goals
      try (refine AW_draw tok hP ?_; conv => whnf)
      refine ixI hk.1 hk.2 ?_
      conv => whnf
      refine rowI hk.1 hk.2 ?_
      conv => whnf
      rw [Nat.zero_add k.toNat, hr]
      first | rw [show ([x, y, z] : List Int).tail.tail.headD 0 = z from rfl] | rw [show ([x, y, z] : List Int).tail.headD 0 = y from rfl] | rw [show ([x, y, z] : List Int).headD 0 = x from rfl]
      have e1 : Z.mul .i64 (Z.add .i64 (Z.sub .i64 (Z.add .i64 p p) 16) 1) 255 = (2 * p - 15) * 255 := by
        rw [show Z.add .i64 p p = p + p from Z.wrap_iid (by omega) (by omega), show Z.sub .i64 (p + p) 16 = p + p - 16 from Z.wrap_iid (by omega) (by omega), show Z.add .i64 (p + p - 16) 1 = p + p - 16 + 1 from Z.wrap_iid (by omega) (by omega), show p + p - 16 + 1 = 2 * p - 15 by omega]
        exact Z.wrap_iid (by omega) (by omega)
      have e2 : Z.mul .i64 32 (Z.sub .i64 n 1) = 32 * (n - 1) := by rw [show Z.sub .i64 n 1 = n - 1 from Z.wrap_iid (by omega) (by omega)]; exact Z.wrap_iid (by omega) (by omega)
      rw [e1, e2]
      try (refine AW_draw tok hP ?_; conv => whnf)
      first | refine AQ_int (fun sK QK hK => numDiv (by omega) (by omega) hK) (fun o ho => ?_) | refine numDiv (by omega) (by omega) (fun o ho => ?_)
      conv => whnf
      try (refine And.intro (OkD.mk (by kernel_rfl)) ?_; conv => whnf)
      replace ho : o = offI n a b := by rw [ho, hp]; unfold divI offI; rw [if_neg (by omega)]
      first | rw [show Z.add .i64 x o = x + o from Z.wrap_iid (by omega) (by omega)] | rw [show Z.add .i64 y o = y + o from Z.wrap_iid (by omega) (by omega)] | rw [show Z.add .i64 z o = z + o from Z.wrap_iid (by omega) (by omega)]
      try (refine AW_draw tok hP ?_; conv => whnf)
      first | refine AQ_int (fun sK QK hK => ditAt2 hn (by omega) hK) (fun v hv => ?_) | refine ditAt2 hn (by omega) (fun v hv => ?_)
      conv => whnf
      try (refine And.intro (OkD.mk (by kernel_rfl)) ?_; conv => whnf)
      exact ⟨rfl, rfl, h _ (by rw [hv, ho]; rfl)⟩
theorem refOffset {n x y : Int} (hn : 2 ≤ n ∧ n ≤ 16) (hx : 0 ≤ x ∧ x < 1000000) (hy : 0 ≤ y ∧ y < 1000000) {s : List Ob} {Q : AV → List Ob → Prop} (h : ∀ v, v = offI n (x % 4) (y % 4) → Q (.int .i64 v) s) : AC Try.prog 52 [.int .i64 x, .int .i64 y, .int .i64 n] s Q := by
  refine AC_pure rfl ?_
  refine AC_body tok 4 Try.func52 rfl (by kernel_rfl) ?_
  conv => whnf
  obtain ⟨a, ea, ha⟩ : ∃ a, a = x % 4 ∧ 0 ≤ a ∧ a < 4 := ⟨_, rfl, by omega, by omega⟩
  obtain ⟨b, eb, hb⟩ : ∃ b, b = y % 4 ∧ 0 ≤ b ∧ b < 4 := ⟨_, rfl, by omega, by omega⟩
  rw [show Z.rem .i64 y 4 = b by rw [eb]; exact Int.tmod_eq_emod_of_nonneg hy.1, show Z.rem .i64 x 4 = a by rw [ea]; exact Int.tmod_eq_emod_of_nonneg hx.1]
  rw [← ea, ← eb] at h
  clear ea eb
  have key : ∀ p : Int, p = patI a b → 0 ≤ p ∧ p ≤ 15 → (∀ v, v = divI ((2 * p - 15) * 255) (32 * (n - 1)) → Q (.int .i64 v) s) := fun p hp hb v hv => h _ (by rw [hv, hp]; unfold divI offI; rw [if_neg (by omega)])
  rcases (show a = 0 ∨ a = 1 ∨ a = 2 ∨ a = 3 by omega) with rfl | rfl | rfl | rfl <;> rcases (show b = 0 ∨ b = 1 ∨ b = 2 ∨ b = 3 by omega) with rfl | rfl | rfl | rfl
  all_goals
    conv => whnf
    rw [show Z.mul .i64 32 (Z.sub .i64 n 1) = 32 * (n - 1) by rw [show Z.sub .i64 n 1 = n - 1 from Z.wrap_iid (by omega) (by omega)]; exact Z.wrap_iid (by omega) (by omega)]
    refine refDiv (by decide) (by decide) (fun v hv => ?_)
    conv => whnf
    exact ⟨rfl, key _ rfl (by decide) v (hv.trans (congrArg (fun q => divI q _) (by decide)))⟩
theorem ditOrdered {W H n : Int} {rows : List (List Int)} {e : TypeId} {own : Bool} (hl : rows.length ≤ 1000000) (hfit : Fit3 rows) (hn : 2 ≤ n ∧ n ≤ 16) (hp : picB W H rows = true) {i : Nat} {s : List Ob} (hs : s[i]? = some (.row own e [.ik .i64, .ik .i64, .ik .i64] rows)) {Q : AV → List Ob → Prop}
    (h : Q (.agg [.int .i64 W, .int .i64 H, .sl s.length 0 rows.length none]) (s ++ [.row true 38 [.ik .i64, .ik .i64, .ik .i64] (ordR n W rows)])) : AC Try.prog 21 [.agg [.int .i64 W, .int .i64 H, .sl i 0 rows.length none], .int .i64 n] s Q := by
  refine AC_mk1 (args' := [.agg [.int .i64 W, .int .i64 H, .sl 0 0 rows.length none], .int .i64 n]) (L := [.row own e [.ik .i64, .ik .i64, .ik .i64] rows]) [i] (by simp) rfl rfl (by rintro (_ | i') j ob h1 h2 <;> simp at h1 h2; subst h1 h2; exact hs) (.agg [.int .i64 W, .int .i64 H, .sl 1 0 rows.length none]) 5 (by simp) ?_
  refine AC_body tok 4 Try.func21 rfl (by kernel_rfl) ?_
  conv => whnf
  refine AC_body tok 0 Try.func41 rfl (by kernel_rfl) ?_
  conv => whnf
  refine ditGiven (fun v hv => ?_)
  conv => whnf
  obtain rfl : v = true := by rw [hv]; exact decide_eq_true hn
  conv => whnf
  refine picRight (by omega) hfit (by rfl) (fun v hv => ?_)
  conv => whnf
  rw [hp] at hv
  subst hv
  conv => whnf
  try (refine AW_draw tok hP ?_; conv => whnf)
  refine andI (by simp; omega) ?_
  conv => whnf
  refine ⟨⟨by kernel_rfl⟩, ?_⟩
  conv => whnf
  have pl : (ordR n W rows).length = rows.length := PD.ord_len n W rows
  obtain ⟨w1, w2, w3⟩ := PPi.pic_sides hp
  have e0 : fillU (ordR n W rows) (0 : Int).toNat = List.replicate ((rows.length : Nat) : Int).toNat [0, 0, 0] := by rw [show (0 : Int).toNat = 0 from rfl, PR.fill_zero, pl]; rfl
  refine ALs.lp (ι := Int) tok 4 [33] (fun k => [.int .i64 k]) [5] (fun k => [.row true 38 [.ik .i64, .ik .i64, .ik .i64] (fillU (ordR n W rows) k.toNat)]) (fun _ => ()) (fun k => 0 ≤ k ∧ k ≤ rows.length) (fun k => (rows.length - k).toNat) (0) (⟨by omega, by omega⟩) (by rfl) (by rw [e0]; rfl) rfl (Nat.le_of_ble_eq_true rfl) (fun _ => rfl) ?_
  rintro k ⟨k0, k1⟩
  conv => whnf
  by_cases dk : k < rows.length
  · refine ifT (decide_eq_true dk) ?_
    conv => whnf
    obtain ⟨x, y, z, er, hx, hy, hz⟩ := hfit k.toNat (by omega)
    have hb := PPi.pic_at hp (k := k.toNat) (by omega)
    rw [er] at hb
    have hk : 0 ≤ k ∧ k < rows.length := ⟨k0, dk⟩
    have fl : (fillU (ordR n W rows) k.toNat).length = rows.length := by rw [PR.fill_len _ (by omega), pl]
    obtain ⟨v0, e0⟩ : ∃ v, v = atN n (x + offI n (k % W % 4) (k / W % 4)) := ⟨_, rfl⟩
    obtain ⟨v1, e1⟩ : ∃ v, v = atN n (y + offI n (k % W % 4) (k / W % 4)) := ⟨_, rfl⟩
    obtain ⟨v2, e2⟩ : ∃ v, v = atN n (z + offI n (k % W % 4) (k / W % 4)) := ⟨_, rfl⟩
    try (refine AW_draw tok hP ?_; conv => whnf)
    refine AQ_read [0, 1] (r := .int .i64 v0) (fun s' Q hl hC h => ditOrd1 (by omega) hn w1 hk (by decide) er hb (by decide) ((hC 0 (by decide)).trans rfl) ((hC 1 (by decide)).trans rfl) (fun v hv => by obtain rfl : v = v0 := hv.trans e0.symm; exact h)) ?_
    conv => whnf
    refine ixI k0 (by omega) ?_
    conv => whnf
    refine andP (by repeat rw [List.length_set]
                    rw [fl]; omega) ?_
    conv => whnf
    refine ⟨⟨by kernel_rfl⟩, ?_⟩
    conv => whnf
    try (refine AW_draw tok hP ?_; conv => whnf)
    refine AQ_read [0, 1] (r := .int .i64 v1) (fun s' Q hl hC h => ditOrd1 (by omega) hn w1 hk (by decide) er hb (by decide) ((hC 0 (by decide)).trans rfl) ((hC 1 (by decide)).trans rfl) (fun v hv => by obtain rfl : v = v1 := hv.trans e1.symm; exact h)) ?_
    conv => whnf
    refine ixI k0 (by omega) ?_
    conv => whnf
    refine andP (by repeat rw [List.length_set]
                    rw [fl]; omega) ?_
    conv => whnf
    refine ⟨⟨by kernel_rfl⟩, ?_⟩
    conv => whnf
    try (refine AW_draw tok hP ?_; conv => whnf)
    refine AQ_read [0, 1] (r := .int .i64 v2) (fun s' Q hl hC h => ditOrd1 (by omega) hn w1 hk (by decide) er hb (by decide) ((hC 0 (by decide)).trans rfl) ((hC 1 (by decide)).trans rfl) (fun v hv => by obtain rfl : v = v2 := hv.trans e2.symm; exact h)) ?_
    conv => whnf
    refine ixI k0 (by omega) ?_
    conv => whnf
    refine andP (by repeat rw [List.length_set]
                    rw [fl]; omega) ?_
    conv => whnf
    refine ⟨⟨by kernel_rfl⟩, ?_⟩
    conv => whnf
    have et : (ordR n W rows).getD k.toNat [] = [v0, v1, v2] := by rw [PD.ord_at _ _ _ (by omega), er, e0, e1, e2]; unfold ordRow; rw [show ((k.toNat : Nat) : Int) = k by omega]; rfl
    have ek : Z.add .i64 k 1 = k + 1 := Z.wrap_iid (by omega) (by omega)
    refine ⟨k + 1, [.int .i64 (Z.add .i64 k 1)], [.row true _ _ _], _, rfl, rfl, rfl, ?_, ?_, ?_⟩
    · exact (by rw [ek])
    · exact (by rw [Nat.zero_add, PR.fill_set3 (ordR n W rows) (k := k.toNat) (by omega) et rfl rfl, show (k + 1).toNat = k.toNat + 1 by omega])
    · exact ⟨by omega, by omega, by omega⟩
  · refine ifF (decide_eq_false dk) ?_
    conv => whnf
    refine AWs.go tok 0 ?_
    conv => whnf
    refine ⟨rfl, rfl, rfl, ?_⟩
    rw [PR.fill_all _ (by omega)]
    exact h
theorem refOrd52 {W H n : Int} {rows : List (List Int)} {e : TypeId} {own : Bool} (hl : rows.length ≤ 1000000) (hfit : Fit3 rows) (hn : 2 ≤ n ∧ n ≤ 16) (hp : picB W H rows = true) {i : Nat} {s : List Ob} (hs : s[i]? = some (.row own e [.ik .i64, .ik .i64, .ik .i64] rows)) {Q : AV → List Ob → Prop}
    (h : Q (.agg [.int .i64 W, .int .i64 H, .sl s.length 0 rows.length none]) (s ++ [.row true 38 [.ik .i64, .ik .i64, .ik .i64] (ordR n W rows)])) : AC Try.prog 22 [.agg [.int .i64 W, .int .i64 H, .sl i 0 rows.length none], .int .i64 n] s Q := by
  refine AC_mk1 (args' := [.agg [.int .i64 W, .int .i64 H, .sl 0 0 rows.length none], .int .i64 n]) (L := [.row own e [.ik .i64, .ik .i64, .ik .i64] rows]) [i] (by simp) rfl rfl (by rintro (_ | i') j ob h1 h2 <;> simp at h1 h2; subst h1 h2; exact hs) (.agg [.int .i64 W, .int .i64 H, .sl 1 0 rows.length none]) 6 (by simp) ?_
  refine AC_body tok 0 Try.func22 rfl (by kernel_rfl) ?_
  conv => whnf
  refine refMay hl hfit (by rfl) (fun v hv => ?_)
  conv => whnf
  rw [hp, decide_eq_true hn] at hv
  subst hv
  conv => whnf
  obtain ⟨w1, w2, w3⟩ := PPi.pic_sides hp
  have hlen : 0 < (rows.length : Int) := by have m := PV.mul_le (a := W) (b := H) (A := 256) (B := 256) (by omega) (by omega); have := Int.mul_pos (show 0 < W by omega) (show 0 < H by omega); omega
  refine ALs.round tok 0 ?_
  conv => whnf
  rw [decide_eq_true hlen]
  conv => whnf
  try (refine AW_draw tok hP ?_; conv => whnf)
  refine nzI (by omega) ?_
  conv => whnf
  refine nzI (by omega) ?_
  conv => whnf
  have m1 := Int.emod_nonneg (0 : Int) (show W ≠ 0 by omega)
  have m2 := Int.emod_lt_of_pos (0 : Int) (show 0 < W by omega)
  have m3 := Int.ediv_nonneg (show 0 ≤ (0 : Int) by omega) (show 0 ≤ W by omega)
  have m4 := Int.ediv_le_self W (show 0 ≤ (0 : Int) by omega)
  rw [show Z.rem .i64 (0 : Int) W = (0 : Int) % W from Int.tmod_eq_emod_of_nonneg (by omega), show Z.quo .i64 (0 : Int) W = (0 : Int) / W from quo_pos (by omega) (by omega) (by omega)]
  try (refine AW_draw tok hP ?_; conv => whnf)
  first | refine AQ_int (fun sK QK hK => refOffset hn (by omega) (by omega) hK) (fun o ho => ?_) | refine refOffset hn (by omega) (by omega) (fun o ho => ?_)
  conv => whnf
  try (refine And.intro (OkD.mk (by kernel_rfl)) ?_; conv => whnf)
  have ob := PD.off_b hn (show 0 ≤ (0 : Int) % W % 4 ∧ (0 : Int) % W % 4 < 4 by omega) (show 0 ≤ (0 : Int) / W % 4 ∧ (0 : Int) / W % 4 < 4 by omega)
  rw [← ho] at ob
  refine ixI (by omega) hlen ?_
  conv => whnf
  refine rowI (by omega) hlen ?_
  conv => whnf
  obtain ⟨x, y, z, er, hx, hy, hz⟩ := hfit (0 + Int.toNat 0) (by omega)
  have hb := PPi.pic_at hp (k := 0 + Int.toNat 0) (by omega)
  rw [er] at hb
  simp only [bytesB, byteB, List.all_cons, List.all_nil, Bool.and_true, Bool.and_eq_true, decide_eq_true_eq] at hb
  rw [er]
  obtain ⟨v0, e0⟩ : ∃ v, v = atN n (x + o) := ⟨_, rfl⟩
  obtain ⟨v1, e1⟩ : ∃ v, v = atN n (y + o) := ⟨_, rfl⟩
  obtain ⟨v2, e2⟩ : ∃ v, v = atN n (z + o) := ⟨_, rfl⟩
  have et : (ordR n W rows).getD (0 + Int.toNat 0) [] = [v0, v1, v2] := by
    rw [PD.ord_at _ _ _ (by omega), er, e0, e1, e2]
    unfold ordRow
    rw [show ((0 + Int.toNat 0 : Nat) : Int) = (0 : Int) by omega, ← ho]; rfl
  refine AW_drawU tok hP ?_
  conv => whnf
  rw [show Z.add .i64 (([x, y, z] : List Int).headD 0) o = x + o from Z.wrap_iid (by show _ ≤ x + o; omega) (by show x + o < _; omega)]
  refine AQ_pure (r := .int .i64 v0) (fun s Q h => refByte (x := x + o) hn (by omega) (fun v hv => by obtain rfl : v = v0 := hv.trans e0.symm; exact h)) ?_
  conv => whnf
  rw [show Z.add .i64 (([x, y, z] : List Int).tail.headD 0) o = y + o from Z.wrap_iid (by show _ ≤ y + o; omega) (by show y + o < _; omega)]
  refine AQ_pure (r := .int .i64 v1) (fun s Q h => refByte (x := y + o) hn (by omega) (fun v hv => by obtain rfl : v = v1 := hv.trans e1.symm; exact h)) ?_
  conv => whnf
  rw [show Z.add .i64 (([x, y, z] : List Int).tail.tail.headD 0) o = z + o from Z.wrap_iid (by show _ ≤ z + o; omega) (by show z + o < _; omega)]
  refine AQ_pure (r := .int .i64 v2) (fun s Q h => refByte (x := z + o) hn (by omega) (fun v hv => by obtain rfl : v = v2 := hv.trans e2.symm; exact h)) ?_
  conv => whnf
  refine ⟨⟨by kernel_rfl⟩, ?_⟩
  conv => whnf
  have pl : (ordR n W rows).length = rows.length := PD.ord_len n W rows
  have f1 : (ordR n W rows).take (Int.toNat 1) = [[v0, v1, v2]] := by
    have := PR.take_succ (ordR n W rows) [] (k := 0) (by omega)
    rw [show (Int.toNat 1) = 0 + 1 from rfl, ← this, show (ordR n W rows).getD 0 [] = [v0, v1, v2] from et]; rfl
  clear et e0 e1 e2 er hb hx hy hz
  refine ALs.lp (ι := Int) tok 12 [6] (fun k => [.int .i64 k]) [3, 6] (fun k => [.cells 0 [.int .i64 W, .int .i64 H, .sl 6 0 k.toNat none], .row true 38 [.ik .i64, .ik .i64, .ik .i64] ((ordR n W rows).take k.toNat)]) (fun _ => ()) (fun k => 1 ≤ k ∧ k ≤ rows.length) (fun k => (rows.length - k).toNat) (1) (⟨by omega, by omega⟩) (by rfl) (by rw [f1]; rfl) rfl (Nat.le_of_ble_eq_true rfl) (fun _ => rfl) ?_
  clear f1
  rintro k ⟨k0, k1⟩
  conv => whnf
  by_cases dk : k < rows.length
  · refine ifT (decide_eq_true dk) ?_
    conv => whnf
    try (refine AW_draw tok hP ?_; conv => whnf)
    refine nzI (by omega) ?_
    conv => whnf
    refine nzI (by omega) ?_
    conv => whnf
    have m1 := Int.emod_nonneg (k : Int) (show W ≠ 0 by omega)
    have m2 := Int.emod_lt_of_pos (k : Int) (show 0 < W by omega)
    have m3 := Int.ediv_nonneg (show 0 ≤ (k : Int) by omega) (show 0 ≤ W by omega)
    have m4 := Int.ediv_le_self W (show 0 ≤ (k : Int) by omega)
    rw [show Z.rem .i64 (k : Int) W = (k : Int) % W from Int.tmod_eq_emod_of_nonneg (by omega), show Z.quo .i64 (k : Int) W = (k : Int) / W from quo_pos (by omega) (by omega) (by omega)]
    try (refine AW_draw tok hP ?_; conv => whnf)
    first | refine AQ_int (fun sK QK hK => refOffset hn (by omega) (by omega) hK) (fun o ho => ?_) | refine refOffset hn (by omega) (by omega) (fun o ho => ?_)
    conv => whnf
    try (refine And.intro (OkD.mk (by kernel_rfl)) ?_; conv => whnf)
    have ob := PD.off_b hn (show 0 ≤ (k : Int) % W % 4 ∧ (k : Int) % W % 4 < 4 by omega) (show 0 ≤ (k : Int) / W % 4 ∧ (k : Int) / W % 4 < 4 by omega)
    rw [← ho] at ob
    refine ixI (by omega) dk ?_
    conv => whnf
    refine rowI (by omega) dk ?_
    conv => whnf
    obtain ⟨x, y, z, er, hx, hy, hz⟩ := hfit (0 + Int.toNat k) (by omega)
    have hb := PPi.pic_at hp (k := 0 + Int.toNat k) (by omega)
    rw [er] at hb
    simp only [bytesB, byteB, List.all_cons, List.all_nil, Bool.and_true, Bool.and_eq_true, decide_eq_true_eq] at hb
    rw [er]
    obtain ⟨v0, e0⟩ : ∃ v, v = atN n (x + o) := ⟨_, rfl⟩
    obtain ⟨v1, e1⟩ : ∃ v, v = atN n (y + o) := ⟨_, rfl⟩
    obtain ⟨v2, e2⟩ : ∃ v, v = atN n (z + o) := ⟨_, rfl⟩
    have et : (ordR n W rows).getD (0 + Int.toNat k) [] = [v0, v1, v2] := by
      rw [PD.ord_at _ _ _ (by omega), er, e0, e1, e2]
      unfold ordRow
      rw [show ((0 + Int.toNat k : Nat) : Int) = (k : Int) by omega, ← ho]; rfl
    refine AW_drawU tok hP ?_
    conv => whnf
    rw [show Z.add .i64 (([x, y, z] : List Int).headD 0) o = x + o from Z.wrap_iid (by show _ ≤ x + o; omega) (by show x + o < _; omega)]
    refine AQ_pure (r := .int .i64 v0) (fun s Q h => refByte (x := x + o) hn (by omega) (fun v hv => by obtain rfl : v = v0 := hv.trans e0.symm; exact h)) ?_
    conv => whnf
    rw [show Z.add .i64 (([x, y, z] : List Int).tail.headD 0) o = y + o from Z.wrap_iid (by show _ ≤ y + o; omega) (by show y + o < _; omega)]
    refine AQ_pure (r := .int .i64 v1) (fun s Q h => refByte (x := y + o) hn (by omega) (fun v hv => by obtain rfl : v = v1 := hv.trans e1.symm; exact h)) ?_
    conv => whnf
    rw [show Z.add .i64 (([x, y, z] : List Int).tail.tail.headD 0) o = z + o from Z.wrap_iid (by show _ ≤ z + o; omega) (by show z + o < _; omega)]
    refine AQ_pure (r := .int .i64 v2) (fun s Q h => refByte (x := z + o) hn (by omega) (fun v hv => by obtain rfl : v = v2 := hv.trans e2.symm; exact h)) ?_
    conv => whnf
    refine ⟨⟨by kernel_rfl⟩, ?_⟩
    conv => whnf
    have tl : (List.take k.toNat (ordR n W rows)).length = k.toNat := by rw [List.length_take]; omega
    refine andI (by rw [tl]; simp; omega) ?_
    conv => whnf
    have ek : Z.add .i64 k 1 = k + 1 := Z.wrap_iid (by omega) (by omega)
    refine ⟨k + 1, [.int .i64 (Z.add .i64 k 1)], [.cells 0 [_, _, .sl 6 0 _ none], .row true _ _ _], _, rfl, rfl, rfl, ?_, ?_, ?_⟩
    · exact (by rw [ek])
    · exact (by { have t1 := PR.take_succ (ordR n W rows) [] (k := k.toNat) (by omega); rw [Nat.zero_add] at et; rw [et] at t1; rw [show (k + 1).toNat = k.toNat + 1 by omega, ← t1]; rfl })
    · exact ⟨by omega, by omega, by omega⟩
  · refine ifF (decide_eq_false dk) ?_
    conv => whnf
    refine AWs.go tok 0 ?_
    conv => whnf
    obtain rfl : k = rows.length := by omega
    refine ⟨rfl, rfl, rfl, ?_⟩
    rw [show ((rows.length : Nat) : Int).toNat = (ordR n W rows).length by rw [pl]; omega, List.take_length]
    exact h
