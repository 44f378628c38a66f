/- Part of the proof of a law of the seat: its functions, walked. No condition. -/
import Derived.Test.YthhhgdefejogoaaA3DithP
import Derived.Test.YthhhgdefejogoaaA3Ref52P
import Derived.Test.YthhhgdefejogoaaPSpr2
namespace Go.AW.A3
open Go Go.AW Go.Proofs
set_option maxRecDepth 100000
set_option maxHeartbeats 8000000
set_option linter.unusedVariables false
theorem ditSpr1_0 {W H n : Int} {k : Nat} {rows : List (List Int)} {e : TypeId} {own : Bool} (hl : rows.length ≤ 1000000) (hn : 2 ≤ n ∧ n ≤ 16) (hW : 1 ≤ W ∧ W ≤ 256) (hH : 1 ≤ H ∧ H ≤ 256) (hwh : (rows.length : Int) = W * H) (hk : k < rows.length) {x y z : Int} (hr : rows.getD k [] = [x, y, z]) (hb : bytesB [x, y, z] = true) {A B C : List Int} (hAl : A.length = rows.length) (hBl : B.length = rows.length) (hCl : C.length = rows.length) (hA : ∀ m, k ≤ m → -100000 ≤ A.getD m 0 ∧ A.getD m 0 ≤ 100000) {l : Int} (hx : l = x + A.getD k 0) (hlb : absD (l - atN n l) ≤ 5000)
    {i0 i1 i2 i3 : Nat} (hi : [i0, i1, i2, i3].Nodup) {s : List Ob} (hs : s[i0]? = some (.row own e [.ik .i64, .ik .i64, .ik .i64] rows)) (hs1 : s[i1]? = some (.cells 0 [.int .i64 W, .int .i64 H, .sl i0 0 rows.length none])) (hs2 : s[i2]? = some (.row true 38 [.ik .i64, .ik .i64, .ik .i64] (zip3 rows.length A B C))) (hs3 : s[i3]? = some (.cells 0 [.sl i2 0 rows.length none])) {Q : AV → List Ob → Prop}
    (h : ∀ v, v = atN n l → Q (.int .i64 v) (s.set i2 (.row true 38 [.ik .i64, .ik .i64, .ik .i64] (zip3 rows.length (handOn W.toNat H.toNat k (l - atN n l) A) B C)))) : AC Try.prog 46 [.int .i64 n, .int .i64 k, .int .i64 0, .ptr i1 0 0, .ptr i3 0 0] s Q := by
  refine AC_upd (args' := [.int .i64 n, .int .i64 k, .int .i64 0, .ptr 1 0 0, .ptr 3 0 0]) (L := [.row own e [.ik .i64, .ik .i64, .ik .i64] rows, .cells 0 [.int .i64 W, .int .i64 H, .sl 0 0 rows.length none], .row true 38 [.ik .i64, .ik .i64, .ik .i64] (zip3 rows.length A B C), .cells 0 [.sl 2 0 rows.length none]]) [i0, i1, i2, i3] hi rfl (fun _ => rfl) (by rintro (_ | _ | _ | _ | i') j ob h1 h2 <;> simp at h1 h2 <;> subst h1 h2 <;> assumption) 2 i2 rfl ?_
  simp only [bytesB, byteB, List.all_cons, List.all_nil, Bool.and_true, Bool.and_eq_true, decide_eq_true_eq] at hb
  have zl := PS.zip_len rows.length A B C
  have za := PS.zip_at A B C hk
  have hAk := hA k (Nat.le_refl k)
  have kk : (0 : Int) ≤ (k : Int) ∧ (k : Int) < rows.length := ⟨by omega, by omega⟩
  have kt : ((k : Nat) : Int).toNat = k := by omega
  refine AC_body tok 0 Try.func46 rfl (by kernel_rfl) ?_
  conv => whnf
  try (refine AW_draw tok hP ?_; conv => whnf)
  refine ixI kk.1 kk.2 ?_
  conv => whnf
  refine andP (by rw [kt]; omega) ?_
  conv => whnf
  refine ixI kk.1 kk.2 ?_
  conv => whnf
  refine andP (by rw [kt, zl]; omega) ?_
  conv => whnf
  refine ⟨⟨by cases own <;> kernel_rfl⟩, ?_⟩
  conv => whnf
  rw [kt, Nat.zero_add k, hr, za]
  rw [show Z.add .i64 (([x, y, z] : List Int).headD 0) (([A.getD k 0, B.getD k 0, C.getD k 0] : List Int).headD 0) = l from (show IntKind.i64.wrap (x + A.getD k 0) = l by rw [hx]; exact Z.wrap_iid (by omega) (by omega))]
  refine ditAt2 hn (by omega) (fun v hv => ?_)
  conv => whnf
  have hvb := PD.atN_b hn.1 hn.2 l
  rw [← hv] at hvb hlb h
  have q1 : Z.rem .i64 (k : Int) W = (k : Int) % W := Int.tmod_eq_emod_of_nonneg kk.1
  have m4 := Int.ediv_le_self W kk.1
  have q2 : Z.quo .i64 (k : Int) W = (k : Int) / W := quo_pos (by omega) (by omega) (by omega)
  try (refine AW_draw tok hP ?_; conv => whnf)
  refine nzI (by omega) ?_
  conv => whnf
  refine nzI (by omega) ?_
  conv => whnf
  refine ⟨⟨by kernel_rfl⟩, ?_⟩
  conv => whnf
  rw [q1, q2]
  have m1 := Int.emod_nonneg (k : Int) (show W ≠ 0 by omega)
  have m2 := Int.emod_lt_of_pos (k : Int) (show 0 < W by omega)
  have m3 := Int.ediv_nonneg kk.1 (show 0 ≤ W by omega)
  have m5 := Int.mul_ediv_add_emod (k : Int) W
  obtain ⟨r, er⟩ : ∃ r, r = (k : Int) % W := ⟨_, rfl⟩
  obtain ⟨q, eq⟩ : ∃ q, q = (k : Int) / W := ⟨_, rfl⟩
  have wt : ((W.toNat : Nat) : Int) = W := by omega
  have ht : ((H.toNat : Nat) : Int) = H := by omega
  have erN : ((k % W.toNat : Nat) : Int) = r := by rw [er, Int.natCast_emod, wt]
  have eqN : ((k / W.toNat : Nat) : Int) = q := by rw [eq, Int.natCast_ediv, wt]
  rw [← er, ← eq]
  rw [← er] at m1 m2 m5
  rw [← eq] at m3 m4 m5
  have hlv : -5000 ≤ l - v ∧ l - v ≤ 5000 := by unfold absD at hlb; omega
  have a1 : Z.add .i64 r 1 = r + 1 := Z.wrap_iid (by omega) (by omega)
  have a2 : Z.add .i64 r (-1) = r + -1 := Z.wrap_iid (by omega) (by omega)
  have a3 : Z.add .i64 r 0 = r + 0 := Z.wrap_iid (by omega) (by omega)
  have a4 : Z.add .i64 q 0 = q + 0 := Z.wrap_iid (by omega) (by omega)
  have a5 : Z.add .i64 q 1 = q + 1 := Z.wrap_iid (by omega) (by omega)
  have qH : q < H := Int.lt_of_mul_lt_mul_left (a := W) (by omega) (by omega)
  have n1 : W * q + W ≤ rows.length := by have := Int.mul_le_mul_of_nonneg_left (show q + 1 ≤ H by omega) (show 0 ≤ W by omega); rw [Int.mul_add] at this; omega
  have n2 : q + 1 < H → W * q + W + W ≤ rows.length := fun g => by have := Int.mul_le_mul_of_nonneg_left (show q + 2 ≤ H by omega) (show 0 ≤ W by omega); rw [Int.mul_add] at this; omega
  have y0 : Z.mul .i64 (Z.add .i64 q 0) W = W * q := by rw [a4, Int.add_zero, Int.mul_comm W q]; rw [Int.mul_comm W q] at m5; exact Z.wrap_iid (by omega) (by omega)
  have y1 : q + 1 < H → Z.mul .i64 (Z.add .i64 q 1) W = W * q + W := fun g => by
    have := n2 g
    rw [a5, show W * q + W = (q + 1) * W by rw [Int.add_mul, Int.mul_comm W q, Int.one_mul]]
    rw [show W * q = q * W from Int.mul_comm W q] at this m5
    exact Z.wrap_iid (by rw [Int.add_mul, Int.one_mul]; omega) (by rw [Int.add_mul, Int.one_mul]; omega)
  have tn : ∀ m : Nat, 0 + ((m : Nat) : Int).toNat = m := fun m => by omega
  have s0 : Z.sub .i64 l v = l - v := Z.wrap_iid (by omega) (by omega)
  refine ditHands ?_
  conv => whnf
  generalize hU : handU W.toNat H.toNat k (l - v) A = U at *
  have Ul : ∀ t, (U t).length = A.length := fun t => by rw [← hU]; exact PS.handU_len _ _ _ _ _ t
  have Ub : ∀ (t m : Nat), k ≤ m → -(100000 + 5000 * (t : Int)) ≤ (U t).getD m 0 ∧ (U t).getD m 0 ≤ 100000 + 5000 * t := fun t m hm => by rw [← hU]; exact PS.handU_b hlv hA t m hm
  refine ALs.lp (ι := Int) tok 0 [42] (fun t => [.int .i64 t]) [2] (fun t => [.row true 38 [.ik .i64, .ik .i64, .ik .i64] (zip3 rows.length (U t.toNat) B C)]) (fun _ => ()) (fun t => 0 ≤ t ∧ t ≤ 4) (fun t => (4 - t).toNat) (0) (⟨by omega, by omega⟩) (by rfl) (by rw [show U (Int.toNat 0) = A by rw [← hU]; rfl]; rfl) rfl (Nat.le_of_ble_eq_true rfl) (fun _ => rfl) ?_
  rintro t ⟨t0, t1⟩
  rcases (show t = 0 ∨ t = 1 ∨ t = 2 ∨ t = 3 ∨ t = 4 by omega) with rfl | rfl | rfl | rfl | rfl
  · have su : U 1 = if k % W.toNat + 1 < W.toNat then addAt (U 0) (k + 1) (7 * (l - v) / 16) else U 0 := by rw [← hU]; rfl
    obtain ⟨X, eX⟩ : ∃ X, X = U (Int.toNat 0) := ⟨_, rfl⟩
    have Xl : X.length = rows.length := by rw [eX, Ul, hAl]
    have Xb : ∀ m, k ≤ m → -200000 ≤ X.getD m 0 ∧ X.getD m 0 ≤ 200000 := fun m hm => by have u := Ub (Int.toNat 0) m hm; rw [eX]; have : ((Int.toNat 0 : Nat) : Int) = 0 := rfl; omega
    rw [show U 0 = X from eX.symm] at su
    conv => whnf
    rw [← eX]
    rw [show decide (Z.add .i64 r 1 ≥ 0) = true from decide_eq_true (by rw [a1]; omega)]
    conv => whnf
    by_cases c1 : r + 1 < W
    · rw [show decide (Z.add .i64 r 1 < W) = true from decide_eq_true (by rw [a1]; omega)]
      conv => whnf
      rw [show decide (Z.add .i64 q 0 < H) = true from decide_eq_true (by rw [a4]; omega)]
      conv => whnf
      rw [if_pos (by omega)] at su
      have XE : Z.add .i64 (Z.mul .i64 (Z.add .i64 q 0) W) (Z.add .i64 r 1) = ((k + 1 : Nat) : Int) := by rw [y0, a1, show ((k + 1 : Nat) : Int) = W * q + (r + 1) by omega]; exact Z.wrap_iid (by omega) (by omega)
      try (refine AW_draw tok hP ?_; conv => whnf)
      rw [show Z.add .i64 (Z.mul .i64 (Z.add .i64 q 0) W) (Z.add .i64 r 1) = ((k + 1 : Nat) : Int) from XE]
      refine ixI (by omega) (by omega) ?_
      conv => whnf
      refine andP (by rw [tn, PS.zip_len]; omega) ?_
      conv => whnf
      rw [show Z.mul .i64 7 (Z.sub .i64 l v) = 7 * (l - v) by rw [s0]; exact Z.wrap_iid (by omega) (by omega)]
      refine AQ_int (fun sK QK hK => numDiv (by omega) (by omega) hK) (fun d hd => ?_)
      conv => whnf
      refine ixI (by omega) (by omega) ?_
      conv => whnf
      refine andP (by rw [tn, PS.zip_len]; omega) ?_
      conv => whnf
      refine ⟨⟨by kernel_rfl⟩, ?_⟩
      conv => whnf
      replace hd : d = 7 * (l - v) / 16 := by rw [hd]; unfold divI; rw [if_neg (by omega)]; try rw [Int.one_mul]
      have xb := Xb (k + 1) (by omega)
      refine ⟨1, [.int .i64 (Z.add .i64 0 1)], [.row true _ _ _], _, rfl, rfl, rfl, ?_, ?_, ?_⟩
      · exact (rfl)
      · exact (by { rw [show U (Int.toNat 1) = addAt X (k + 1) (7 * (l - v) / 16) from su, ← hd, ← PS.zip_add0 (by omega) d, tn, PS.zip_at _ _ _ (show k + 1 < rows.length by omega), show Z.add .i64 (([(X).getD (k + 1) 0, (B).getD (k + 1) 0, (C).getD (k + 1) 0] : List Int).headD 0) d = X.getD (k + 1) 0 + d from Z.wrap_iid (by show _ ≤ X.getD (k + 1) 0 + d; omega) (by show X.getD (k + 1) 0 + d < _; omega)]; rfl })
      · exact ⟨by omega, by omega, by omega⟩
    · rw [if_neg (by omega)] at su
      rw [show decide (Z.add .i64 r 1 < W) = false from decide_eq_false (by rw [a1]; omega)]
      conv => whnf
      refine ⟨1, [.int .i64 (Z.add .i64 0 1)], [.row true _ _ _], _, rfl, rfl, rfl, ?_, ?_, ?_⟩
      · exact (rfl)
      · exact (by rw [show U (Int.toNat 1) = X from su])
      · exact ⟨by omega, by omega, by omega⟩
  · have su : U 2 = if k / W.toNat + 1 < H.toNat ∧ 0 < k % W.toNat then addAt (U 1) (k + W.toNat - 1) (3 * (l - v) / 16) else U 1 := by rw [← hU]; rfl
    obtain ⟨X, eX⟩ : ∃ X, X = U (Int.toNat 1) := ⟨_, rfl⟩
    have Xl : X.length = rows.length := by rw [eX, Ul, hAl]
    have Xb : ∀ m, k ≤ m → -200000 ≤ X.getD m 0 ∧ X.getD m 0 ≤ 200000 := fun m hm => by have u := Ub (Int.toNat 1) m hm; rw [eX]; have : ((Int.toNat 1 : Nat) : Int) = 1 := rfl; omega
    rw [show U 1 = X from eX.symm] at su
    conv => whnf
    rw [← eX]
    by_cases c3 : 0 < r
    · rw [show decide (Z.add .i64 r (-1) ≥ 0) = true from decide_eq_true (by rw [a2]; omega)]
      conv => whnf
      rw [show decide (Z.add .i64 r (-1) < W) = true from decide_eq_true (by rw [a2]; omega)]
      conv => whnf
      by_cases c2 : q + 1 < H
      · rw [show decide (Z.add .i64 q 1 < H) = true from decide_eq_true (by rw [a5]; omega)]
        conv => whnf
        rw [if_pos (by omega)] at su
        have n3 := n2 c2
        have XE : Z.add .i64 (Z.mul .i64 (Z.add .i64 q 1) W) (Z.add .i64 r (-1)) = ((k + W.toNat - 1 : Nat) : Int) := by have := n2 c2; rw [y1 c2, a2, show ((k + W.toNat - 1 : Nat) : Int) = W * q + W + (r + -1) by omega]; exact Z.wrap_iid (by omega) (by omega)
        try (refine AW_draw tok hP ?_; conv => whnf)
        rw [show Z.add .i64 (Z.mul .i64 (Z.add .i64 q 1) W) (Z.add .i64 r (-1)) = ((k + W.toNat - 1 : Nat) : Int) from XE]
        refine ixI (by omega) (by omega) ?_
        conv => whnf
        refine andP (by rw [tn, PS.zip_len]; omega) ?_
        conv => whnf
        rw [show Z.mul .i64 3 (Z.sub .i64 l v) = 3 * (l - v) by rw [s0]; exact Z.wrap_iid (by omega) (by omega)]
        refine AQ_int (fun sK QK hK => numDiv (by omega) (by omega) hK) (fun d hd => ?_)
        conv => whnf
        refine ixI (by omega) (by omega) ?_
        conv => whnf
        refine andP (by rw [tn, PS.zip_len]; omega) ?_
        conv => whnf
        refine ⟨⟨by kernel_rfl⟩, ?_⟩
        conv => whnf
        replace hd : d = 3 * (l - v) / 16 := by rw [hd]; unfold divI; rw [if_neg (by omega)]; try rw [Int.one_mul]
        have xb := Xb (k + W.toNat - 1) (by omega)
        refine ⟨2, [.int .i64 (Z.add .i64 1 1)], [.row true _ _ _], _, rfl, rfl, rfl, ?_, ?_, ?_⟩
        · exact (rfl)
        · exact (by { rw [show U (Int.toNat 2) = addAt X (k + W.toNat - 1) (3 * (l - v) / 16) from su, ← hd, ← PS.zip_add0 (by omega) d, tn, PS.zip_at _ _ _ (show k + W.toNat - 1 < rows.length by omega), show Z.add .i64 (([(X).getD (k + W.toNat - 1) 0, (B).getD (k + W.toNat - 1) 0, (C).getD (k + W.toNat - 1) 0] : List Int).headD 0) d = X.getD (k + W.toNat - 1) 0 + d from Z.wrap_iid (by show _ ≤ X.getD (k + W.toNat - 1) 0 + d; omega) (by show X.getD (k + W.toNat - 1) 0 + d < _; omega)]; rfl })
        · exact ⟨by omega, by omega, by omega⟩
      · rw [if_neg (by omega)] at su
        rw [show decide (Z.add .i64 q 1 < H) = false from decide_eq_false (by rw [a5]; omega)]
        conv => whnf
        refine ⟨2, [.int .i64 (Z.add .i64 1 1)], [.row true _ _ _], _, rfl, rfl, rfl, ?_, ?_, ?_⟩
        · exact (rfl)
        · exact (by rw [show U (Int.toNat 2) = X from su])
        · exact ⟨by omega, by omega, by omega⟩
    · rw [if_neg (by omega)] at su
      rw [show decide (Z.add .i64 r (-1) ≥ 0) = false from decide_eq_false (by rw [a2]; omega)]
      conv => whnf
      refine ⟨2, [.int .i64 (Z.add .i64 1 1)], [.row true _ _ _], _, rfl, rfl, rfl, ?_, ?_, ?_⟩
      · exact (rfl)
      · exact (by rw [show U (Int.toNat 2) = X from su])
      · exact ⟨by omega, by omega, by omega⟩
  · have su : U 3 = if k / W.toNat + 1 < H.toNat then addAt (U 2) (k + W.toNat) (5 * (l - v) / 16) else U 2 := by rw [← hU]; rfl
    obtain ⟨X, eX⟩ : ∃ X, X = U (Int.toNat 2) := ⟨_, rfl⟩
    have Xl : X.length = rows.length := by rw [eX, Ul, hAl]
    have Xb : ∀ m, k ≤ m → -200000 ≤ X.getD m 0 ∧ X.getD m 0 ≤ 200000 := fun m hm => by have u := Ub (Int.toNat 2) m hm; rw [eX]; have : ((Int.toNat 2 : Nat) : Int) = 2 := rfl; omega
    rw [show U 2 = X from eX.symm] at su
    conv => whnf
    rw [← eX]
    rw [show decide (Z.add .i64 r 0 ≥ 0) = true from decide_eq_true (by rw [a3]; omega)]
    conv => whnf
    rw [show decide (Z.add .i64 r 0 < W) = true from decide_eq_true (by rw [a3]; omega)]
    conv => whnf
    by_cases c2 : q + 1 < H
    · rw [show decide (Z.add .i64 q 1 < H) = true from decide_eq_true (by rw [a5]; omega)]
      conv => whnf
      rw [if_pos (by omega)] at su
      have n3 := n2 c2
      have XE : Z.add .i64 (Z.mul .i64 (Z.add .i64 q 1) W) (Z.add .i64 r 0) = ((k + W.toNat : Nat) : Int) := by have := n2 c2; rw [y1 c2, a3, show ((k + W.toNat : Nat) : Int) = W * q + W + (r + 0) by omega]; exact Z.wrap_iid (by omega) (by omega)
      try (refine AW_draw tok hP ?_; conv => whnf)
      rw [show Z.add .i64 (Z.mul .i64 (Z.add .i64 q 1) W) (Z.add .i64 r 0) = ((k + W.toNat : Nat) : Int) from XE]
      refine ixI (by omega) (by omega) ?_
      conv => whnf
      refine andP (by rw [tn, PS.zip_len]; omega) ?_
      conv => whnf
      rw [show Z.mul .i64 5 (Z.sub .i64 l v) = 5 * (l - v) by rw [s0]; exact Z.wrap_iid (by omega) (by omega)]
      refine AQ_int (fun sK QK hK => numDiv (by omega) (by omega) hK) (fun d hd => ?_)
      conv => whnf
      refine ixI (by omega) (by omega) ?_
      conv => whnf
      refine andP (by rw [tn, PS.zip_len]; omega) ?_
      conv => whnf
      refine ⟨⟨by kernel_rfl⟩, ?_⟩
      conv => whnf
      replace hd : d = 5 * (l - v) / 16 := by rw [hd]; unfold divI; rw [if_neg (by omega)]; try rw [Int.one_mul]
      have xb := Xb (k + W.toNat) (by omega)
      refine ⟨3, [.int .i64 (Z.add .i64 2 1)], [.row true _ _ _], _, rfl, rfl, rfl, ?_, ?_, ?_⟩
      · exact (rfl)
      · exact (by { rw [show U (Int.toNat 3) = addAt X (k + W.toNat) (5 * (l - v) / 16) from su, ← hd, ← PS.zip_add0 (by omega) d, tn, PS.zip_at _ _ _ (show k + W.toNat < rows.length by omega), show Z.add .i64 (([(X).getD (k + W.toNat) 0, (B).getD (k + W.toNat) 0, (C).getD (k + W.toNat) 0] : List Int).headD 0) d = X.getD (k + W.toNat) 0 + d from Z.wrap_iid (by show _ ≤ X.getD (k + W.toNat) 0 + d; omega) (by show X.getD (k + W.toNat) 0 + d < _; omega)]; rfl })
      · exact ⟨by omega, by omega, by omega⟩
    · rw [if_neg (by omega)] at su
      rw [show decide (Z.add .i64 q 1 < H) = false from decide_eq_false (by rw [a5]; omega)]
      conv => whnf
      refine ⟨3, [.int .i64 (Z.add .i64 2 1)], [.row true _ _ _], _, rfl, rfl, rfl, ?_, ?_, ?_⟩
      · exact (rfl)
      · exact (by rw [show U (Int.toNat 3) = X from su])
      · exact ⟨by omega, by omega, by omega⟩
  · have su : U 4 = if k / W.toNat + 1 < H.toNat ∧ k % W.toNat + 1 < W.toNat then addAt (U 3) (k + W.toNat + 1) ((l - v) / 16) else U 3 := by rw [← hU]; rfl
    obtain ⟨X, eX⟩ : ∃ X, X = U (Int.toNat 3) := ⟨_, rfl⟩
    have Xl : X.length = rows.length := by rw [eX, Ul, hAl]
    have Xb : ∀ m, k ≤ m → -200000 ≤ X.getD m 0 ∧ X.getD m 0 ≤ 200000 := fun m hm => by have u := Ub (Int.toNat 3) m hm; rw [eX]; have : ((Int.toNat 3 : Nat) : Int) = 3 := rfl; omega
    rw [show U 3 = X from eX.symm] at su
    conv => whnf
    rw [← eX]
    rw [show decide (Z.add .i64 r 1 ≥ 0) = true from decide_eq_true (by rw [a1]; omega)]
    conv => whnf
    by_cases c1 : r + 1 < W
    · rw [show decide (Z.add .i64 r 1 < W) = true from decide_eq_true (by rw [a1]; omega)]
      conv => whnf
      by_cases c2 : q + 1 < H
      · rw [show decide (Z.add .i64 q 1 < H) = true from decide_eq_true (by rw [a5]; omega)]
        conv => whnf
        rw [if_pos (by omega)] at su
        have n3 := n2 c2
        have XE : Z.add .i64 (Z.mul .i64 (Z.add .i64 q 1) W) (Z.add .i64 r 1) = ((k + W.toNat + 1 : Nat) : Int) := by have := n2 c2; rw [y1 c2, a1, show ((k + W.toNat + 1 : Nat) : Int) = W * q + W + (r + 1) by omega]; exact Z.wrap_iid (by omega) (by omega)
        try (refine AW_draw tok hP ?_; conv => whnf)
        rw [show Z.add .i64 (Z.mul .i64 (Z.add .i64 q 1) W) (Z.add .i64 r 1) = ((k + W.toNat + 1 : Nat) : Int) from XE]
        refine ixI (by omega) (by omega) ?_
        conv => whnf
        refine andP (by rw [tn, PS.zip_len]; omega) ?_
        conv => whnf
        rw [show Z.mul .i64 1 (Z.sub .i64 l v) = 1 * (l - v) by rw [s0]; exact Z.wrap_iid (by omega) (by omega)]
        refine AQ_int (fun sK QK hK => numDiv (by omega) (by omega) hK) (fun d hd => ?_)
        conv => whnf
        refine ixI (by omega) (by omega) ?_
        conv => whnf
        refine andP (by rw [tn, PS.zip_len]; omega) ?_
        conv => whnf
        refine ⟨⟨by kernel_rfl⟩, ?_⟩
        conv => whnf
        replace hd : d = (l - v) / 16 := by rw [hd]; unfold divI; rw [if_neg (by omega)]; try rw [Int.one_mul]
        have xb := Xb (k + W.toNat + 1) (by omega)
        refine ⟨4, [.int .i64 (Z.add .i64 3 1)], [.row true _ _ _], _, rfl, rfl, rfl, ?_, ?_, ?_⟩
        · exact (rfl)
        · exact (by { rw [show U (Int.toNat 4) = addAt X (k + W.toNat + 1) ((l - v) / 16) from su, ← hd, ← PS.zip_add0 (by omega) d, tn, PS.zip_at _ _ _ (show k + W.toNat + 1 < rows.length by omega), show Z.add .i64 (([(X).getD (k + W.toNat + 1) 0, (B).getD (k + W.toNat + 1) 0, (C).getD (k + W.toNat + 1) 0] : List Int).headD 0) d = X.getD (k + W.toNat + 1) 0 + d from Z.wrap_iid (by show _ ≤ X.getD (k + W.toNat + 1) 0 + d; omega) (by show X.getD (k + W.toNat + 1) 0 + d < _; omega)]; rfl })
        · exact ⟨by omega, by omega, by omega⟩
      · rw [if_neg (by omega)] at su
        rw [show decide (Z.add .i64 q 1 < H) = false from decide_eq_false (by rw [a5]; omega)]
        conv => whnf
        refine ⟨4, [.int .i64 (Z.add .i64 3 1)], [.row true _ _ _], _, rfl, rfl, rfl, ?_, ?_, ?_⟩
        · exact (rfl)
        · exact (by rw [show U (Int.toNat 4) = X from su])
        · exact ⟨by omega, by omega, by omega⟩
    · rw [if_neg (by omega)] at su
      rw [show decide (Z.add .i64 r 1 < W) = false from decide_eq_false (by rw [a1]; omega)]
      conv => whnf
      refine ⟨4, [.int .i64 (Z.add .i64 3 1)], [.row true _ _ _], _, rfl, rfl, rfl, ?_, ?_, ?_⟩
      · exact (rfl)
      · exact (by rw [show U (Int.toNat 4) = X from su])
      · exact ⟨by omega, by omega, by omega⟩
  · conv => whnf
    refine AWs.go tok 0 ?_
    conv => whnf
    refine ⟨rfl, _, rfl, rfl, ?_⟩
    rw [show U (Int.toNat 4) = handOn W.toNat H.toNat k (l - v) A by rw [← hU]; rfl]
    exact h _ rfl
theorem ditSpr1_1 {W H n : Int} {k : Nat} {rows : List (List Int)} {e : TypeId} {own : Bool} (hl : rows.length ≤ 1000000) (hn : 2 ≤ n ∧ n ≤ 16) (hW : 1 ≤ W ∧ W ≤ 256) (hH : 1 ≤ H ∧ H ≤ 256) (hwh : (rows.length : Int) = W * H) (hk : k < rows.length) {x y z : Int} (hr : rows.getD k [] = [x, y, z]) (hb : bytesB [x, y, z] = true) {A B C : List Int} (hAl : A.length = rows.length) (hBl : B.length = rows.length) (hCl : C.length = rows.length) (hA : ∀ m, k ≤ m → -100000 ≤ B.getD m 0 ∧ B.getD m 0 ≤ 100000) {l : Int} (hx : l = y + B.getD k 0) (hlb : absD (l - atN n l) ≤ 5000)
    {i0 i1 i2 i3 : Nat} (hi : [i0, i1, i2, i3].Nodup) {s : List Ob} (hs : s[i0]? = some (.row own e [.ik .i64, .ik .i64, .ik .i64] rows)) (hs1 : s[i1]? = some (.cells 0 [.int .i64 W, .int .i64 H, .sl i0 0 rows.length none])) (hs2 : s[i2]? = some (.row true 38 [.ik .i64, .ik .i64, .ik .i64] (zip3 rows.length A B C))) (hs3 : s[i3]? = some (.cells 0 [.sl i2 0 rows.length none])) {Q : AV → List Ob → Prop}
    (h : ∀ v, v = atN n l → Q (.int .i64 v) (s.set i2 (.row true 38 [.ik .i64, .ik .i64, .ik .i64] (zip3 rows.length A (handOn W.toNat H.toNat k (l - atN n l) B) C)))) : AC Try.prog 46 [.int .i64 n, .int .i64 k, .int .i64 1, .ptr i1 0 0, .ptr i3 0 0] s Q := by
  refine AC_upd (args' := [.int .i64 n, .int .i64 k, .int .i64 1, .ptr 1 0 0, .ptr 3 0 0]) (L := [.row own e [.ik .i64, .ik .i64, .ik .i64] rows, .cells 0 [.int .i64 W, .int .i64 H, .sl 0 0 rows.length none], .row true 38 [.ik .i64, .ik .i64, .ik .i64] (zip3 rows.length A B C), .cells 0 [.sl 2 0 rows.length none]]) [i0, i1, i2, i3] hi rfl (fun _ => rfl) (by rintro (_ | _ | _ | _ | i') j ob h1 h2 <;> simp at h1 h2 <;> subst h1 h2 <;> assumption) 2 i2 rfl ?_
  simp only [bytesB, byteB, List.all_cons, List.all_nil, Bool.and_true, Bool.and_eq_true, decide_eq_true_eq] at hb
  have zl := PS.zip_len rows.length A B C
  have za := PS.zip_at A B C hk
  have hAk := hA k (Nat.le_refl k)
  have kk : (0 : Int) ≤ (k : Int) ∧ (k : Int) < rows.length := ⟨by omega, by omega⟩
  have kt : ((k : Nat) : Int).toNat = k := by omega
  refine AC_body tok 0 Try.func46 rfl (by kernel_rfl) ?_
  conv => whnf
  try (refine AW_draw tok hP ?_; conv => whnf)
  refine ixI kk.1 kk.2 ?_
  conv => whnf
  refine andP (by rw [kt]; omega) ?_
  conv => whnf
  refine ixI kk.1 kk.2 ?_
  conv => whnf
  refine andP (by rw [kt, zl]; omega) ?_
  conv => whnf
  refine ⟨⟨by cases own <;> kernel_rfl⟩, ?_⟩
  conv => whnf
  rw [kt, Nat.zero_add k, hr, za]
  rw [show Z.add .i64 (([x, y, z] : List Int).tail.headD 0) (([A.getD k 0, B.getD k 0, C.getD k 0] : List Int).tail.headD 0) = l from (show IntKind.i64.wrap (y + B.getD k 0) = l by rw [hx]; exact Z.wrap_iid (by omega) (by omega))]
  refine ditAt2 hn (by omega) (fun v hv => ?_)
  conv => whnf
  have hvb := PD.atN_b hn.1 hn.2 l
  rw [← hv] at hvb hlb h
  have q1 : Z.rem .i64 (k : Int) W = (k : Int) % W := Int.tmod_eq_emod_of_nonneg kk.1
  have m4 := Int.ediv_le_self W kk.1
  have q2 : Z.quo .i64 (k : Int) W = (k : Int) / W := quo_pos (by omega) (by omega) (by omega)
  try (refine AW_draw tok hP ?_; conv => whnf)
  refine nzI (by omega) ?_
  conv => whnf
  refine nzI (by omega) ?_
  conv => whnf
  refine ⟨⟨by kernel_rfl⟩, ?_⟩
  conv => whnf
  rw [q1, q2]
  have m1 := Int.emod_nonneg (k : Int) (show W ≠ 0 by omega)
  have m2 := Int.emod_lt_of_pos (k : Int) (show 0 < W by omega)
  have m3 := Int.ediv_nonneg kk.1 (show 0 ≤ W by omega)
  have m5 := Int.mul_ediv_add_emod (k : Int) W
  obtain ⟨r, er⟩ : ∃ r, r = (k : Int) % W := ⟨_, rfl⟩
  obtain ⟨q, eq⟩ : ∃ q, q = (k : Int) / W := ⟨_, rfl⟩
  have wt : ((W.toNat : Nat) : Int) = W := by omega
  have ht : ((H.toNat : Nat) : Int) = H := by omega
  have erN : ((k % W.toNat : Nat) : Int) = r := by rw [er, Int.natCast_emod, wt]
  have eqN : ((k / W.toNat : Nat) : Int) = q := by rw [eq, Int.natCast_ediv, wt]
  rw [← er, ← eq]
  rw [← er] at m1 m2 m5
  rw [← eq] at m3 m4 m5
  have hlv : -5000 ≤ l - v ∧ l - v ≤ 5000 := by unfold absD at hlb; omega
  have a1 : Z.add .i64 r 1 = r + 1 := Z.wrap_iid (by omega) (by omega)
  have a2 : Z.add .i64 r (-1) = r + -1 := Z.wrap_iid (by omega) (by omega)
  have a3 : Z.add .i64 r 0 = r + 0 := Z.wrap_iid (by omega) (by omega)
  have a4 : Z.add .i64 q 0 = q + 0 := Z.wrap_iid (by omega) (by omega)
  have a5 : Z.add .i64 q 1 = q + 1 := Z.wrap_iid (by omega) (by omega)
  have qH : q < H := Int.lt_of_mul_lt_mul_left (a := W) (by omega) (by omega)
  have n1 : W * q + W ≤ rows.length := by have := Int.mul_le_mul_of_nonneg_left (show q + 1 ≤ H by omega) (show 0 ≤ W by omega); rw [Int.mul_add] at this; omega
  have n2 : q + 1 < H → W * q + W + W ≤ rows.length := fun g => by have := Int.mul_le_mul_of_nonneg_left (show q + 2 ≤ H by omega) (show 0 ≤ W by omega); rw [Int.mul_add] at this; omega
  have y0 : Z.mul .i64 (Z.add .i64 q 0) W = W * q := by rw [a4, Int.add_zero, Int.mul_comm W q]; rw [Int.mul_comm W q] at m5; exact Z.wrap_iid (by omega) (by omega)
  have y1 : q + 1 < H → Z.mul .i64 (Z.add .i64 q 1) W = W * q + W := fun g => by
    have := n2 g
    rw [a5, show W * q + W = (q + 1) * W by rw [Int.add_mul, Int.mul_comm W q, Int.one_mul]]
    rw [show W * q = q * W from Int.mul_comm W q] at this m5
    exact Z.wrap_iid (by rw [Int.add_mul, Int.one_mul]; omega) (by rw [Int.add_mul, Int.one_mul]; omega)
  have tn : ∀ m : Nat, 0 + ((m : Nat) : Int).toNat = m := fun m => by omega
  have s0 : Z.sub .i64 l v = l - v := Z.wrap_iid (by omega) (by omega)
  refine ditHands ?_
  conv => whnf
  generalize hU : handU W.toNat H.toNat k (l - v) B = U at *
  have Ul : ∀ t, (U t).length = B.length := fun t => by rw [← hU]; exact PS.handU_len _ _ _ _ _ t
  have Ub : ∀ (t m : Nat), k ≤ m → -(100000 + 5000 * (t : Int)) ≤ (U t).getD m 0 ∧ (U t).getD m 0 ≤ 100000 + 5000 * t := fun t m hm => by rw [← hU]; exact PS.handU_b hlv hA t m hm
  refine ALs.lp (ι := Int) tok 0 [42] (fun t => [.int .i64 t]) [2] (fun t => [.row true 38 [.ik .i64, .ik .i64, .ik .i64] (zip3 rows.length A (U t.toNat) C)]) (fun _ => ()) (fun t => 0 ≤ t ∧ t ≤ 4) (fun t => (4 - t).toNat) (0) (⟨by omega, by omega⟩) (by rfl) (by rw [show U (Int.toNat 0) = B by rw [← hU]; rfl]; rfl) rfl (Nat.le_of_ble_eq_true rfl) (fun _ => rfl) ?_
  rintro t ⟨t0, t1⟩
  rcases (show t = 0 ∨ t = 1 ∨ t = 2 ∨ t = 3 ∨ t = 4 by omega) with rfl | rfl | rfl | rfl | rfl
  · have su : U 1 = if k % W.toNat + 1 < W.toNat then addAt (U 0) (k + 1) (7 * (l - v) / 16) else U 0 := by rw [← hU]; rfl
    obtain ⟨X, eX⟩ : ∃ X, X = U (Int.toNat 0) := ⟨_, rfl⟩
    have Xl : X.length = rows.length := by rw [eX, Ul, hBl]
    have Xb : ∀ m, k ≤ m → -200000 ≤ X.getD m 0 ∧ X.getD m 0 ≤ 200000 := fun m hm => by have u := Ub (Int.toNat 0) m hm; rw [eX]; have : ((Int.toNat 0 : Nat) : Int) = 0 := rfl; omega
    rw [show U 0 = X from eX.symm] at su
    conv => whnf
    rw [← eX]
    rw [show decide (Z.add .i64 r 1 ≥ 0) = true from decide_eq_true (by rw [a1]; omega)]
    conv => whnf
    by_cases c1 : r + 1 < W
    · rw [show decide (Z.add .i64 r 1 < W) = true from decide_eq_true (by rw [a1]; omega)]
      conv => whnf
      rw [show decide (Z.add .i64 q 0 < H) = true from decide_eq_true (by rw [a4]; omega)]
      conv => whnf
      rw [if_pos (by omega)] at su
      have XE : Z.add .i64 (Z.mul .i64 (Z.add .i64 q 0) W) (Z.add .i64 r 1) = ((k + 1 : Nat) : Int) := by rw [y0, a1, show ((k + 1 : Nat) : Int) = W * q + (r + 1) by omega]; exact Z.wrap_iid (by omega) (by omega)
      try (refine AW_draw tok hP ?_; conv => whnf)
      rw [show Z.add .i64 (Z.mul .i64 (Z.add .i64 q 0) W) (Z.add .i64 r 1) = ((k + 1 : Nat) : Int) from XE]
      refine ixI (by omega) (by omega) ?_
      conv => whnf
      refine andP (by rw [tn, PS.zip_len]; omega) ?_
      conv => whnf
      rw [show Z.mul .i64 7 (Z.sub .i64 l v) = 7 * (l - v) by rw [s0]; exact Z.wrap_iid (by omega) (by omega)]
      refine AQ_int (fun sK QK hK => numDiv (by omega) (by omega) hK) (fun d hd => ?_)
      conv => whnf
      refine ixI (by omega) (by omega) ?_
      conv => whnf
      refine andP (by rw [tn, PS.zip_len]; omega) ?_
      conv => whnf
      refine ⟨⟨by kernel_rfl⟩, ?_⟩
      conv => whnf
      replace hd : d = 7 * (l - v) / 16 := by rw [hd]; unfold divI; rw [if_neg (by omega)]; try rw [Int.one_mul]
      have xb := Xb (k + 1) (by omega)
      refine ⟨1, [.int .i64 (Z.add .i64 0 1)], [.row true _ _ _], _, rfl, rfl, rfl, ?_, ?_, ?_⟩
      · exact (rfl)
      · exact (by { rw [show U (Int.toNat 1) = addAt X (k + 1) (7 * (l - v) / 16) from su, ← hd, ← PS.zip_add1 (by omega) d, tn, PS.zip_at _ _ _ (show k + 1 < rows.length by omega), show Z.add .i64 (([(A).getD (k + 1) 0, (X).getD (k + 1) 0, (C).getD (k + 1) 0] : List Int).tail.headD 0) d = X.getD (k + 1) 0 + d from Z.wrap_iid (by show _ ≤ X.getD (k + 1) 0 + d; omega) (by show X.getD (k + 1) 0 + d < _; omega)]; rfl })
      · exact ⟨by omega, by omega, by omega⟩
    · rw [if_neg (by omega)] at su
      rw [show decide (Z.add .i64 r 1 < W) = false from decide_eq_false (by rw [a1]; omega)]
      conv => whnf
      refine ⟨1, [.int .i64 (Z.add .i64 0 1)], [.row true _ _ _], _, rfl, rfl, rfl, ?_, ?_, ?_⟩
      · exact (rfl)
      · exact (by rw [show U (Int.toNat 1) = X from su])
      · exact ⟨by omega, by omega, by omega⟩
  · have su : U 2 = if k / W.toNat + 1 < H.toNat ∧ 0 < k % W.toNat then addAt (U 1) (k + W.toNat - 1) (3 * (l - v) / 16) else U 1 := by rw [← hU]; rfl
    obtain ⟨X, eX⟩ : ∃ X, X = U (Int.toNat 1) := ⟨_, rfl⟩
    have Xl : X.length = rows.length := by rw [eX, Ul, hBl]
    have Xb : ∀ m, k ≤ m → -200000 ≤ X.getD m 0 ∧ X.getD m 0 ≤ 200000 := fun m hm => by have u := Ub (Int.toNat 1) m hm; rw [eX]; have : ((Int.toNat 1 : Nat) : Int) = 1 := rfl; omega
    rw [show U 1 = X from eX.symm] at su
    conv => whnf
    rw [← eX]
    by_cases c3 : 0 < r
    · rw [show decide (Z.add .i64 r (-1) ≥ 0) = true from decide_eq_true (by rw [a2]; omega)]
      conv => whnf
      rw [show decide (Z.add .i64 r (-1) < W) = true from decide_eq_true (by rw [a2]; omega)]
      conv => whnf
      by_cases c2 : q + 1 < H
      · rw [show decide (Z.add .i64 q 1 < H) = true from decide_eq_true (by rw [a5]; omega)]
        conv => whnf
        rw [if_pos (by omega)] at su
        have n3 := n2 c2
        have XE : Z.add .i64 (Z.mul .i64 (Z.add .i64 q 1) W) (Z.add .i64 r (-1)) = ((k + W.toNat - 1 : Nat) : Int) := by have := n2 c2; rw [y1 c2, a2, show ((k + W.toNat - 1 : Nat) : Int) = W * q + W + (r + -1) by omega]; exact Z.wrap_iid (by omega) (by omega)
        try (refine AW_draw tok hP ?_; conv => whnf)
        rw [show Z.add .i64 (Z.mul .i64 (Z.add .i64 q 1) W) (Z.add .i64 r (-1)) = ((k + W.toNat - 1 : Nat) : Int) from XE]
        refine ixI (by omega) (by omega) ?_
        conv => whnf
        refine andP (by rw [tn, PS.zip_len]; omega) ?_
        conv => whnf
        rw [show Z.mul .i64 3 (Z.sub .i64 l v) = 3 * (l - v) by rw [s0]; exact Z.wrap_iid (by omega) (by omega)]
        refine AQ_int (fun sK QK hK => numDiv (by omega) (by omega) hK) (fun d hd => ?_)
        conv => whnf
        refine ixI (by omega) (by omega) ?_
        conv => whnf
        refine andP (by rw [tn, PS.zip_len]; omega) ?_
        conv => whnf
        refine ⟨⟨by kernel_rfl⟩, ?_⟩
        conv => whnf
        replace hd : d = 3 * (l - v) / 16 := by rw [hd]; unfold divI; rw [if_neg (by omega)]; try rw [Int.one_mul]
        have xb := Xb (k + W.toNat - 1) (by omega)
        refine ⟨2, [.int .i64 (Z.add .i64 1 1)], [.row true _ _ _], _, rfl, rfl, rfl, ?_, ?_, ?_⟩
        · exact (rfl)
        · exact (by { rw [show U (Int.toNat 2) = addAt X (k + W.toNat - 1) (3 * (l - v) / 16) from su, ← hd, ← PS.zip_add1 (by omega) d, tn, PS.zip_at _ _ _ (show k + W.toNat - 1 < rows.length by omega), show Z.add .i64 (([(A).getD (k + W.toNat - 1) 0, (X).getD (k + W.toNat - 1) 0, (C).getD (k + W.toNat - 1) 0] : List Int).tail.headD 0) d = X.getD (k + W.toNat - 1) 0 + d from Z.wrap_iid (by show _ ≤ X.getD (k + W.toNat - 1) 0 + d; omega) (by show X.getD (k + W.toNat - 1) 0 + d < _; omega)]; rfl })
        · exact ⟨by omega, by omega, by omega⟩
      · rw [if_neg (by omega)] at su
        rw [show decide (Z.add .i64 q 1 < H) = false from decide_eq_false (by rw [a5]; omega)]
        conv => whnf
        refine ⟨2, [.int .i64 (Z.add .i64 1 1)], [.row true _ _ _], _, rfl, rfl, rfl, ?_, ?_, ?_⟩
        · exact (rfl)
        · exact (by rw [show U (Int.toNat 2) = X from su])
        · exact ⟨by omega, by omega, by omega⟩
    · rw [if_neg (by omega)] at su
      rw [show decide (Z.add .i64 r (-1) ≥ 0) = false from decide_eq_false (by rw [a2]; omega)]
      conv => whnf
      refine ⟨2, [.int .i64 (Z.add .i64 1 1)], [.row true _ _ _], _, rfl, rfl, rfl, ?_, ?_, ?_⟩
      · exact (rfl)
      · exact (by rw [show U (Int.toNat 2) = X from su])
      · exact ⟨by omega, by omega, by omega⟩
  · have su : U 3 = if k / W.toNat + 1 < H.toNat then addAt (U 2) (k + W.toNat) (5 * (l - v) / 16) else U 2 := by rw [← hU]; rfl
    obtain ⟨X, eX⟩ : ∃ X, X = U (Int.toNat 2) := ⟨_, rfl⟩
    have Xl : X.length = rows.length := by rw [eX, Ul, hBl]
    have Xb : ∀ m, k ≤ m → -200000 ≤ X.getD m 0 ∧ X.getD m 0 ≤ 200000 := fun m hm => by have u := Ub (Int.toNat 2) m hm; rw [eX]; have : ((Int.toNat 2 : Nat) : Int) = 2 := rfl; omega
    rw [show U 2 = X from eX.symm] at su
    conv => whnf
    rw [← eX]
    rw [show decide (Z.add .i64 r 0 ≥ 0) = true from decide_eq_true (by rw [a3]; omega)]
    conv => whnf
    rw [show decide (Z.add .i64 r 0 < W) = true from decide_eq_true (by rw [a3]; omega)]
    conv => whnf
    by_cases c2 : q + 1 < H
    · rw [show decide (Z.add .i64 q 1 < H) = true from decide_eq_true (by rw [a5]; omega)]
      conv => whnf
      rw [if_pos (by omega)] at su
      have n3 := n2 c2
      have XE : Z.add .i64 (Z.mul .i64 (Z.add .i64 q 1) W) (Z.add .i64 r 0) = ((k + W.toNat : Nat) : Int) := by have := n2 c2; rw [y1 c2, a3, show ((k + W.toNat : Nat) : Int) = W * q + W + (r + 0) by omega]; exact Z.wrap_iid (by omega) (by omega)
      try (refine AW_draw tok hP ?_; conv => whnf)
      rw [show Z.add .i64 (Z.mul .i64 (Z.add .i64 q 1) W) (Z.add .i64 r 0) = ((k + W.toNat : Nat) : Int) from XE]
      refine ixI (by omega) (by omega) ?_
      conv => whnf
      refine andP (by rw [tn, PS.zip_len]; omega) ?_
      conv => whnf
      rw [show Z.mul .i64 5 (Z.sub .i64 l v) = 5 * (l - v) by rw [s0]; exact Z.wrap_iid (by omega) (by omega)]
      refine AQ_int (fun sK QK hK => numDiv (by omega) (by omega) hK) (fun d hd => ?_)
      conv => whnf
      refine ixI (by omega) (by omega) ?_
      conv => whnf
      refine andP (by rw [tn, PS.zip_len]; omega) ?_
      conv => whnf
      refine ⟨⟨by kernel_rfl⟩, ?_⟩
      conv => whnf
      replace hd : d = 5 * (l - v) / 16 := by rw [hd]; unfold divI; rw [if_neg (by omega)]; try rw [Int.one_mul]
      have xb := Xb (k + W.toNat) (by omega)
      refine ⟨3, [.int .i64 (Z.add .i64 2 1)], [.row true _ _ _], _, rfl, rfl, rfl, ?_, ?_, ?_⟩
      · exact (rfl)
      · exact (by { rw [show U (Int.toNat 3) = addAt X (k + W.toNat) (5 * (l - v) / 16) from su, ← hd, ← PS.zip_add1 (by omega) d, tn, PS.zip_at _ _ _ (show k + W.toNat < rows.length by omega), show Z.add .i64 (([(A).getD (k + W.toNat) 0, (X).getD (k + W.toNat) 0, (C).getD (k + W.toNat) 0] : List Int).tail.headD 0) d = X.getD (k + W.toNat) 0 + d from Z.wrap_iid (by show _ ≤ X.getD (k + W.toNat) 0 + d; omega) (by show X.getD (k + W.toNat) 0 + d < _; omega)]; rfl })
      · exact ⟨by omega, by omega, by omega⟩
    · rw [if_neg (by omega)] at su
      rw [show decide (Z.add .i64 q 1 < H) = false from decide_eq_false (by rw [a5]; omega)]
      conv => whnf
      refine ⟨3, [.int .i64 (Z.add .i64 2 1)], [.row true _ _ _], _, rfl, rfl, rfl, ?_, ?_, ?_⟩
      · exact (rfl)
      · exact (by rw [show U (Int.toNat 3) = X from su])
      · exact ⟨by omega, by omega, by omega⟩
  · have su : U 4 = if k / W.toNat + 1 < H.toNat ∧ k % W.toNat + 1 < W.toNat then addAt (U 3) (k + W.toNat + 1) ((l - v) / 16) else U 3 := by rw [← hU]; rfl
    obtain ⟨X, eX⟩ : ∃ X, X = U (Int.toNat 3) := ⟨_, rfl⟩
    have Xl : X.length = rows.length := by rw [eX, Ul, hBl]
    have Xb : ∀ m, k ≤ m → -200000 ≤ X.getD m 0 ∧ X.getD m 0 ≤ 200000 := fun m hm => by have u := Ub (Int.toNat 3) m hm; rw [eX]; have : ((Int.toNat 3 : Nat) : Int) = 3 := rfl; omega
    rw [show U 3 = X from eX.symm] at su
    conv => whnf
    rw [← eX]
    rw [show decide (Z.add .i64 r 1 ≥ 0) = true from decide_eq_true (by rw [a1]; omega)]
    conv => whnf
    by_cases c1 : r + 1 < W
    · rw [show decide (Z.add .i64 r 1 < W) = true from decide_eq_true (by rw [a1]; omega)]
      conv => whnf
      by_cases c2 : q + 1 < H
      · rw [show decide (Z.add .i64 q 1 < H) = true from decide_eq_true (by rw [a5]; omega)]
        conv => whnf
        rw [if_pos (by omega)] at su
        have n3 := n2 c2
        have XE : Z.add .i64 (Z.mul .i64 (Z.add .i64 q 1) W) (Z.add .i64 r 1) = ((k + W.toNat + 1 : Nat) : Int) := by have := n2 c2; rw [y1 c2, a1, show ((k + W.toNat + 1 : Nat) : Int) = W * q + W + (r + 1) by omega]; exact Z.wrap_iid (by omega) (by omega)
        try (refine AW_draw tok hP ?_; conv => whnf)
        rw [show Z.add .i64 (Z.mul .i64 (Z.add .i64 q 1) W) (Z.add .i64 r 1) = ((k + W.toNat + 1 : Nat) : Int) from XE]
        refine ixI (by omega) (by omega) ?_
        conv => whnf
        refine andP (by rw [tn, PS.zip_len]; omega) ?_
        conv => whnf
        rw [show Z.mul .i64 1 (Z.sub .i64 l v) = 1 * (l - v) by rw [s0]; exact Z.wrap_iid (by omega) (by omega)]
        refine AQ_int (fun sK QK hK => numDiv (by omega) (by omega) hK) (fun d hd => ?_)
        conv => whnf
        refine ixI (by omega) (by omega) ?_
        conv => whnf
        refine andP (by rw [tn, PS.zip_len]; omega) ?_
        conv => whnf
        refine ⟨⟨by kernel_rfl⟩, ?_⟩
        conv => whnf
        replace hd : d = (l - v) / 16 := by rw [hd]; unfold divI; rw [if_neg (by omega)]; try rw [Int.one_mul]
        have xb := Xb (k + W.toNat + 1) (by omega)
        refine ⟨4, [.int .i64 (Z.add .i64 3 1)], [.row true _ _ _], _, rfl, rfl, rfl, ?_, ?_, ?_⟩
        · exact (rfl)
        · exact (by { rw [show U (Int.toNat 4) = addAt X (k + W.toNat + 1) ((l - v) / 16) from su, ← hd, ← PS.zip_add1 (by omega) d, tn, PS.zip_at _ _ _ (show k + W.toNat + 1 < rows.length by omega), show Z.add .i64 (([(A).getD (k + W.toNat + 1) 0, (X).getD (k + W.toNat + 1) 0, (C).getD (k + W.toNat + 1) 0] : List Int).tail.headD 0) d = X.getD (k + W.toNat + 1) 0 + d from Z.wrap_iid (by show _ ≤ X.getD (k + W.toNat + 1) 0 + d; omega) (by show X.getD (k + W.toNat + 1) 0 + d < _; omega)]; rfl })
        · exact ⟨by omega, by omega, by omega⟩
      · rw [if_neg (by omega)] at su
        rw [show decide (Z.add .i64 q 1 < H) = false from decide_eq_false (by rw [a5]; omega)]
        conv => whnf
        refine ⟨4, [.int .i64 (Z.add .i64 3 1)], [.row true _ _ _], _, rfl, rfl, rfl, ?_, ?_, ?_⟩
        · exact (rfl)
        · exact (by rw [show U (Int.toNat 4) = X from su])
        · exact ⟨by omega, by omega, by omega⟩
    · rw [if_neg (by omega)] at su
      rw [show decide (Z.add .i64 r 1 < W) = false from decide_eq_false (by rw [a1]; omega)]
      conv => whnf
      refine ⟨4, [.int .i64 (Z.add .i64 3 1)], [.row true _ _ _], _, rfl, rfl, rfl, ?_, ?_, ?_⟩
      · exact (rfl)
      · exact (by rw [show U (Int.toNat 4) = X from su])
      · exact ⟨by omega, by omega, by omega⟩
  · conv => whnf
    refine AWs.go tok 0 ?_
    conv => whnf
    refine ⟨rfl, _, rfl, rfl, ?_⟩
    rw [show U (Int.toNat 4) = handOn W.toNat H.toNat k (l - v) B by rw [← hU]; rfl]
    exact h _ rfl
theorem ditSpr1_2 {W H n : Int} {k : Nat} {rows : List (List Int)} {e : TypeId} {own : Bool} (hl : rows.length ≤ 1000000) (hn : 2 ≤ n ∧ n ≤ 16) (hW : 1 ≤ W ∧ W ≤ 256) (hH : 1 ≤ H ∧ H ≤ 256) (hwh : (rows.length : Int) = W * H) (hk : k < rows.length) {x y z : Int} (hr : rows.getD k [] = [x, y, z]) (hb : bytesB [x, y, z] = true) {A B C : List Int} (hAl : A.length = rows.length) (hBl : B.length = rows.length) (hCl : C.length = rows.length) (hA : ∀ m, k ≤ m → -100000 ≤ C.getD m 0 ∧ C.getD m 0 ≤ 100000) {l : Int} (hx : l = z + C.getD k 0) (hlb : absD (l - atN n l) ≤ 5000)
    {i0 i1 i2 i3 : Nat} (hi : [i0, i1, i2, i3].Nodup) {s : List Ob} (hs : s[i0]? = some (.row own e [.ik .i64, .ik .i64, .ik .i64] rows)) (hs1 : s[i1]? = some (.cells 0 [.int .i64 W, .int .i64 H, .sl i0 0 rows.length none])) (hs2 : s[i2]? = some (.row true 38 [.ik .i64, .ik .i64, .ik .i64] (zip3 rows.length A B C))) (hs3 : s[i3]? = some (.cells 0 [.sl i2 0 rows.length none])) {Q : AV → List Ob → Prop}
    (h : ∀ v, v = atN n l → Q (.int .i64 v) (s.set i2 (.row true 38 [.ik .i64, .ik .i64, .ik .i64] (zip3 rows.length A B (handOn W.toNat H.toNat k (l - atN n l) C))))) : AC Try.prog 46 [.int .i64 n, .int .i64 k, .int .i64 2, .ptr i1 0 0, .ptr i3 0 0] s Q := by
  refine AC_upd (args' := [.int .i64 n, .int .i64 k, .int .i64 2, .ptr 1 0 0, .ptr 3 0 0]) (L := [.row own e [.ik .i64, .ik .i64, .ik .i64] rows, .cells 0 [.int .i64 W, .int .i64 H, .sl 0 0 rows.length none], .row true 38 [.ik .i64, .ik .i64, .ik .i64] (zip3 rows.length A B C), .cells 0 [.sl 2 0 rows.length none]]) [i0, i1, i2, i3] hi rfl (fun _ => rfl) (by rintro (_ | _ | _ | _ | i') j ob h1 h2 <;> simp at h1 h2 <;> subst h1 h2 <;> assumption) 2 i2 rfl ?_
  simp only [bytesB, byteB, List.all_cons, List.all_nil, Bool.and_true, Bool.and_eq_true, decide_eq_true_eq] at hb
  have zl := PS.zip_len rows.length A B C
  have za := PS.zip_at A B C hk
  have hAk := hA k (Nat.le_refl k)
  have kk : (0 : Int) ≤ (k : Int) ∧ (k : Int) < rows.length := ⟨by omega, by omega⟩
  have kt : ((k : Nat) : Int).toNat = k := by omega
  refine AC_body tok 0 Try.func46 rfl (by kernel_rfl) ?_
  conv => whnf
  try (refine AW_draw tok hP ?_; conv => whnf)
  refine ixI kk.1 kk.2 ?_
  conv => whnf
  refine andP (by rw [kt]; omega) ?_
  conv => whnf
  refine ixI kk.1 kk.2 ?_
  conv => whnf
  refine andP (by rw [kt, zl]; omega) ?_
  conv => whnf
  refine ⟨⟨by cases own <;> kernel_rfl⟩, ?_⟩
  conv => whnf
  rw [kt, Nat.zero_add k, hr, za]
  rw [show Z.add .i64 (([x, y, z] : List Int).tail.tail.headD 0) (([A.getD k 0, B.getD k 0, C.getD k 0] : List Int).tail.tail.headD 0) = l from (show IntKind.i64.wrap (z + C.getD k 0) = l by rw [hx]; exact Z.wrap_iid (by omega) (by omega))]
  refine ditAt2 hn (by omega) (fun v hv => ?_)
  conv => whnf
  have hvb := PD.atN_b hn.1 hn.2 l
  rw [← hv] at hvb hlb h
  have q1 : Z.rem .i64 (k : Int) W = (k : Int) % W := Int.tmod_eq_emod_of_nonneg kk.1
  have m4 := Int.ediv_le_self W kk.1
  have q2 : Z.quo .i64 (k : Int) W = (k : Int) / W := quo_pos (by omega) (by omega) (by omega)
  try (refine AW_draw tok hP ?_; conv => whnf)
  refine nzI (by omega) ?_
  conv => whnf
  refine nzI (by omega) ?_
  conv => whnf
  refine ⟨⟨by kernel_rfl⟩, ?_⟩
  conv => whnf
  rw [q1, q2]
  have m1 := Int.emod_nonneg (k : Int) (show W ≠ 0 by omega)
  have m2 := Int.emod_lt_of_pos (k : Int) (show 0 < W by omega)
  have m3 := Int.ediv_nonneg kk.1 (show 0 ≤ W by omega)
  have m5 := Int.mul_ediv_add_emod (k : Int) W
  obtain ⟨r, er⟩ : ∃ r, r = (k : Int) % W := ⟨_, rfl⟩
  obtain ⟨q, eq⟩ : ∃ q, q = (k : Int) / W := ⟨_, rfl⟩
  have wt : ((W.toNat : Nat) : Int) = W := by omega
  have ht : ((H.toNat : Nat) : Int) = H := by omega
  have erN : ((k % W.toNat : Nat) : Int) = r := by rw [er, Int.natCast_emod, wt]
  have eqN : ((k / W.toNat : Nat) : Int) = q := by rw [eq, Int.natCast_ediv, wt]
  rw [← er, ← eq]
  rw [← er] at m1 m2 m5
  rw [← eq] at m3 m4 m5
  have hlv : -5000 ≤ l - v ∧ l - v ≤ 5000 := by unfold absD at hlb; omega
  have a1 : Z.add .i64 r 1 = r + 1 := Z.wrap_iid (by omega) (by omega)
  have a2 : Z.add .i64 r (-1) = r + -1 := Z.wrap_iid (by omega) (by omega)
  have a3 : Z.add .i64 r 0 = r + 0 := Z.wrap_iid (by omega) (by omega)
  have a4 : Z.add .i64 q 0 = q + 0 := Z.wrap_iid (by omega) (by omega)
  have a5 : Z.add .i64 q 1 = q + 1 := Z.wrap_iid (by omega) (by omega)
  have qH : q < H := Int.lt_of_mul_lt_mul_left (a := W) (by omega) (by omega)
  have n1 : W * q + W ≤ rows.length := by have := Int.mul_le_mul_of_nonneg_left (show q + 1 ≤ H by omega) (show 0 ≤ W by omega); rw [Int.mul_add] at this; omega
  have n2 : q + 1 < H → W * q + W + W ≤ rows.length := fun g => by have := Int.mul_le_mul_of_nonneg_left (show q + 2 ≤ H by omega) (show 0 ≤ W by omega); rw [Int.mul_add] at this; omega
  have y0 : Z.mul .i64 (Z.add .i64 q 0) W = W * q := by rw [a4, Int.add_zero, Int.mul_comm W q]; rw [Int.mul_comm W q] at m5; exact Z.wrap_iid (by omega) (by omega)
  have y1 : q + 1 < H → Z.mul .i64 (Z.add .i64 q 1) W = W * q + W := fun g => by
    have := n2 g
    rw [a5, show W * q + W = (q + 1) * W by rw [Int.add_mul, Int.mul_comm W q, Int.one_mul]]
    rw [show W * q = q * W from Int.mul_comm W q] at this m5
    exact Z.wrap_iid (by rw [Int.add_mul, Int.one_mul]; omega) (by rw [Int.add_mul, Int.one_mul]; omega)
  have tn : ∀ m : Nat, 0 + ((m : Nat) : Int).toNat = m := fun m => by omega
  have s0 : Z.sub .i64 l v = l - v := Z.wrap_iid (by omega) (by omega)
  refine ditHands ?_
  conv => whnf
  generalize hU : handU W.toNat H.toNat k (l - v) C = U at *
  have Ul : ∀ t, (U t).length = C.length := fun t => by rw [← hU]; exact PS.handU_len _ _ _ _ _ t
  have Ub : ∀ (t m : Nat), k ≤ m → -(100000 + 5000 * (t : Int)) ≤ (U t).getD m 0 ∧ (U t).getD m 0 ≤ 100000 + 5000 * t := fun t m hm => by rw [← hU]; exact PS.handU_b hlv hA t m hm
  refine ALs.lp (ι := Int) tok 0 [42] (fun t => [.int .i64 t]) [2] (fun t => [.row true 38 [.ik .i64, .ik .i64, .ik .i64] (zip3 rows.length A B (U t.toNat))]) (fun _ => ()) (fun t => 0 ≤ t ∧ t ≤ 4) (fun t => (4 - t).toNat) (0) (⟨by omega, by omega⟩) (by rfl) (by rw [show U (Int.toNat 0) = C by rw [← hU]; rfl]; rfl) rfl (Nat.le_of_ble_eq_true rfl) (fun _ => rfl) ?_
  rintro t ⟨t0, t1⟩
  rcases (show t = 0 ∨ t = 1 ∨ t = 2 ∨ t = 3 ∨ t = 4 by omega) with rfl | rfl | rfl | rfl | rfl
  · have su : U 1 = if k % W.toNat + 1 < W.toNat then addAt (U 0) (k + 1) (7 * (l - v) / 16) else U 0 := by rw [← hU]; rfl
    obtain ⟨X, eX⟩ : ∃ X, X = U (Int.toNat 0) := ⟨_, rfl⟩
    have Xl : X.length = rows.length := by rw [eX, Ul, hCl]
    have Xb : ∀ m, k ≤ m → -200000 ≤ X.getD m 0 ∧ X.getD m 0 ≤ 200000 := fun m hm => by have u := Ub (Int.toNat 0) m hm; rw [eX]; have : ((Int.toNat 0 : Nat) : Int) = 0 := rfl; omega
    rw [show U 0 = X from eX.symm] at su
    conv => whnf
    rw [← eX]
    rw [show decide (Z.add .i64 r 1 ≥ 0) = true from decide_eq_true (by rw [a1]; omega)]
    conv => whnf
    by_cases c1 : r + 1 < W
    · rw [show decide (Z.add .i64 r 1 < W) = true from decide_eq_true (by rw [a1]; omega)]
      conv => whnf
      rw [show decide (Z.add .i64 q 0 < H) = true from decide_eq_true (by rw [a4]; omega)]
      conv => whnf
      rw [if_pos (by omega)] at su
      have XE : Z.add .i64 (Z.mul .i64 (Z.add .i64 q 0) W) (Z.add .i64 r 1) = ((k + 1 : Nat) : Int) := by rw [y0, a1, show ((k + 1 : Nat) : Int) = W * q + (r + 1) by omega]; exact Z.wrap_iid (by omega) (by omega)
      try (refine AW_draw tok hP ?_; conv => whnf)
      rw [show Z.add .i64 (Z.mul .i64 (Z.add .i64 q 0) W) (Z.add .i64 r 1) = ((k + 1 : Nat) : Int) from XE]
      refine ixI (by omega) (by omega) ?_
      conv => whnf
      refine andP (by rw [tn, PS.zip_len]; omega) ?_
      conv => whnf
      rw [show Z.mul .i64 7 (Z.sub .i64 l v) = 7 * (l - v) by rw [s0]; exact Z.wrap_iid (by omega) (by omega)]
      refine AQ_int (fun sK QK hK => numDiv (by omega) (by omega) hK) (fun d hd => ?_)
      conv => whnf
      refine ixI (by omega) (by omega) ?_
      conv => whnf
      refine andP (by rw [tn, PS.zip_len]; omega) ?_
      conv => whnf
      refine ⟨⟨by kernel_rfl⟩, ?_⟩
      conv => whnf
      replace hd : d = 7 * (l - v) / 16 := by rw [hd]; unfold divI; rw [if_neg (by omega)]; try rw [Int.one_mul]
      have xb := Xb (k + 1) (by omega)
      refine ⟨1, [.int .i64 (Z.add .i64 0 1)], [.row true _ _ _], _, rfl, rfl, rfl, ?_, ?_, ?_⟩
      · exact (rfl)
      · exact (by { rw [show U (Int.toNat 1) = addAt X (k + 1) (7 * (l - v) / 16) from su, ← hd, ← PS.zip_add2 (by omega) d, tn, PS.zip_at _ _ _ (show k + 1 < rows.length by omega), show Z.add .i64 (([(A).getD (k + 1) 0, (B).getD (k + 1) 0, (X).getD (k + 1) 0] : List Int).tail.tail.headD 0) d = X.getD (k + 1) 0 + d from Z.wrap_iid (by show _ ≤ X.getD (k + 1) 0 + d; omega) (by show X.getD (k + 1) 0 + d < _; omega)]; rfl })
      · exact ⟨by omega, by omega, by omega⟩
    · rw [if_neg (by omega)] at su
      rw [show decide (Z.add .i64 r 1 < W) = false from decide_eq_false (by rw [a1]; omega)]
      conv => whnf
      refine ⟨1, [.int .i64 (Z.add .i64 0 1)], [.row true _ _ _], _, rfl, rfl, rfl, ?_, ?_, ?_⟩
      · exact (rfl)
      · exact (by rw [show U (Int.toNat 1) = X from su])
      · exact ⟨by omega, by omega, by omega⟩
  · have su : U 2 = if k / W.toNat + 1 < H.toNat ∧ 0 < k % W.toNat then addAt (U 1) (k + W.toNat - 1) (3 * (l - v) / 16) else U 1 := by rw [← hU]; rfl
    obtain ⟨X, eX⟩ : ∃ X, X = U (Int.toNat 1) := ⟨_, rfl⟩
    have Xl : X.length = rows.length := by rw [eX, Ul, hCl]
    have Xb : ∀ m, k ≤ m → -200000 ≤ X.getD m 0 ∧ X.getD m 0 ≤ 200000 := fun m hm => by have u := Ub (Int.toNat 1) m hm; rw [eX]; have : ((Int.toNat 1 : Nat) : Int) = 1 := rfl; omega
    rw [show U 1 = X from eX.symm] at su
    conv => whnf
    rw [← eX]
    by_cases c3 : 0 < r
    · rw [show decide (Z.add .i64 r (-1) ≥ 0) = true from decide_eq_true (by rw [a2]; omega)]
      conv => whnf
      rw [show decide (Z.add .i64 r (-1) < W) = true from decide_eq_true (by rw [a2]; omega)]
      conv => whnf
      by_cases c2 : q + 1 < H
      · rw [show decide (Z.add .i64 q 1 < H) = true from decide_eq_true (by rw [a5]; omega)]
        conv => whnf
        rw [if_pos (by omega)] at su
        have n3 := n2 c2
        have XE : Z.add .i64 (Z.mul .i64 (Z.add .i64 q 1) W) (Z.add .i64 r (-1)) = ((k + W.toNat - 1 : Nat) : Int) := by have := n2 c2; rw [y1 c2, a2, show ((k + W.toNat - 1 : Nat) : Int) = W * q + W + (r + -1) by omega]; exact Z.wrap_iid (by omega) (by omega)
        try (refine AW_draw tok hP ?_; conv => whnf)
        rw [show Z.add .i64 (Z.mul .i64 (Z.add .i64 q 1) W) (Z.add .i64 r (-1)) = ((k + W.toNat - 1 : Nat) : Int) from XE]
        refine ixI (by omega) (by omega) ?_
        conv => whnf
        refine andP (by rw [tn, PS.zip_len]; omega) ?_
        conv => whnf
        rw [show Z.mul .i64 3 (Z.sub .i64 l v) = 3 * (l - v) by rw [s0]; exact Z.wrap_iid (by omega) (by omega)]
        refine AQ_int (fun sK QK hK => numDiv (by omega) (by omega) hK) (fun d hd => ?_)
        conv => whnf
        refine ixI (by omega) (by omega) ?_
        conv => whnf
        refine andP (by rw [tn, PS.zip_len]; omega) ?_
        conv => whnf
        refine ⟨⟨by kernel_rfl⟩, ?_⟩
        conv => whnf
        replace hd : d = 3 * (l - v) / 16 := by rw [hd]; unfold divI; rw [if_neg (by omega)]; try rw [Int.one_mul]
        have xb := Xb (k + W.toNat - 1) (by omega)
        refine ⟨2, [.int .i64 (Z.add .i64 1 1)], [.row true _ _ _], _, rfl, rfl, rfl, ?_, ?_, ?_⟩
        · exact (rfl)
        · exact (by { rw [show U (Int.toNat 2) = addAt X (k + W.toNat - 1) (3 * (l - v) / 16) from su, ← hd, ← PS.zip_add2 (by omega) d, tn, PS.zip_at _ _ _ (show k + W.toNat - 1 < rows.length by omega), show Z.add .i64 (([(A).getD (k + W.toNat - 1) 0, (B).getD (k + W.toNat - 1) 0, (X).getD (k + W.toNat - 1) 0] : List Int).tail.tail.headD 0) d = X.getD (k + W.toNat - 1) 0 + d from Z.wrap_iid (by show _ ≤ X.getD (k + W.toNat - 1) 0 + d; omega) (by show X.getD (k + W.toNat - 1) 0 + d < _; omega)]; rfl })
        · exact ⟨by omega, by omega, by omega⟩
      · rw [if_neg (by omega)] at su
        rw [show decide (Z.add .i64 q 1 < H) = false from decide_eq_false (by rw [a5]; omega)]
        conv => whnf
        refine ⟨2, [.int .i64 (Z.add .i64 1 1)], [.row true _ _ _], _, rfl, rfl, rfl, ?_, ?_, ?_⟩
        · exact (rfl)
        · exact (by rw [show U (Int.toNat 2) = X from su])
        · exact ⟨by omega, by omega, by omega⟩
    · rw [if_neg (by omega)] at su
      rw [show decide (Z.add .i64 r (-1) ≥ 0) = false from decide_eq_false (by rw [a2]; omega)]
      conv => whnf
      refine ⟨2, [.int .i64 (Z.add .i64 1 1)], [.row true _ _ _], _, rfl, rfl, rfl, ?_, ?_, ?_⟩
      · exact (rfl)
      · exact (by rw [show U (Int.toNat 2) = X from su])
      · exact ⟨by omega, by omega, by omega⟩
  · have su : U 3 = if k / W.toNat + 1 < H.toNat then addAt (U 2) (k + W.toNat) (5 * (l - v) / 16) else U 2 := by rw [← hU]; rfl
    obtain ⟨X, eX⟩ : ∃ X, X = U (Int.toNat 2) := ⟨_, rfl⟩
    have Xl : X.length = rows.length := by rw [eX, Ul, hCl]
    have Xb : ∀ m, k ≤ m → -200000 ≤ X.getD m 0 ∧ X.getD m 0 ≤ 200000 := fun m hm => by have u := Ub (Int.toNat 2) m hm; rw [eX]; have : ((Int.toNat 2 : Nat) : Int) = 2 := rfl; omega
    rw [show U 2 = X from eX.symm] at su
    conv => whnf
    rw [← eX]
    rw [show decide (Z.add .i64 r 0 ≥ 0) = true from decide_eq_true (by rw [a3]; omega)]
    conv => whnf
    rw [show decide (Z.add .i64 r 0 < W) = true from decide_eq_true (by rw [a3]; omega)]
    conv => whnf
    by_cases c2 : q + 1 < H
    · rw [show decide (Z.add .i64 q 1 < H) = true from decide_eq_true (by rw [a5]; omega)]
      conv => whnf
      rw [if_pos (by omega)] at su
      have n3 := n2 c2
      have XE : Z.add .i64 (Z.mul .i64 (Z.add .i64 q 1) W) (Z.add .i64 r 0) = ((k + W.toNat : Nat) : Int) := by have := n2 c2; rw [y1 c2, a3, show ((k + W.toNat : Nat) : Int) = W * q + W + (r + 0) by omega]; exact Z.wrap_iid (by omega) (by omega)
      try (refine AW_draw tok hP ?_; conv => whnf)
      rw [show Z.add .i64 (Z.mul .i64 (Z.add .i64 q 1) W) (Z.add .i64 r 0) = ((k + W.toNat : Nat) : Int) from XE]
      refine ixI (by omega) (by omega) ?_
      conv => whnf
      refine andP (by rw [tn, PS.zip_len]; omega) ?_
      conv => whnf
      rw [show Z.mul .i64 5 (Z.sub .i64 l v) = 5 * (l - v) by rw [s0]; exact Z.wrap_iid (by omega) (by omega)]
      refine AQ_int (fun sK QK hK => numDiv (by omega) (by omega) hK) (fun d hd => ?_)
      conv => whnf
      refine ixI (by omega) (by omega) ?_
      conv => whnf
      refine andP (by rw [tn, PS.zip_len]; omega) ?_
      conv => whnf
      refine ⟨⟨by kernel_rfl⟩, ?_⟩
      conv => whnf
      replace hd : d = 5 * (l - v) / 16 := by rw [hd]; unfold divI; rw [if_neg (by omega)]; try rw [Int.one_mul]
      have xb := Xb (k + W.toNat) (by omega)
      refine ⟨3, [.int .i64 (Z.add .i64 2 1)], [.row true _ _ _], _, rfl, rfl, rfl, ?_, ?_, ?_⟩
      · exact (rfl)
      · exact (by { rw [show U (Int.toNat 3) = addAt X (k + W.toNat) (5 * (l - v) / 16) from su, ← hd, ← PS.zip_add2 (by omega) d, tn, PS.zip_at _ _ _ (show k + W.toNat < rows.length by omega), show Z.add .i64 (([(A).getD (k + W.toNat) 0, (B).getD (k + W.toNat) 0, (X).getD (k + W.toNat) 0] : List Int).tail.tail.headD 0) d = X.getD (k + W.toNat) 0 + d from Z.wrap_iid (by show _ ≤ X.getD (k + W.toNat) 0 + d; omega) (by show X.getD (k + W.toNat) 0 + d < _; omega)]; rfl })
      · exact ⟨by omega, by omega, by omega⟩
    · rw [if_neg (by omega)] at su
      rw [show decide (Z.add .i64 q 1 < H) = false from decide_eq_false (by rw [a5]; omega)]
      conv => whnf
      refine ⟨3, [.int .i64 (Z.add .i64 2 1)], [.row true _ _ _], _, rfl, rfl, rfl, ?_, ?_, ?_⟩
      · exact (rfl)
      · exact (by rw [show U (Int.toNat 3) = X from su])
      · exact ⟨by omega, by omega, by omega⟩
  · have su : U 4 = if k / W.toNat + 1 < H.toNat ∧ k % W.toNat + 1 < W.toNat then addAt (U 3) (k + W.toNat + 1) ((l - v) / 16) else U 3 := by rw [← hU]; rfl
    obtain ⟨X, eX⟩ : ∃ X, X = U (Int.toNat 3) := ⟨_, rfl⟩
    have Xl : X.length = rows.length := by rw [eX, Ul, hCl]
    have Xb : ∀ m, k ≤ m → -200000 ≤ X.getD m 0 ∧ X.getD m 0 ≤ 200000 := fun m hm => by have u := Ub (Int.toNat 3) m hm; rw [eX]; have : ((Int.toNat 3 : Nat) : Int) = 3 := rfl; omega
    rw [show U 3 = X from eX.symm] at su
    conv => whnf
    rw [← eX]
    rw [show decide (Z.add .i64 r 1 ≥ 0) = true from decide_eq_true (by rw [a1]; omega)]
    conv => whnf
    by_cases c1 : r + 1 < W
    · rw [show decide (Z.add .i64 r 1 < W) = true from decide_eq_true (by rw [a1]; omega)]
      conv => whnf
      by_cases c2 : q + 1 < H
      · rw [show decide (Z.add .i64 q 1 < H) = true from decide_eq_true (by rw [a5]; omega)]
        conv => whnf
        rw [if_pos (by omega)] at su
        have n3 := n2 c2
        have XE : Z.add .i64 (Z.mul .i64 (Z.add .i64 q 1) W) (Z.add .i64 r 1) = ((k + W.toNat + 1 : Nat) : Int) := by have := n2 c2; rw [y1 c2, a1, show ((k + W.toNat + 1 : Nat) : Int) = W * q + W + (r + 1) by omega]; exact Z.wrap_iid (by omega) (by omega)
        try (refine AW_draw tok hP ?_; conv => whnf)
        rw [show Z.add .i64 (Z.mul .i64 (Z.add .i64 q 1) W) (Z.add .i64 r 1) = ((k + W.toNat + 1 : Nat) : Int) from XE]
        refine ixI (by omega) (by omega) ?_
        conv => whnf
        refine andP (by rw [tn, PS.zip_len]; omega) ?_
        conv => whnf
        rw [show Z.mul .i64 1 (Z.sub .i64 l v) = 1 * (l - v) by rw [s0]; exact Z.wrap_iid (by omega) (by omega)]
        refine AQ_int (fun sK QK hK => numDiv (by omega) (by omega) hK) (fun d hd => ?_)
        conv => whnf
        refine ixI (by omega) (by omega) ?_
        conv => whnf
        refine andP (by rw [tn, PS.zip_len]; omega) ?_
        conv => whnf
        refine ⟨⟨by kernel_rfl⟩, ?_⟩
        conv => whnf
        replace hd : d = (l - v) / 16 := by rw [hd]; unfold divI; rw [if_neg (by omega)]; try rw [Int.one_mul]
        have xb := Xb (k + W.toNat + 1) (by omega)
        refine ⟨4, [.int .i64 (Z.add .i64 3 1)], [.row true _ _ _], _, rfl, rfl, rfl, ?_, ?_, ?_⟩
        · exact (rfl)
        · exact (by { rw [show U (Int.toNat 4) = addAt X (k + W.toNat + 1) ((l - v) / 16) from su, ← hd, ← PS.zip_add2 (by omega) d, tn, PS.zip_at _ _ _ (show k + W.toNat + 1 < rows.length by omega), show Z.add .i64 (([(A).getD (k + W.toNat + 1) 0, (B).getD (k + W.toNat + 1) 0, (X).getD (k + W.toNat + 1) 0] : List Int).tail.tail.headD 0) d = X.getD (k + W.toNat + 1) 0 + d from Z.wrap_iid (by show _ ≤ X.getD (k + W.toNat + 1) 0 + d; omega) (by show X.getD (k + W.toNat + 1) 0 + d < _; omega)]; rfl })
        · exact ⟨by omega, by omega, by omega⟩
      · rw [if_neg (by omega)] at su
        rw [show decide (Z.add .i64 q 1 < H) = false from decide_eq_false (by rw [a5]; omega)]
        conv => whnf
        refine ⟨4, [.int .i64 (Z.add .i64 3 1)], [.row true _ _ _], _, rfl, rfl, rfl, ?_, ?_, ?_⟩
        · exact (rfl)
        · exact (by rw [show U (Int.toNat 4) = X from su])
        · exact ⟨by omega, by omega, by omega⟩
    · rw [if_neg (by omega)] at su
      rw [show decide (Z.add .i64 r 1 < W) = false from decide_eq_false (by rw [a1]; omega)]
      conv => whnf
      refine ⟨4, [.int .i64 (Z.add .i64 3 1)], [.row true _ _ _], _, rfl, rfl, rfl, ?_, ?_, ?_⟩
      · exact (rfl)
      · exact (by rw [show U (Int.toNat 4) = X from su])
      · exact ⟨by omega, by omega, by omega⟩
  · conv => whnf
    refine AWs.go tok 0 ?_
    conv => whnf
    refine ⟨rfl, _, rfl, rfl, ?_⟩
    rw [show U (Int.toNat 4) = handOn W.toNat H.toNat k (l - v) C by rw [← hU]; rfl]
    exact h _ rfl
