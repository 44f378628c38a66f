/- Part of the proof of a law of the seat: its functions, walked. No condition. -/
import Derived.Test.YthhhgdefejogoaaA3Ref52P
import Derived.Test.YthhhgdefejogoaaPSpr2
namespace Go.AW.A3
open Go Go.AW Go.Proofs
set_option maxRecDepth 100000
set_option maxHeartbeats 8000000
set_option linter.unusedVariables false
theorem refChannel_0 {W H n : Int} {rows : List (List Int)} {e : TypeId} {own : Bool} (hl : rows.length ≤ 64) (hfit : Fit3 rows) (hn : 2 ≤ n ∧ n ≤ 16) (hp : picB W H rows = true) {i : Nat} {s : List Ob} (hs : s[i]? = some (.row own e [.ik .i64, .ik .i64, .ik .i64] rows)) {Q : AV → List Ob → Prop}
    (h : Q (.sl s.length 0 rows.length none) (s ++ [.row true 3 [.ik .i64] (rows1 (spUpto n W.toNat H.toNat (colR 0 rows) rows.length))])) : AC Try.prog 49 [.agg [.int .i64 W, .int .i64 H, .sl i 0 rows.length none], .int .i64 0, .int .i64 n] s Q := by
  refine AC_mk1 (args' := [.agg [.int .i64 W, .int .i64 H, .sl 0 0 rows.length none], .int .i64 0, .int .i64 n]) (L := [.row own e [.ik .i64, .ik .i64, .ik .i64] rows]) [i] (by simp) rfl rfl (by rintro (_ | i') j ob h1 h2 <;> simp at h1 h2; subst h1 h2; exact hs) (.sl 1 0 rows.length none) 3 (by simp) ?_
  obtain ⟨w1, w2, w3⟩ := PPi.pic_sides hp
  have hlen : 0 < (rows.length : Int) := by have m := PV.mul_le (a := W) (b := H) (A := 256) (B := 256) (by omega) (by omega); have := Int.mul_pos (show 0 < W by omega) (show 0 < H by omega); omega
  refine AC_body tok 0 Try.func49 rfl (by kernel_rfl) ?_
  conv => whnf
  refine ALs.round tok 0 ?_
  conv => whnf
  rw [decide_eq_true hlen]
  conv => whnf
  refine ixI (by omega) hlen ?_
  conv => whnf
  refine rowI (by omega) hlen ?_
  conv => whnf
  obtain ⟨x, y, z, er, hx, hy, hz⟩ := hfit (0 + Int.toNat 0) (by omega)
  rw [er]
  have cl := PS.col_len 0 rows
  have f1 : rows1 ((colR 0 rows).take 1) = [[([x, y, z] : List Int).headD 0]] := by
    have t1 := PR.take_succ (colR 0 rows) 0 (k := 0) (by omega)
    rw [← t1, PS.col_at 0 (by omega), show rows.getD 0 [] = [x, y, z] from er]; rfl
  clear er hx hy hz
  refine ALs.lp (ι := Nat) tok 0 [7, 8] (fun k => [.sl 3 0 k none, .int .i64 (k : Int)]) [3] (fun k => [.row true 3 [.ik .i64] (rows1 ((colR 0 rows).take k))]) (fun _ => ()) (fun k => 1 ≤ k ∧ k ≤ rows.length) (fun k => rows.length - k) (1) (⟨by omega, by omega⟩) (by rfl) (by rw [f1]; rfl) rfl (Nat.le_of_ble_eq_true rfl) (fun _ => rfl) ?_
  clear f1
  rintro k ⟨k0, k1⟩
  conv => whnf
  by_cases dk : (k : Int) < rows.length
  · refine ifT (decide_eq_true dk) ?_
    conv => whnf
    refine ixI (by omega) dk ?_
    conv => whnf
    refine rowI (by omega) dk ?_
    conv => whnf
    have kt : 0 + ((k : Nat) : Int).toNat = k := by omega
    obtain ⟨x, y, z, er, hx, hy, hz⟩ := hfit k (by omega)
    rw [kt, er]
    have tl : (rows1 (List.take k (colR 0 rows))).length = k := by rw [PS.r1_len, List.length_take]; omega
    refine andI (by rw [tl]; simp; omega) ?_
    conv => whnf
    have ek : Z.add .i64 (k : Int) 1 = ((k + 1 : Nat) : Int) := Z.wrap_iid (by omega) (by omega)
    refine ⟨k + 1, [.sl 3 0 (k + 1) none, .int .i64 (Z.add .i64 (k : Int) 1)], [.row true _ _ _], _, rfl, rfl, rfl, ?_, ?_, ?_⟩
    · exact (by rw [ek])
    · exact (by { have t1 := PR.take_succ (colR 0 rows) 0 (k := k) (by omega); rw [PS.col_at 0 (by omega), er] at t1; rw [← t1, ← PS.r1_app]; rfl })
    · exact ⟨by omega, by omega, by omega⟩
  · refine ifF (decide_eq_false dk) ?_
    conv => whnf
    refine AWs.go tok 0 ?_
    conv => whnf
    obtain rfl : k = rows.length := by omega
    rw [show List.take rows.length (colR 0 rows) = colR 0 rows by rw [← cl, List.take_length]]
    refine ALs.lp (ι := Nat) tok 0 [9] (fun k => [.int .i64 (k : Int)]) [3] (fun k => [.row true 3 [.ik .i64] (rows1 (spUpto n W.toNat H.toNat (colR 0 rows) k))]) (fun _ => ()) (fun k => k ≤ rows.length) (fun k => rows.length - k) (0) (Nat.zero_le _) (by rfl) (by rfl) rfl (Nat.le_of_ble_eq_true rfl) (fun _ => rfl) ?_
    rintro k k1
    conv => whnf
    by_cases dk : (k : Int) < rows.length
    · refine ifT (decide_eq_true dk) ?_
      conv => whnf
      replace dk : k < rows.length := by omega
      have kk : (0 : Int) ≤ (k : Int) ∧ (k : Int) < rows.length := ⟨by omega, by omega⟩
      have kt : 0 + ((k : Nat) : Int).toNat = k := by omega
      have hWn : 0 < W.toNat := by omega
      have sb := fun m hm => PD.sp_x (H := H.toNat) hn.1 hn.2 hWn (fun m => PS.col_b hp hfit (show 0 < 3 by decide) m) k m hm
      have sl := PD.spUpto_len n W.toNat H.toNat (colR 0 rows) k
      rw [cl] at sl
      have es := PD.spUpto_set n W.toNat H.toNat (colR 0 rows) k
      generalize spUpto n W.toNat H.toNat (colR 0 rows) k = S at *
      have lb := sb k (Nat.le_refl k)
      have r0 := PS.r1_at (l := S) (m := k) (by omega)
      generalize eL : S.getD k 0 = l at *
      refine ixI kk.1 kk.2 ?_
      conv => whnf
      refine andP (by rw [kt, PS.r1_len]; omega) ?_
      conv => whnf
      rw [kt, r0]
      refine refByte hn (by show -1048576 ≤ l ∧ l ≤ 1048576; omega) (fun v hv => ?_)
      conv => whnf
      replace hv : v = atN n l := hv
      have vb := PD.atN_b hn.1 hn.2 l
      rw [← hv] at vb es
      refine ixI kk.1 kk.2 ?_
      conv => whnf
      refine andP (by rw [kt, PS.r1_len]; omega) ?_
      conv => whnf
      refine ixI kk.1 kk.2 ?_
      conv => whnf
      refine andP (by rw [kt, PS.r1_len]; omega) ?_
      conv => whnf
      try rw [kt]
      try (refine AW_draw tok hP ?_; conv => whnf)
      refine nzI (by omega) ?_
      conv => whnf
      refine nzI (by omega) ?_
      conv => whnf
      refine ⟨⟨by kernel_rfl⟩, ?_⟩
      conv => whnf
      have m4 := Int.ediv_le_self W kk.1
      have q1 : Z.rem .i64 (k : Int) W = (k : Int) % W := Int.tmod_eq_emod_of_nonneg kk.1
      have q2 : Z.quo .i64 (k : Int) W = (k : Int) / W := quo_pos (by omega) (by omega) (by omega)
      have m1 := Int.emod_nonneg (k : Int) (show W ≠ 0 by omega)
      have m2 := Int.emod_lt_of_pos (k : Int) (show 0 < W by omega)
      have m3 := Int.ediv_nonneg kk.1 (show 0 ≤ W by omega)
      have m5 := Int.mul_ediv_add_emod (k : Int) W
      rw [q1, q2, PS.r1_set]
      try rw [r0]
      have s0 : Z.sub .i64 (([l] : List Int).headD 0) v = l - v := Z.wrap_iid (by show _ ≤ l - v; omega) (by show l - v < _; omega)
      try rw [s0]
      obtain ⟨r, er⟩ : ∃ r, r = (k : Int) % W := ⟨_, rfl⟩
      obtain ⟨q, eq⟩ : ∃ q, q = (k : Int) / W := ⟨_, rfl⟩
      have wt : ((W.toNat : Nat) : Int) = W := by omega
      have ht : ((H.toNat : Nat) : Int) = H := by omega
      have erN : ((k % W.toNat : Nat) : Int) = r := by rw [er, Int.natCast_emod, wt]
      have eqN : ((k / W.toNat : Nat) : Int) = q := by rw [eq, Int.natCast_ediv, wt]
      rw [← er, ← eq]
      rw [← er] at m1 m2 m5
      rw [← eq] at m3 m4 m5
      have a1 : Z.add .i64 r 1 = r + 1 := Z.wrap_iid (by omega) (by omega)
      have a5 : Z.add .i64 q 1 = q + 1 := Z.wrap_iid (by omega) (by omega)
      have qH : q < H := Int.lt_of_mul_lt_mul_left (a := W) (by omega) (by omega)
      have n1 : W * q + W ≤ rows.length := by have := Int.mul_le_mul_of_nonneg_left (show q + 1 ≤ H by omega) (show 0 ≤ W by omega); rw [Int.mul_add] at this; omega
      have n2 : q + 1 < H → W * q + W + W ≤ rows.length := fun g => by have := Int.mul_le_mul_of_nonneg_left (show q + 2 ≤ H by omega) (show 0 ≤ W by omega); rw [Int.mul_add] at this; omega
      have UB : ∀ (t m : Nat), k ≤ m → -(1000 + 5000 * (t : Int)) ≤ (handU W.toNat H.toNat k (l - v) (S.set k v) t).getD m 0 ∧ (handU W.toNat H.toNat k (l - v) (S.set k v) t).getD m 0 ≤ 1000 + 5000 * (t : Int) := fun t m hm => by
        have base : ∀ m, k ≤ m → -1000 ≤ (S.set k v).getD m 0 ∧ (S.set k v).getD m 0 ≤ 1000 := fun m hm => by
          by_cases e : k = m
          · subst e; rw [List.getD_eq_getElem?_getD, List.getElem?_set_self (by omega)]; show -1000 ≤ v ∧ v ≤ 1000; omega
          · rw [PD.getD_set_ne _ _ _ _ e]; have := sb m hm; omega
        exact PS.handU_b' (by omega) base t m hm
      have tn : ∀ m : Nat, 0 + ((m : Nat) : Int).toNat = m := fun m => by omega
      have UL : ∀ t, (handU W.toNat H.toNat k (l - v) (S.set k v) t).length = rows.length := fun t => by rw [PS.handU_len, List.length_set, sl]
      rw [← handU_4] at es
      generalize hU : handU W.toNat H.toNat k (l - v) (S.set k v) = U at *
      have u0 : S.set k v = U 0 := by rw [← hU]; rfl
      have u1 : U 1 = if k % W.toNat + 1 < W.toNat then addAt (U 0) (k + 1) (7 * (l - v) / 16) else U 0 := by rw [← hU]; rfl
      have u2 : U 2 = if k / W.toNat + 1 < H.toNat ∧ 0 < k % W.toNat then addAt (U 1) (k + W.toNat - 1) (3 * (l - v) / 16) else U 1 := by rw [← hU]; rfl
      have u3 : U 3 = if k / W.toNat + 1 < H.toNat then addAt (U 2) (k + W.toNat) (5 * (l - v) / 16) else U 2 := by rw [← hU]; rfl
      have u4 : U 4 = if k / W.toNat + 1 < H.toNat ∧ k % W.toNat + 1 < W.toNat then addAt (U 3) (k + W.toNat + 1) ((l - v) / 16) else U 3 := by rw [← hU]; rfl
      rw [u0]
      clear hU sb u0
      by_cases c1 : r + 1 < W
      · rw [show decide (Z.add .i64 r 1 < W) = true from decide_eq_true (by rw [a1]; omega)]
        conv => whnf
        rw [if_pos (by omega)] at u1
        try (refine AW_draw tok hP ?_; conv => whnf)
        try rw [show Z.add .i64 (k : Int) 1 = ((k + 1 : Nat) : Int) by exact Z.wrap_iid (by omega) (by omega)]
        refine ixI (by omega) (by omega) ?_
        conv => whnf
        refine andP (by rw [tn, PS.r1_len, UL]; omega) ?_
        conv => whnf
        try rw [show Z.mul .i64 7 (l - v) = 7 * (l - v) by exact Z.wrap_iid (by omega) (by omega)]
        refine AQ_int (fun sK QK hK => refDiv (by omega) (by omega) hK) (fun d hd => ?_)
        conv => whnf
        try rw [show Z.add .i64 (k : Int) 1 = ((k + 1 : Nat) : Int) by exact Z.wrap_iid (by omega) (by omega)]
        refine ixI (by omega) (by omega) ?_
        conv => whnf
        refine andP (by rw [tn, PS.r1_len, UL]; omega) ?_
        conv => whnf
        refine ⟨⟨by kernel_rfl⟩, ?_⟩
        conv => whnf
        replace hd : d = 7 * (l - v) / 16 := by rw [hd]; unfold divI; rw [if_neg (by omega)]
        have ub := UB 0 (k + 1) (by omega)
        have ul := UL 0
        rw [tn, PS.r1_at (by omega), show Z.add .i64 (([(U 0).getD (k + 1) 0] : List Int).headD 0) d = (U 0).getD (k + 1) 0 + d from Z.wrap_iid (by show _ ≤ (U 0).getD (k + 1) 0 + d; omega) (by show (U 0).getD (k + 1) 0 + d < _; omega), PS.r1_add, hd, ← u1]
        by_cases c2 : q + 1 < H
        · rw [show decide (Z.add .i64 q 1 < H) = true from decide_eq_true (by rw [a5]; omega)]
          conv => whnf
          by_cases c3 : 0 < r
          · rw [show decide (r > 0) = true from decide_eq_true (by omega)]
            conv => whnf
            rw [if_pos (by omega)] at u2
            have n3 := n2 c2
            try (refine AW_draw tok hP ?_; conv => whnf)
            try rw [show Z.sub .i64 (Z.add .i64 (k : Int) W) 1 = ((k + W.toNat - 1 : Nat) : Int) by rw [show Z.add .i64 (k : Int) W = k + W from Z.wrap_iid (by omega) (by omega), show ((k + W.toNat - 1 : Nat) : Int) = k + W - 1 by omega]; exact Z.wrap_iid (by omega) (by omega)]
            refine ixI (by omega) (by omega) ?_
            conv => whnf
            refine andP (by rw [tn, PS.r1_len, UL]; omega) ?_
            conv => whnf
            try rw [show Z.mul .i64 3 (l - v) = 3 * (l - v) by exact Z.wrap_iid (by omega) (by omega)]
            refine AQ_int (fun sK QK hK => refDiv (by omega) (by omega) hK) (fun d hd => ?_)
            conv => whnf
            try rw [show Z.sub .i64 (Z.add .i64 (k : Int) W) 1 = ((k + W.toNat - 1 : Nat) : Int) by rw [show Z.add .i64 (k : Int) W = k + W from Z.wrap_iid (by omega) (by omega), show ((k + W.toNat - 1 : Nat) : Int) = k + W - 1 by omega]; exact Z.wrap_iid (by omega) (by omega)]
            refine ixI (by omega) (by omega) ?_
            conv => whnf
            refine andP (by rw [tn, PS.r1_len, UL]; omega) ?_
            conv => whnf
            refine ⟨⟨by kernel_rfl⟩, ?_⟩
            conv => whnf
            replace hd : d = 3 * (l - v) / 16 := by rw [hd]; unfold divI; rw [if_neg (by omega)]
            have ub := UB 1 (k + W.toNat - 1) (by omega)
            have ul := UL 1
            rw [tn, PS.r1_at (by omega), show Z.add .i64 (([(U 1).getD (k + W.toNat - 1) 0] : List Int).headD 0) d = (U 1).getD (k + W.toNat - 1) 0 + d from Z.wrap_iid (by show _ ≤ (U 1).getD (k + W.toNat - 1) 0 + d; omega) (by show (U 1).getD (k + W.toNat - 1) 0 + d < _; omega), PS.r1_add, hd, ← u2]
            rw [show decide (Z.add .i64 q 1 < H) = true from decide_eq_true (by rw [a5]; omega)]
            conv => whnf
            rw [if_pos (by omega)] at u3
            have n3 := n2 c2
            try (refine AW_draw tok hP ?_; conv => whnf)
            try rw [show Z.add .i64 (k : Int) W = ((k + W.toNat : Nat) : Int) by rw [show ((k + W.toNat : Nat) : Int) = k + W by omega]; exact Z.wrap_iid (by omega) (by omega)]
            refine ixI (by omega) (by omega) ?_
            conv => whnf
            refine andP (by rw [tn, PS.r1_len, UL]; omega) ?_
            conv => whnf
            try rw [show Z.mul .i64 5 (l - v) = 5 * (l - v) by exact Z.wrap_iid (by omega) (by omega)]
            refine AQ_int (fun sK QK hK => refDiv (by omega) (by omega) hK) (fun d hd => ?_)
            conv => whnf
            try rw [show Z.add .i64 (k : Int) W = ((k + W.toNat : Nat) : Int) by rw [show ((k + W.toNat : Nat) : Int) = k + W by omega]; exact Z.wrap_iid (by omega) (by omega)]
            refine ixI (by omega) (by omega) ?_
            conv => whnf
            refine andP (by rw [tn, PS.r1_len, UL]; omega) ?_
            conv => whnf
            refine ⟨⟨by kernel_rfl⟩, ?_⟩
            conv => whnf
            replace hd : d = 5 * (l - v) / 16 := by rw [hd]; unfold divI; rw [if_neg (by omega)]
            have ub := UB 2 (k + W.toNat) (by omega)
            have ul := UL 2
            rw [tn, PS.r1_at (by omega), show Z.add .i64 (([(U 2).getD (k + W.toNat) 0] : List Int).headD 0) d = (U 2).getD (k + W.toNat) 0 + d from Z.wrap_iid (by show _ ≤ (U 2).getD (k + W.toNat) 0 + d; omega) (by show (U 2).getD (k + W.toNat) 0 + d < _; omega), PS.r1_add, hd, ← u3]
            rw [show decide (Z.add .i64 q 1 < H) = true from decide_eq_true (by rw [a5]; omega)]
            conv => whnf
            rw [show decide (Z.add .i64 r 1 < W) = true from decide_eq_true (by rw [a1]; omega)]
            conv => whnf
            rw [if_pos (by omega)] at u4
            have n3 := n2 c2
            try (refine AW_draw tok hP ?_; conv => whnf)
            try rw [show Z.add .i64 (Z.add .i64 (k : Int) W) 1 = ((k + W.toNat + 1 : Nat) : Int) by rw [show Z.add .i64 (k : Int) W = k + W from Z.wrap_iid (by omega) (by omega), show ((k + W.toNat + 1 : Nat) : Int) = k + W + 1 by omega]; exact Z.wrap_iid (by omega) (by omega)]
            refine ixI (by omega) (by omega) ?_
            conv => whnf
            refine andP (by rw [tn, PS.r1_len, UL]; omega) ?_
            conv => whnf
            try rw [show l - v = l - v by exact Z.wrap_iid (by omega) (by omega)]
            refine AQ_int (fun sK QK hK => refDiv (by omega) (by omega) hK) (fun d hd => ?_)
            conv => whnf
            try rw [show Z.add .i64 (Z.add .i64 (k : Int) W) 1 = ((k + W.toNat + 1 : Nat) : Int) by rw [show Z.add .i64 (k : Int) W = k + W from Z.wrap_iid (by omega) (by omega), show ((k + W.toNat + 1 : Nat) : Int) = k + W + 1 by omega]; exact Z.wrap_iid (by omega) (by omega)]
            refine ixI (by omega) (by omega) ?_
            conv => whnf
            refine andP (by rw [tn, PS.r1_len, UL]; omega) ?_
            conv => whnf
            refine ⟨⟨by kernel_rfl⟩, ?_⟩
            conv => whnf
            replace hd : d = (l - v) / 16 := by rw [hd]; unfold divI; rw [if_neg (by omega)]
            have ub := UB 3 (k + W.toNat + 1) (by omega)
            have ul := UL 3
            rw [tn, PS.r1_at (by omega), show Z.add .i64 (([(U 3).getD (k + W.toNat + 1) 0] : List Int).headD 0) d = (U 3).getD (k + W.toNat + 1) 0 + d from Z.wrap_iid (by show _ ≤ (U 3).getD (k + W.toNat + 1) 0 + d; omega) (by show (U 3).getD (k + W.toNat + 1) 0 + d < _; omega), PS.r1_add, hd, ← u4]
            have ek : Z.add .i64 (k : Int) 1 = ((k + 1 : Nat) : Int) := Z.wrap_iid (by omega) (by omega)
            refine ⟨k + 1, [.int .i64 (Z.add .i64 (k : Int) 1)], [.row true _ _ _], _, rfl, rfl, rfl, ?_, ?_, ?_⟩
            · exact (by rw [ek])
            · exact (by rw [es])
            · exact ⟨by omega, by omega⟩
          · rw [show decide (r > 0) = false from decide_eq_false (by omega)]
            conv => whnf
            rw [if_neg (by omega)] at u2
            rw [← u2]
            rw [show decide (Z.add .i64 q 1 < H) = true from decide_eq_true (by rw [a5]; omega)]
            conv => whnf
            rw [if_pos (by omega)] at u3
            have n3 := n2 c2
            try (refine AW_draw tok hP ?_; conv => whnf)
            try rw [show Z.add .i64 (k : Int) W = ((k + W.toNat : Nat) : Int) by rw [show ((k + W.toNat : Nat) : Int) = k + W by omega]; exact Z.wrap_iid (by omega) (by omega)]
            refine ixI (by omega) (by omega) ?_
            conv => whnf
            refine andP (by rw [tn, PS.r1_len, UL]; omega) ?_
            conv => whnf
            try rw [show Z.mul .i64 5 (l - v) = 5 * (l - v) by exact Z.wrap_iid (by omega) (by omega)]
            refine AQ_int (fun sK QK hK => refDiv (by omega) (by omega) hK) (fun d hd => ?_)
            conv => whnf
            try rw [show Z.add .i64 (k : Int) W = ((k + W.toNat : Nat) : Int) by rw [show ((k + W.toNat : Nat) : Int) = k + W by omega]; exact Z.wrap_iid (by omega) (by omega)]
            refine ixI (by omega) (by omega) ?_
            conv => whnf
            refine andP (by rw [tn, PS.r1_len, UL]; omega) ?_
            conv => whnf
            refine ⟨⟨by kernel_rfl⟩, ?_⟩
            conv => whnf
            replace hd : d = 5 * (l - v) / 16 := by rw [hd]; unfold divI; rw [if_neg (by omega)]
            have ub := UB 2 (k + W.toNat) (by omega)
            have ul := UL 2
            rw [tn, PS.r1_at (by omega), show Z.add .i64 (([(U 2).getD (k + W.toNat) 0] : List Int).headD 0) d = (U 2).getD (k + W.toNat) 0 + d from Z.wrap_iid (by show _ ≤ (U 2).getD (k + W.toNat) 0 + d; omega) (by show (U 2).getD (k + W.toNat) 0 + d < _; omega), PS.r1_add, hd, ← u3]
            rw [show decide (Z.add .i64 q 1 < H) = true from decide_eq_true (by rw [a5]; omega)]
            conv => whnf
            rw [show decide (Z.add .i64 r 1 < W) = true from decide_eq_true (by rw [a1]; omega)]
            conv => whnf
            rw [if_pos (by omega)] at u4
            have n3 := n2 c2
            try (refine AW_draw tok hP ?_; conv => whnf)
            try rw [show Z.add .i64 (Z.add .i64 (k : Int) W) 1 = ((k + W.toNat + 1 : Nat) : Int) by rw [show Z.add .i64 (k : Int) W = k + W from Z.wrap_iid (by omega) (by omega), show ((k + W.toNat + 1 : Nat) : Int) = k + W + 1 by omega]; exact Z.wrap_iid (by omega) (by omega)]
            refine ixI (by omega) (by omega) ?_
            conv => whnf
            refine andP (by rw [tn, PS.r1_len, UL]; omega) ?_
            conv => whnf
            try rw [show l - v = l - v by exact Z.wrap_iid (by omega) (by omega)]
            refine AQ_int (fun sK QK hK => refDiv (by omega) (by omega) hK) (fun d hd => ?_)
            conv => whnf
            try rw [show Z.add .i64 (Z.add .i64 (k : Int) W) 1 = ((k + W.toNat + 1 : Nat) : Int) by rw [show Z.add .i64 (k : Int) W = k + W from Z.wrap_iid (by omega) (by omega), show ((k + W.toNat + 1 : Nat) : Int) = k + W + 1 by omega]; exact Z.wrap_iid (by omega) (by omega)]
            refine ixI (by omega) (by omega) ?_
            conv => whnf
            refine andP (by rw [tn, PS.r1_len, UL]; omega) ?_
            conv => whnf
            refine ⟨⟨by kernel_rfl⟩, ?_⟩
            conv => whnf
            replace hd : d = (l - v) / 16 := by rw [hd]; unfold divI; rw [if_neg (by omega)]
            have ub := UB 3 (k + W.toNat + 1) (by omega)
            have ul := UL 3
            rw [tn, PS.r1_at (by omega), show Z.add .i64 (([(U 3).getD (k + W.toNat + 1) 0] : List Int).headD 0) d = (U 3).getD (k + W.toNat + 1) 0 + d from Z.wrap_iid (by show _ ≤ (U 3).getD (k + W.toNat + 1) 0 + d; omega) (by show (U 3).getD (k + W.toNat + 1) 0 + d < _; omega), PS.r1_add, hd, ← u4]
            have ek : Z.add .i64 (k : Int) 1 = ((k + 1 : Nat) : Int) := Z.wrap_iid (by omega) (by omega)
            refine ⟨k + 1, [.int .i64 (Z.add .i64 (k : Int) 1)], [.row true _ _ _], _, rfl, rfl, rfl, ?_, ?_, ?_⟩
            · exact (by rw [ek])
            · exact (by rw [es])
            · exact ⟨by omega, by omega⟩
        · rw [show decide (Z.add .i64 q 1 < H) = false from decide_eq_false (by rw [a5]; omega)]
          conv => whnf
          rw [if_neg (by omega)] at u2
          rw [← u2]
          rw [show decide (Z.add .i64 q 1 < H) = false from decide_eq_false (by rw [a5]; omega)]
          conv => whnf
          rw [if_neg (by omega)] at u3
          rw [← u3]
          rw [show decide (Z.add .i64 q 1 < H) = false from decide_eq_false (by rw [a5]; omega)]
          conv => whnf
          rw [if_neg (by omega)] at u4
          rw [← u4]
          have ek : Z.add .i64 (k : Int) 1 = ((k + 1 : Nat) : Int) := Z.wrap_iid (by omega) (by omega)
          refine ⟨k + 1, [.int .i64 (Z.add .i64 (k : Int) 1)], [.row true _ _ _], _, rfl, rfl, rfl, ?_, ?_, ?_⟩
          · exact (by rw [ek])
          · exact (by rw [es])
          · exact ⟨by omega, by omega⟩
      · rw [show decide (Z.add .i64 r 1 < W) = false from decide_eq_false (by rw [a1]; omega)]
        conv => whnf
        rw [if_neg (by omega)] at u1
        rw [← u1]
        by_cases c2 : q + 1 < H
        · rw [show decide (Z.add .i64 q 1 < H) = true from decide_eq_true (by rw [a5]; omega)]
          conv => whnf
          by_cases c3 : 0 < r
          · rw [show decide (r > 0) = true from decide_eq_true (by omega)]
            conv => whnf
            rw [if_pos (by omega)] at u2
            have n3 := n2 c2
            try (refine AW_draw tok hP ?_; conv => whnf)
            try rw [show Z.sub .i64 (Z.add .i64 (k : Int) W) 1 = ((k + W.toNat - 1 : Nat) : Int) by rw [show Z.add .i64 (k : Int) W = k + W from Z.wrap_iid (by omega) (by omega), show ((k + W.toNat - 1 : Nat) : Int) = k + W - 1 by omega]; exact Z.wrap_iid (by omega) (by omega)]
            refine ixI (by omega) (by omega) ?_
            conv => whnf
            refine andP (by rw [tn, PS.r1_len, UL]; omega) ?_
            conv => whnf
            try rw [show Z.mul .i64 3 (l - v) = 3 * (l - v) by exact Z.wrap_iid (by omega) (by omega)]
            refine AQ_int (fun sK QK hK => refDiv (by omega) (by omega) hK) (fun d hd => ?_)
            conv => whnf
            try rw [show Z.sub .i64 (Z.add .i64 (k : Int) W) 1 = ((k + W.toNat - 1 : Nat) : Int) by rw [show Z.add .i64 (k : Int) W = k + W from Z.wrap_iid (by omega) (by omega), show ((k + W.toNat - 1 : Nat) : Int) = k + W - 1 by omega]; exact Z.wrap_iid (by omega) (by omega)]
            refine ixI (by omega) (by omega) ?_
            conv => whnf
            refine andP (by rw [tn, PS.r1_len, UL]; omega) ?_
            conv => whnf
            refine ⟨⟨by kernel_rfl⟩, ?_⟩
            conv => whnf
            replace hd : d = 3 * (l - v) / 16 := by rw [hd]; unfold divI; rw [if_neg (by omega)]
            have ub := UB 1 (k + W.toNat - 1) (by omega)
            have ul := UL 1
            rw [tn, PS.r1_at (by omega), show Z.add .i64 (([(U 1).getD (k + W.toNat - 1) 0] : List Int).headD 0) d = (U 1).getD (k + W.toNat - 1) 0 + d from Z.wrap_iid (by show _ ≤ (U 1).getD (k + W.toNat - 1) 0 + d; omega) (by show (U 1).getD (k + W.toNat - 1) 0 + d < _; omega), PS.r1_add, hd, ← u2]
            rw [show decide (Z.add .i64 q 1 < H) = true from decide_eq_true (by rw [a5]; omega)]
            conv => whnf
            rw [if_pos (by omega)] at u3
            have n3 := n2 c2
            try (refine AW_draw tok hP ?_; conv => whnf)
            try rw [show Z.add .i64 (k : Int) W = ((k + W.toNat : Nat) : Int) by rw [show ((k + W.toNat : Nat) : Int) = k + W by omega]; exact Z.wrap_iid (by omega) (by omega)]
            refine ixI (by omega) (by omega) ?_
            conv => whnf
            refine andP (by rw [tn, PS.r1_len, UL]; omega) ?_
            conv => whnf
            try rw [show Z.mul .i64 5 (l - v) = 5 * (l - v) by exact Z.wrap_iid (by omega) (by omega)]
            refine AQ_int (fun sK QK hK => refDiv (by omega) (by omega) hK) (fun d hd => ?_)
            conv => whnf
            try rw [show Z.add .i64 (k : Int) W = ((k + W.toNat : Nat) : Int) by rw [show ((k + W.toNat : Nat) : Int) = k + W by omega]; exact Z.wrap_iid (by omega) (by omega)]
            refine ixI (by omega) (by omega) ?_
            conv => whnf
            refine andP (by rw [tn, PS.r1_len, UL]; omega) ?_
            conv => whnf
            refine ⟨⟨by kernel_rfl⟩, ?_⟩
            conv => whnf
            replace hd : d = 5 * (l - v) / 16 := by rw [hd]; unfold divI; rw [if_neg (by omega)]
            have ub := UB 2 (k + W.toNat) (by omega)
            have ul := UL 2
            rw [tn, PS.r1_at (by omega), show Z.add .i64 (([(U 2).getD (k + W.toNat) 0] : List Int).headD 0) d = (U 2).getD (k + W.toNat) 0 + d from Z.wrap_iid (by show _ ≤ (U 2).getD (k + W.toNat) 0 + d; omega) (by show (U 2).getD (k + W.toNat) 0 + d < _; omega), PS.r1_add, hd, ← u3]
            rw [show decide (Z.add .i64 q 1 < H) = true from decide_eq_true (by rw [a5]; omega)]
            conv => whnf
            rw [show decide (Z.add .i64 r 1 < W) = false from decide_eq_false (by rw [a1]; omega)]
            conv => whnf
            rw [if_neg (by omega)] at u4
            rw [← u4]
            have ek : Z.add .i64 (k : Int) 1 = ((k + 1 : Nat) : Int) := Z.wrap_iid (by omega) (by omega)
            refine ⟨k + 1, [.int .i64 (Z.add .i64 (k : Int) 1)], [.row true _ _ _], _, rfl, rfl, rfl, ?_, ?_, ?_⟩
            · exact (by rw [ek])
            · exact (by rw [es])
            · exact ⟨by omega, by omega⟩
          · rw [show decide (r > 0) = false from decide_eq_false (by omega)]
            conv => whnf
            rw [if_neg (by omega)] at u2
            rw [← u2]
            rw [show decide (Z.add .i64 q 1 < H) = true from decide_eq_true (by rw [a5]; omega)]
            conv => whnf
            rw [if_pos (by omega)] at u3
            have n3 := n2 c2
            try (refine AW_draw tok hP ?_; conv => whnf)
            try rw [show Z.add .i64 (k : Int) W = ((k + W.toNat : Nat) : Int) by rw [show ((k + W.toNat : Nat) : Int) = k + W by omega]; exact Z.wrap_iid (by omega) (by omega)]
            refine ixI (by omega) (by omega) ?_
            conv => whnf
            refine andP (by rw [tn, PS.r1_len, UL]; omega) ?_
            conv => whnf
            try rw [show Z.mul .i64 5 (l - v) = 5 * (l - v) by exact Z.wrap_iid (by omega) (by omega)]
            refine AQ_int (fun sK QK hK => refDiv (by omega) (by omega) hK) (fun d hd => ?_)
            conv => whnf
            try rw [show Z.add .i64 (k : Int) W = ((k + W.toNat : Nat) : Int) by rw [show ((k + W.toNat : Nat) : Int) = k + W by omega]; exact Z.wrap_iid (by omega) (by omega)]
            refine ixI (by omega) (by omega) ?_
            conv => whnf
            refine andP (by rw [tn, PS.r1_len, UL]; omega) ?_
            conv => whnf
            refine ⟨⟨by kernel_rfl⟩, ?_⟩
            conv => whnf
            replace hd : d = 5 * (l - v) / 16 := by rw [hd]; unfold divI; rw [if_neg (by omega)]
            have ub := UB 2 (k + W.toNat) (by omega)
            have ul := UL 2
            rw [tn, PS.r1_at (by omega), show Z.add .i64 (([(U 2).getD (k + W.toNat) 0] : List Int).headD 0) d = (U 2).getD (k + W.toNat) 0 + d from Z.wrap_iid (by show _ ≤ (U 2).getD (k + W.toNat) 0 + d; omega) (by show (U 2).getD (k + W.toNat) 0 + d < _; omega), PS.r1_add, hd, ← u3]
            rw [show decide (Z.add .i64 q 1 < H) = true from decide_eq_true (by rw [a5]; omega)]
            conv => whnf
            rw [show decide (Z.add .i64 r 1 < W) = false from decide_eq_false (by rw [a1]; omega)]
            conv => whnf
            rw [if_neg (by omega)] at u4
            rw [← u4]
            have ek : Z.add .i64 (k : Int) 1 = ((k + 1 : Nat) : Int) := Z.wrap_iid (by omega) (by omega)
            refine ⟨k + 1, [.int .i64 (Z.add .i64 (k : Int) 1)], [.row true _ _ _], _, rfl, rfl, rfl, ?_, ?_, ?_⟩
            · exact (by rw [ek])
            · exact (by rw [es])
            · exact ⟨by omega, by omega⟩
        · rw [show decide (Z.add .i64 q 1 < H) = false from decide_eq_false (by rw [a5]; omega)]
          conv => whnf
          rw [if_neg (by omega)] at u2
          rw [← u2]
          rw [show decide (Z.add .i64 q 1 < H) = false from decide_eq_false (by rw [a5]; omega)]
          conv => whnf
          rw [if_neg (by omega)] at u3
          rw [← u3]
          rw [show decide (Z.add .i64 q 1 < H) = false from decide_eq_false (by rw [a5]; omega)]
          conv => whnf
          rw [if_neg (by omega)] at u4
          rw [← u4]
          have ek : Z.add .i64 (k : Int) 1 = ((k + 1 : Nat) : Int) := Z.wrap_iid (by omega) (by omega)
          refine ⟨k + 1, [.int .i64 (Z.add .i64 (k : Int) 1)], [.row true _ _ _], _, rfl, rfl, rfl, ?_, ?_, ?_⟩
          · exact (by rw [ek])
          · exact (by rw [es])
          · exact ⟨by omega, by omega⟩
    · refine ifF (decide_eq_false dk) ?_
      conv => whnf
      refine AWs.go tok 0 ?_
      conv => whnf
      obtain rfl : k = rows.length := by omega
      exact ⟨rfl, rfl, rfl, h⟩
theorem refChannel_1 {W H n : Int} {rows : List (List Int)} {e : TypeId} {own : Bool} (hl : rows.length ≤ 64) (hfit : Fit3 rows) (hn : 2 ≤ n ∧ n ≤ 16) (hp : picB W H rows = true) {i : Nat} {s : List Ob} (hs : s[i]? = some (.row own e [.ik .i64, .ik .i64, .ik .i64] rows)) {Q : AV → List Ob → Prop}
    (h : Q (.sl s.length 0 rows.length none) (s ++ [.row true 3 [.ik .i64] (rows1 (spUpto n W.toNat H.toNat (colR 1 rows) rows.length))])) : AC Try.prog 49 [.agg [.int .i64 W, .int .i64 H, .sl i 0 rows.length none], .int .i64 1, .int .i64 n] s Q := by
  refine AC_mk1 (args' := [.agg [.int .i64 W, .int .i64 H, .sl 0 0 rows.length none], .int .i64 1, .int .i64 n]) (L := [.row own e [.ik .i64, .ik .i64, .ik .i64] rows]) [i] (by simp) rfl rfl (by rintro (_ | i') j ob h1 h2 <;> simp at h1 h2; subst h1 h2; exact hs) (.sl 1 0 rows.length none) 3 (by simp) ?_
  obtain ⟨w1, w2, w3⟩ := PPi.pic_sides hp
  have hlen : 0 < (rows.length : Int) := by have m := PV.mul_le (a := W) (b := H) (A := 256) (B := 256) (by omega) (by omega); have := Int.mul_pos (show 0 < W by omega) (show 0 < H by omega); omega
  refine AC_body tok 0 Try.func49 rfl (by kernel_rfl) ?_
  conv => whnf
  refine ALs.round tok 0 ?_
  conv => whnf
  rw [decide_eq_true hlen]
  conv => whnf
  refine ixI (by omega) hlen ?_
  conv => whnf
  refine rowI (by omega) hlen ?_
  conv => whnf
  obtain ⟨x, y, z, er, hx, hy, hz⟩ := hfit (0 + Int.toNat 0) (by omega)
  rw [er]
  have cl := PS.col_len 1 rows
  have f1 : rows1 ((colR 1 rows).take 1) = [[([x, y, z] : List Int).tail.headD 0]] := by
    have t1 := PR.take_succ (colR 1 rows) 0 (k := 0) (by omega)
    rw [← t1, PS.col_at 1 (by omega), show rows.getD 0 [] = [x, y, z] from er]; rfl
  clear er hx hy hz
  refine ALs.lp (ι := Nat) tok 0 [7, 8] (fun k => [.sl 3 0 k none, .int .i64 (k : Int)]) [3] (fun k => [.row true 3 [.ik .i64] (rows1 ((colR 1 rows).take k))]) (fun _ => ()) (fun k => 1 ≤ k ∧ k ≤ rows.length) (fun k => rows.length - k) (1) (⟨by omega, by omega⟩) (by rfl) (by rw [f1]; rfl) rfl (Nat.le_of_ble_eq_true rfl) (fun _ => rfl) ?_
  clear f1
  rintro k ⟨k0, k1⟩
  conv => whnf
  by_cases dk : (k : Int) < rows.length
  · refine ifT (decide_eq_true dk) ?_
    conv => whnf
    refine ixI (by omega) dk ?_
    conv => whnf
    refine rowI (by omega) dk ?_
    conv => whnf
    have kt : 0 + ((k : Nat) : Int).toNat = k := by omega
    obtain ⟨x, y, z, er, hx, hy, hz⟩ := hfit k (by omega)
    rw [kt, er]
    have tl : (rows1 (List.take k (colR 1 rows))).length = k := by rw [PS.r1_len, List.length_take]; omega
    refine andI (by rw [tl]; simp; omega) ?_
    conv => whnf
    have ek : Z.add .i64 (k : Int) 1 = ((k + 1 : Nat) : Int) := Z.wrap_iid (by omega) (by omega)
    refine ⟨k + 1, [.sl 3 0 (k + 1) none, .int .i64 (Z.add .i64 (k : Int) 1)], [.row true _ _ _], _, rfl, rfl, rfl, ?_, ?_, ?_⟩
    · exact (by rw [ek])
    · exact (by { have t1 := PR.take_succ (colR 1 rows) 0 (k := k) (by omega); rw [PS.col_at 1 (by omega), er] at t1; rw [← t1, ← PS.r1_app]; rfl })
    · exact ⟨by omega, by omega, by omega⟩
  · refine ifF (decide_eq_false dk) ?_
    conv => whnf
    refine AWs.go tok 0 ?_
    conv => whnf
    obtain rfl : k = rows.length := by omega
    rw [show List.take rows.length (colR 1 rows) = colR 1 rows by rw [← cl, List.take_length]]
    refine ALs.lp (ι := Nat) tok 0 [9] (fun k => [.int .i64 (k : Int)]) [3] (fun k => [.row true 3 [.ik .i64] (rows1 (spUpto n W.toNat H.toNat (colR 1 rows) k))]) (fun _ => ()) (fun k => k ≤ rows.length) (fun k => rows.length - k) (0) (Nat.zero_le _) (by rfl) (by rfl) rfl (Nat.le_of_ble_eq_true rfl) (fun _ => rfl) ?_
    rintro k k1
    conv => whnf
    by_cases dk : (k : Int) < rows.length
    · refine ifT (decide_eq_true dk) ?_
      conv => whnf
      replace dk : k < rows.length := by omega
      have kk : (0 : Int) ≤ (k : Int) ∧ (k : Int) < rows.length := ⟨by omega, by omega⟩
      have kt : 0 + ((k : Nat) : Int).toNat = k := by omega
      have hWn : 0 < W.toNat := by omega
      have sb := fun m hm => PD.sp_x (H := H.toNat) hn.1 hn.2 hWn (fun m => PS.col_b hp hfit (show 1 < 3 by decide) m) k m hm
      have sl := PD.spUpto_len n W.toNat H.toNat (colR 1 rows) k
      rw [cl] at sl
      have es := PD.spUpto_set n W.toNat H.toNat (colR 1 rows) k
      generalize spUpto n W.toNat H.toNat (colR 1 rows) k = S at *
      have lb := sb k (Nat.le_refl k)
      have r0 := PS.r1_at (l := S) (m := k) (by omega)
      generalize eL : S.getD k 0 = l at *
      refine ixI kk.1 kk.2 ?_
      conv => whnf
      refine andP (by rw [kt, PS.r1_len]; omega) ?_
      conv => whnf
      rw [kt, r0]
      refine refByte hn (by show -1048576 ≤ l ∧ l ≤ 1048576; omega) (fun v hv => ?_)
      conv => whnf
      replace hv : v = atN n l := hv
      have vb := PD.atN_b hn.1 hn.2 l
      rw [← hv] at vb es
      refine ixI kk.1 kk.2 ?_
      conv => whnf
      refine andP (by rw [kt, PS.r1_len]; omega) ?_
      conv => whnf
      refine ixI kk.1 kk.2 ?_
      conv => whnf
      refine andP (by rw [kt, PS.r1_len]; omega) ?_
      conv => whnf
      try rw [kt]
      try (refine AW_draw tok hP ?_; conv => whnf)
      refine nzI (by omega) ?_
      conv => whnf
      refine nzI (by omega) ?_
      conv => whnf
      refine ⟨⟨by kernel_rfl⟩, ?_⟩
      conv => whnf
      have m4 := Int.ediv_le_self W kk.1
      have q1 : Z.rem .i64 (k : Int) W = (k : Int) % W := Int.tmod_eq_emod_of_nonneg kk.1
      have q2 : Z.quo .i64 (k : Int) W = (k : Int) / W := quo_pos (by omega) (by omega) (by omega)
      have m1 := Int.emod_nonneg (k : Int) (show W ≠ 0 by omega)
      have m2 := Int.emod_lt_of_pos (k : Int) (show 0 < W by omega)
      have m3 := Int.ediv_nonneg kk.1 (show 0 ≤ W by omega)
      have m5 := Int.mul_ediv_add_emod (k : Int) W
      rw [q1, q2, PS.r1_set]
      try rw [r0]
      have s0 : Z.sub .i64 (([l] : List Int).headD 0) v = l - v := Z.wrap_iid (by show _ ≤ l - v; omega) (by show l - v < _; omega)
      try rw [s0]
      obtain ⟨r, er⟩ : ∃ r, r = (k : Int) % W := ⟨_, rfl⟩
      obtain ⟨q, eq⟩ : ∃ q, q = (k : Int) / W := ⟨_, rfl⟩
      have wt : ((W.toNat : Nat) : Int) = W := by omega
      have ht : ((H.toNat : Nat) : Int) = H := by omega
      have erN : ((k % W.toNat : Nat) : Int) = r := by rw [er, Int.natCast_emod, wt]
      have eqN : ((k / W.toNat : Nat) : Int) = q := by rw [eq, Int.natCast_ediv, wt]
      rw [← er, ← eq]
      rw [← er] at m1 m2 m5
      rw [← eq] at m3 m4 m5
      have a1 : Z.add .i64 r 1 = r + 1 := Z.wrap_iid (by omega) (by omega)
      have a5 : Z.add .i64 q 1 = q + 1 := Z.wrap_iid (by omega) (by omega)
      have qH : q < H := Int.lt_of_mul_lt_mul_left (a := W) (by omega) (by omega)
      have n1 : W * q + W ≤ rows.length := by have := Int.mul_le_mul_of_nonneg_left (show q + 1 ≤ H by omega) (show 0 ≤ W by omega); rw [Int.mul_add] at this; omega
      have n2 : q + 1 < H → W * q + W + W ≤ rows.length := fun g => by have := Int.mul_le_mul_of_nonneg_left (show q + 2 ≤ H by omega) (show 0 ≤ W by omega); rw [Int.mul_add] at this; omega
      have UB : ∀ (t m : Nat), k ≤ m → -(1000 + 5000 * (t : Int)) ≤ (handU W.toNat H.toNat k (l - v) (S.set k v) t).getD m 0 ∧ (handU W.toNat H.toNat k (l - v) (S.set k v) t).getD m 0 ≤ 1000 + 5000 * (t : Int) := fun t m hm => by
        have base : ∀ m, k ≤ m → -1000 ≤ (S.set k v).getD m 0 ∧ (S.set k v).getD m 0 ≤ 1000 := fun m hm => by
          by_cases e : k = m
          · subst e; rw [List.getD_eq_getElem?_getD, List.getElem?_set_self (by omega)]; show -1000 ≤ v ∧ v ≤ 1000; omega
          · rw [PD.getD_set_ne _ _ _ _ e]; have := sb m hm; omega
        exact PS.handU_b' (by omega) base t m hm
      have tn : ∀ m : Nat, 0 + ((m : Nat) : Int).toNat = m := fun m => by omega
      have UL : ∀ t, (handU W.toNat H.toNat k (l - v) (S.set k v) t).length = rows.length := fun t => by rw [PS.handU_len, List.length_set, sl]
      rw [← handU_4] at es
      generalize hU : handU W.toNat H.toNat k (l - v) (S.set k v) = U at *
      have u0 : S.set k v = U 0 := by rw [← hU]; rfl
      have u1 : U 1 = if k % W.toNat + 1 < W.toNat then addAt (U 0) (k + 1) (7 * (l - v) / 16) else U 0 := by rw [← hU]; rfl
      have u2 : U 2 = if k / W.toNat + 1 < H.toNat ∧ 0 < k % W.toNat then addAt (U 1) (k + W.toNat - 1) (3 * (l - v) / 16) else U 1 := by rw [← hU]; rfl
      have u3 : U 3 = if k / W.toNat + 1 < H.toNat then addAt (U 2) (k + W.toNat) (5 * (l - v) / 16) else U 2 := by rw [← hU]; rfl
      have u4 : U 4 = if k / W.toNat + 1 < H.toNat ∧ k % W.toNat + 1 < W.toNat then addAt (U 3) (k + W.toNat + 1) ((l - v) / 16) else U 3 := by rw [← hU]; rfl
      rw [u0]
      clear hU sb u0
      by_cases c1 : r + 1 < W
      · rw [show decide (Z.add .i64 r 1 < W) = true from decide_eq_true (by rw [a1]; omega)]
        conv => whnf
        rw [if_pos (by omega)] at u1
        try (refine AW_draw tok hP ?_; conv => whnf)
        try rw [show Z.add .i64 (k : Int) 1 = ((k + 1 : Nat) : Int) by exact Z.wrap_iid (by omega) (by omega)]
        refine ixI (by omega) (by omega) ?_
        conv => whnf
        refine andP (by rw [tn, PS.r1_len, UL]; omega) ?_
        conv => whnf
        try rw [show Z.mul .i64 7 (l - v) = 7 * (l - v) by exact Z.wrap_iid (by omega) (by omega)]
        refine AQ_int (fun sK QK hK => refDiv (by omega) (by omega) hK) (fun d hd => ?_)
        conv => whnf
        try rw [show Z.add .i64 (k : Int) 1 = ((k + 1 : Nat) : Int) by exact Z.wrap_iid (by omega) (by omega)]
        refine ixI (by omega) (by omega) ?_
        conv => whnf
        refine andP (by rw [tn, PS.r1_len, UL]; omega) ?_
        conv => whnf
        refine ⟨⟨by kernel_rfl⟩, ?_⟩
        conv => whnf
        replace hd : d = 7 * (l - v) / 16 := by rw [hd]; unfold divI; rw [if_neg (by omega)]
        have ub := UB 0 (k + 1) (by omega)
        have ul := UL 0
        rw [tn, PS.r1_at (by omega), show Z.add .i64 (([(U 0).getD (k + 1) 0] : List Int).headD 0) d = (U 0).getD (k + 1) 0 + d from Z.wrap_iid (by show _ ≤ (U 0).getD (k + 1) 0 + d; omega) (by show (U 0).getD (k + 1) 0 + d < _; omega), PS.r1_add, hd, ← u1]
        by_cases c2 : q + 1 < H
        · rw [show decide (Z.add .i64 q 1 < H) = true from decide_eq_true (by rw [a5]; omega)]
          conv => whnf
          by_cases c3 : 0 < r
          · rw [show decide (r > 0) = true from decide_eq_true (by omega)]
            conv => whnf
            rw [if_pos (by omega)] at u2
            have n3 := n2 c2
            try (refine AW_draw tok hP ?_; conv => whnf)
            try rw [show Z.sub .i64 (Z.add .i64 (k : Int) W) 1 = ((k + W.toNat - 1 : Nat) : Int) by rw [show Z.add .i64 (k : Int) W = k + W from Z.wrap_iid (by omega) (by omega), show ((k + W.toNat - 1 : Nat) : Int) = k + W - 1 by omega]; exact Z.wrap_iid (by omega) (by omega)]
            refine ixI (by omega) (by omega) ?_
            conv => whnf
            refine andP (by rw [tn, PS.r1_len, UL]; omega) ?_
            conv => whnf
            try rw [show Z.mul .i64 3 (l - v) = 3 * (l - v) by exact Z.wrap_iid (by omega) (by omega)]
            refine AQ_int (fun sK QK hK => refDiv (by omega) (by omega) hK) (fun d hd => ?_)
            conv => whnf
            try rw [show Z.sub .i64 (Z.add .i64 (k : Int) W) 1 = ((k + W.toNat - 1 : Nat) : Int) by rw [show Z.add .i64 (k : Int) W = k + W from Z.wrap_iid (by omega) (by omega), show ((k + W.toNat - 1 : Nat) : Int) = k + W - 1 by omega]; exact Z.wrap_iid (by omega) (by omega)]
            refine ixI (by omega) (by omega) ?_
            conv => whnf
            refine andP (by rw [tn, PS.r1_len, UL]; omega) ?_
            conv => whnf
            refine ⟨⟨by kernel_rfl⟩, ?_⟩
            conv => whnf
            replace hd : d = 3 * (l - v) / 16 := by rw [hd]; unfold divI; rw [if_neg (by omega)]
            have ub := UB 1 (k + W.toNat - 1) (by omega)
            have ul := UL 1
            rw [tn, PS.r1_at (by omega), show Z.add .i64 (([(U 1).getD (k + W.toNat - 1) 0] : List Int).headD 0) d = (U 1).getD (k + W.toNat - 1) 0 + d from Z.wrap_iid (by show _ ≤ (U 1).getD (k + W.toNat - 1) 0 + d; omega) (by show (U 1).getD (k + W.toNat - 1) 0 + d < _; omega), PS.r1_add, hd, ← u2]
            rw [show decide (Z.add .i64 q 1 < H) = true from decide_eq_true (by rw [a5]; omega)]
            conv => whnf
            rw [if_pos (by omega)] at u3
            have n3 := n2 c2
            try (refine AW_draw tok hP ?_; conv => whnf)
            try rw [show Z.add .i64 (k : Int) W = ((k + W.toNat : Nat) : Int) by rw [show ((k + W.toNat : Nat) : Int) = k + W by omega]; exact Z.wrap_iid (by omega) (by omega)]
            refine ixI (by omega) (by omega) ?_
            conv => whnf
            refine andP (by rw [tn, PS.r1_len, UL]; omega) ?_
            conv => whnf
            try rw [show Z.mul .i64 5 (l - v) = 5 * (l - v) by exact Z.wrap_iid (by omega) (by omega)]
            refine AQ_int (fun sK QK hK => refDiv (by omega) (by omega) hK) (fun d hd => ?_)
            conv => whnf
            try rw [show Z.add .i64 (k : Int) W = ((k + W.toNat : Nat) : Int) by rw [show ((k + W.toNat : Nat) : Int) = k + W by omega]; exact Z.wrap_iid (by omega) (by omega)]
            refine ixI (by omega) (by omega) ?_
            conv => whnf
            refine andP (by rw [tn, PS.r1_len, UL]; omega) ?_
            conv => whnf
            refine ⟨⟨by kernel_rfl⟩, ?_⟩
            conv => whnf
            replace hd : d = 5 * (l - v) / 16 := by rw [hd]; unfold divI; rw [if_neg (by omega)]
            have ub := UB 2 (k + W.toNat) (by omega)
            have ul := UL 2
            rw [tn, PS.r1_at (by omega), show Z.add .i64 (([(U 2).getD (k + W.toNat) 0] : List Int).headD 0) d = (U 2).getD (k + W.toNat) 0 + d from Z.wrap_iid (by show _ ≤ (U 2).getD (k + W.toNat) 0 + d; omega) (by show (U 2).getD (k + W.toNat) 0 + d < _; omega), PS.r1_add, hd, ← u3]
            rw [show decide (Z.add .i64 q 1 < H) = true from decide_eq_true (by rw [a5]; omega)]
            conv => whnf
            rw [show decide (Z.add .i64 r 1 < W) = true from decide_eq_true (by rw [a1]; omega)]
            conv => whnf
            rw [if_pos (by omega)] at u4
            have n3 := n2 c2
            try (refine AW_draw tok hP ?_; conv => whnf)
            try rw [show Z.add .i64 (Z.add .i64 (k : Int) W) 1 = ((k + W.toNat + 1 : Nat) : Int) by rw [show Z.add .i64 (k : Int) W = k + W from Z.wrap_iid (by omega) (by omega), show ((k + W.toNat + 1 : Nat) : Int) = k + W + 1 by omega]; exact Z.wrap_iid (by omega) (by omega)]
            refine ixI (by omega) (by omega) ?_
            conv => whnf
            refine andP (by rw [tn, PS.r1_len, UL]; omega) ?_
            conv => whnf
            try rw [show l - v = l - v by exact Z.wrap_iid (by omega) (by omega)]
            refine AQ_int (fun sK QK hK => refDiv (by omega) (by omega) hK) (fun d hd => ?_)
            conv => whnf
            try rw [show Z.add .i64 (Z.add .i64 (k : Int) W) 1 = ((k + W.toNat + 1 : Nat) : Int) by rw [show Z.add .i64 (k : Int) W = k + W from Z.wrap_iid (by omega) (by omega), show ((k + W.toNat + 1 : Nat) : Int) = k + W + 1 by omega]; exact Z.wrap_iid (by omega) (by omega)]
            refine ixI (by omega) (by omega) ?_
            conv => whnf
            refine andP (by rw [tn, PS.r1_len, UL]; omega) ?_
            conv => whnf
            refine ⟨⟨by kernel_rfl⟩, ?_⟩
            conv => whnf
            replace hd : d = (l - v) / 16 := by rw [hd]; unfold divI; rw [if_neg (by omega)]
            have ub := UB 3 (k + W.toNat + 1) (by omega)
            have ul := UL 3
            rw [tn, PS.r1_at (by omega), show Z.add .i64 (([(U 3).getD (k + W.toNat + 1) 0] : List Int).headD 0) d = (U 3).getD (k + W.toNat + 1) 0 + d from Z.wrap_iid (by show _ ≤ (U 3).getD (k + W.toNat + 1) 0 + d; omega) (by show (U 3).getD (k + W.toNat + 1) 0 + d < _; omega), PS.r1_add, hd, ← u4]
            have ek : Z.add .i64 (k : Int) 1 = ((k + 1 : Nat) : Int) := Z.wrap_iid (by omega) (by omega)
            refine ⟨k + 1, [.int .i64 (Z.add .i64 (k : Int) 1)], [.row true _ _ _], _, rfl, rfl, rfl, ?_, ?_, ?_⟩
            · exact (by rw [ek])
            · exact (by rw [es])
            · exact ⟨by omega, by omega⟩
          · rw [show decide (r > 0) = false from decide_eq_false (by omega)]
            conv => whnf
            rw [if_neg (by omega)] at u2
            rw [← u2]
            rw [show decide (Z.add .i64 q 1 < H) = true from decide_eq_true (by rw [a5]; omega)]
            conv => whnf
            rw [if_pos (by omega)] at u3
            have n3 := n2 c2
            try (refine AW_draw tok hP ?_; conv => whnf)
            try rw [show Z.add .i64 (k : Int) W = ((k + W.toNat : Nat) : Int) by rw [show ((k + W.toNat : Nat) : Int) = k + W by omega]; exact Z.wrap_iid (by omega) (by omega)]
            refine ixI (by omega) (by omega) ?_
            conv => whnf
            refine andP (by rw [tn, PS.r1_len, UL]; omega) ?_
            conv => whnf
            try rw [show Z.mul .i64 5 (l - v) = 5 * (l - v) by exact Z.wrap_iid (by omega) (by omega)]
            refine AQ_int (fun sK QK hK => refDiv (by omega) (by omega) hK) (fun d hd => ?_)
            conv => whnf
            try rw [show Z.add .i64 (k : Int) W = ((k + W.toNat : Nat) : Int) by rw [show ((k + W.toNat : Nat) : Int) = k + W by omega]; exact Z.wrap_iid (by omega) (by omega)]
            refine ixI (by omega) (by omega) ?_
            conv => whnf
            refine andP (by rw [tn, PS.r1_len, UL]; omega) ?_
            conv => whnf
            refine ⟨⟨by kernel_rfl⟩, ?_⟩
            conv => whnf
            replace hd : d = 5 * (l - v) / 16 := by rw [hd]; unfold divI; rw [if_neg (by omega)]
            have ub := UB 2 (k + W.toNat) (by omega)
            have ul := UL 2
            rw [tn, PS.r1_at (by omega), show Z.add .i64 (([(U 2).getD (k + W.toNat) 0] : List Int).headD 0) d = (U 2).getD (k + W.toNat) 0 + d from Z.wrap_iid (by show _ ≤ (U 2).getD (k + W.toNat) 0 + d; omega) (by show (U 2).getD (k + W.toNat) 0 + d < _; omega), PS.r1_add, hd, ← u3]
            rw [show decide (Z.add .i64 q 1 < H) = true from decide_eq_true (by rw [a5]; omega)]
            conv => whnf
            rw [show decide (Z.add .i64 r 1 < W) = true from decide_eq_true (by rw [a1]; omega)]
            conv => whnf
            rw [if_pos (by omega)] at u4
            have n3 := n2 c2
            try (refine AW_draw tok hP ?_; conv => whnf)
            try rw [show Z.add .i64 (Z.add .i64 (k : Int) W) 1 = ((k + W.toNat + 1 : Nat) : Int) by rw [show Z.add .i64 (k : Int) W = k + W from Z.wrap_iid (by omega) (by omega), show ((k + W.toNat + 1 : Nat) : Int) = k + W + 1 by omega]; exact Z.wrap_iid (by omega) (by omega)]
            refine ixI (by omega) (by omega) ?_
            conv => whnf
            refine andP (by rw [tn, PS.r1_len, UL]; omega) ?_
            conv => whnf
            try rw [show l - v = l - v by exact Z.wrap_iid (by omega) (by omega)]
            refine AQ_int (fun sK QK hK => refDiv (by omega) (by omega) hK) (fun d hd => ?_)
            conv => whnf
            try rw [show Z.add .i64 (Z.add .i64 (k : Int) W) 1 = ((k + W.toNat + 1 : Nat) : Int) by rw [show Z.add .i64 (k : Int) W = k + W from Z.wrap_iid (by omega) (by omega), show ((k + W.toNat + 1 : Nat) : Int) = k + W + 1 by omega]; exact Z.wrap_iid (by omega) (by omega)]
            refine ixI (by omega) (by omega) ?_
            conv => whnf
            refine andP (by rw [tn, PS.r1_len, UL]; omega) ?_
            conv => whnf
            refine ⟨⟨by kernel_rfl⟩, ?_⟩
            conv => whnf
            replace hd : d = (l - v) / 16 := by rw [hd]; unfold divI; rw [if_neg (by omega)]
            have ub := UB 3 (k + W.toNat + 1) (by omega)
            have ul := UL 3
            rw [tn, PS.r1_at (by omega), show Z.add .i64 (([(U 3).getD (k + W.toNat + 1) 0] : List Int).headD 0) d = (U 3).getD (k + W.toNat + 1) 0 + d from Z.wrap_iid (by show _ ≤ (U 3).getD (k + W.toNat + 1) 0 + d; omega) (by show (U 3).getD (k + W.toNat + 1) 0 + d < _; omega), PS.r1_add, hd, ← u4]
            have ek : Z.add .i64 (k : Int) 1 = ((k + 1 : Nat) : Int) := Z.wrap_iid (by omega) (by omega)
            refine ⟨k + 1, [.int .i64 (Z.add .i64 (k : Int) 1)], [.row true _ _ _], _, rfl, rfl, rfl, ?_, ?_, ?_⟩
            · exact (by rw [ek])
            · exact (by rw [es])
            · exact ⟨by omega, by omega⟩
        · rw [show decide (Z.add .i64 q 1 < H) = false from decide_eq_false (by rw [a5]; omega)]
          conv => whnf
          rw [if_neg (by omega)] at u2
          rw [← u2]
          rw [show decide (Z.add .i64 q 1 < H) = false from decide_eq_false (by rw [a5]; omega)]
          conv => whnf
          rw [if_neg (by omega)] at u3
          rw [← u3]
          rw [show decide (Z.add .i64 q 1 < H) = false from decide_eq_false (by rw [a5]; omega)]
          conv => whnf
          rw [if_neg (by omega)] at u4
          rw [← u4]
          have ek : Z.add .i64 (k : Int) 1 = ((k + 1 : Nat) : Int) := Z.wrap_iid (by omega) (by omega)
          refine ⟨k + 1, [.int .i64 (Z.add .i64 (k : Int) 1)], [.row true _ _ _], _, rfl, rfl, rfl, ?_, ?_, ?_⟩
          · exact (by rw [ek])
          · exact (by rw [es])
          · exact ⟨by omega, by omega⟩
      · rw [show decide (Z.add .i64 r 1 < W) = false from decide_eq_false (by rw [a1]; omega)]
        conv => whnf
        rw [if_neg (by omega)] at u1
        rw [← u1]
        by_cases c2 : q + 1 < H
        · rw [show decide (Z.add .i64 q 1 < H) = true from decide_eq_true (by rw [a5]; omega)]
          conv => whnf
          by_cases c3 : 0 < r
          · rw [show decide (r > 0) = true from decide_eq_true (by omega)]
            conv => whnf
            rw [if_pos (by omega)] at u2
            have n3 := n2 c2
            try (refine AW_draw tok hP ?_; conv => whnf)
            try rw [show Z.sub .i64 (Z.add .i64 (k : Int) W) 1 = ((k + W.toNat - 1 : Nat) : Int) by rw [show Z.add .i64 (k : Int) W = k + W from Z.wrap_iid (by omega) (by omega), show ((k + W.toNat - 1 : Nat) : Int) = k + W - 1 by omega]; exact Z.wrap_iid (by omega) (by omega)]
            refine ixI (by omega) (by omega) ?_
            conv => whnf
            refine andP (by rw [tn, PS.r1_len, UL]; omega) ?_
            conv => whnf
            try rw [show Z.mul .i64 3 (l - v) = 3 * (l - v) by exact Z.wrap_iid (by omega) (by omega)]
            refine AQ_int (fun sK QK hK => refDiv (by omega) (by omega) hK) (fun d hd => ?_)
            conv => whnf
            try rw [show Z.sub .i64 (Z.add .i64 (k : Int) W) 1 = ((k + W.toNat - 1 : Nat) : Int) by rw [show Z.add .i64 (k : Int) W = k + W from Z.wrap_iid (by omega) (by omega), show ((k + W.toNat - 1 : Nat) : Int) = k + W - 1 by omega]; exact Z.wrap_iid (by omega) (by omega)]
            refine ixI (by omega) (by omega) ?_
            conv => whnf
            refine andP (by rw [tn, PS.r1_len, UL]; omega) ?_
            conv => whnf
            refine ⟨⟨by kernel_rfl⟩, ?_⟩
            conv => whnf
            replace hd : d = 3 * (l - v) / 16 := by rw [hd]; unfold divI; rw [if_neg (by omega)]
            have ub := UB 1 (k + W.toNat - 1) (by omega)
            have ul := UL 1
            rw [tn, PS.r1_at (by omega), show Z.add .i64 (([(U 1).getD (k + W.toNat - 1) 0] : List Int).headD 0) d = (U 1).getD (k + W.toNat - 1) 0 + d from Z.wrap_iid (by show _ ≤ (U 1).getD (k + W.toNat - 1) 0 + d; omega) (by show (U 1).getD (k + W.toNat - 1) 0 + d < _; omega), PS.r1_add, hd, ← u2]
            rw [show decide (Z.add .i64 q 1 < H) = true from decide_eq_true (by rw [a5]; omega)]
            conv => whnf
            rw [if_pos (by omega)] at u3
            have n3 := n2 c2
            try (refine AW_draw tok hP ?_; conv => whnf)
            try rw [show Z.add .i64 (k : Int) W = ((k + W.toNat : Nat) : Int) by rw [show ((k + W.toNat : Nat) : Int) = k + W by omega]; exact Z.wrap_iid (by omega) (by omega)]
            refine ixI (by omega) (by omega) ?_
            conv => whnf
            refine andP (by rw [tn, PS.r1_len, UL]; omega) ?_
            conv => whnf
            try rw [show Z.mul .i64 5 (l - v) = 5 * (l - v) by exact Z.wrap_iid (by omega) (by omega)]
            refine AQ_int (fun sK QK hK => refDiv (by omega) (by omega) hK) (fun d hd => ?_)
            conv => whnf
            try rw [show Z.add .i64 (k : Int) W = ((k + W.toNat : Nat) : Int) by rw [show ((k + W.toNat : Nat) : Int) = k + W by omega]; exact Z.wrap_iid (by omega) (by omega)]
            refine ixI (by omega) (by omega) ?_
            conv => whnf
            refine andP (by rw [tn, PS.r1_len, UL]; omega) ?_
            conv => whnf
            refine ⟨⟨by kernel_rfl⟩, ?_⟩
            conv => whnf
            replace hd : d = 5 * (l - v) / 16 := by rw [hd]; unfold divI; rw [if_neg (by omega)]
            have ub := UB 2 (k + W.toNat) (by omega)
            have ul := UL 2
            rw [tn, PS.r1_at (by omega), show Z.add .i64 (([(U 2).getD (k + W.toNat) 0] : List Int).headD 0) d = (U 2).getD (k + W.toNat) 0 + d from Z.wrap_iid (by show _ ≤ (U 2).getD (k + W.toNat) 0 + d; omega) (by show (U 2).getD (k + W.toNat) 0 + d < _; omega), PS.r1_add, hd, ← u3]
            rw [show decide (Z.add .i64 q 1 < H) = true from decide_eq_true (by rw [a5]; omega)]
            conv => whnf
            rw [show decide (Z.add .i64 r 1 < W) = false from decide_eq_false (by rw [a1]; omega)]
            conv => whnf
            rw [if_neg (by omega)] at u4
            rw [← u4]
            have ek : Z.add .i64 (k : Int) 1 = ((k + 1 : Nat) : Int) := Z.wrap_iid (by omega) (by omega)
            refine ⟨k + 1, [.int .i64 (Z.add .i64 (k : Int) 1)], [.row true _ _ _], _, rfl, rfl, rfl, ?_, ?_, ?_⟩
            · exact (by rw [ek])
            · exact (by rw [es])
            · exact ⟨by omega, by omega⟩
          · rw [show decide (r > 0) = false from decide_eq_false (by omega)]
            conv => whnf
            rw [if_neg (by omega)] at u2
            rw [← u2]
            rw [show decide (Z.add .i64 q 1 < H) = true from decide_eq_true (by rw [a5]; omega)]
            conv => whnf
            rw [if_pos (by omega)] at u3
            have n3 := n2 c2
            try (refine AW_draw tok hP ?_; conv => whnf)
            try rw [show Z.add .i64 (k : Int) W = ((k + W.toNat : Nat) : Int) by rw [show ((k + W.toNat : Nat) : Int) = k + W by omega]; exact Z.wrap_iid (by omega) (by omega)]
            refine ixI (by omega) (by omega) ?_
            conv => whnf
            refine andP (by rw [tn, PS.r1_len, UL]; omega) ?_
            conv => whnf
            try rw [show Z.mul .i64 5 (l - v) = 5 * (l - v) by exact Z.wrap_iid (by omega) (by omega)]
            refine AQ_int (fun sK QK hK => refDiv (by omega) (by omega) hK) (fun d hd => ?_)
            conv => whnf
            try rw [show Z.add .i64 (k : Int) W = ((k + W.toNat : Nat) : Int) by rw [show ((k + W.toNat : Nat) : Int) = k + W by omega]; exact Z.wrap_iid (by omega) (by omega)]
            refine ixI (by omega) (by omega) ?_
            conv => whnf
            refine andP (by rw [tn, PS.r1_len, UL]; omega) ?_
            conv => whnf
            refine ⟨⟨by kernel_rfl⟩, ?_⟩
            conv => whnf
            replace hd : d = 5 * (l - v) / 16 := by rw [hd]; unfold divI; rw [if_neg (by omega)]
            have ub := UB 2 (k + W.toNat) (by omega)
            have ul := UL 2
            rw [tn, PS.r1_at (by omega), show Z.add .i64 (([(U 2).getD (k + W.toNat) 0] : List Int).headD 0) d = (U 2).getD (k + W.toNat) 0 + d from Z.wrap_iid (by show _ ≤ (U 2).getD (k + W.toNat) 0 + d; omega) (by show (U 2).getD (k + W.toNat) 0 + d < _; omega), PS.r1_add, hd, ← u3]
            rw [show decide (Z.add .i64 q 1 < H) = true from decide_eq_true (by rw [a5]; omega)]
            conv => whnf
            rw [show decide (Z.add .i64 r 1 < W) = false from decide_eq_false (by rw [a1]; omega)]
            conv => whnf
            rw [if_neg (by omega)] at u4
            rw [← u4]
            have ek : Z.add .i64 (k : Int) 1 = ((k + 1 : Nat) : Int) := Z.wrap_iid (by omega) (by omega)
            refine ⟨k + 1, [.int .i64 (Z.add .i64 (k : Int) 1)], [.row true _ _ _], _, rfl, rfl, rfl, ?_, ?_, ?_⟩
            · exact (by rw [ek])
            · exact (by rw [es])
            · exact ⟨by omega, by omega⟩
        · rw [show decide (Z.add .i64 q 1 < H) = false from decide_eq_false (by rw [a5]; omega)]
          conv => whnf
          rw [if_neg (by omega)] at u2
          rw [← u2]
          rw [show decide (Z.add .i64 q 1 < H) = false from decide_eq_false (by rw [a5]; omega)]
          conv => whnf
          rw [if_neg (by omega)] at u3
          rw [← u3]
          rw [show decide (Z.add .i64 q 1 < H) = false from decide_eq_false (by rw [a5]; omega)]
          conv => whnf
          rw [if_neg (by omega)] at u4
          rw [← u4]
          have ek : Z.add .i64 (k : Int) 1 = ((k + 1 : Nat) : Int) := Z.wrap_iid (by omega) (by omega)
          refine ⟨k + 1, [.int .i64 (Z.add .i64 (k : Int) 1)], [.row true _ _ _], _, rfl, rfl, rfl, ?_, ?_, ?_⟩
          · exact (by rw [ek])
          · exact (by rw [es])
          · exact ⟨by omega, by omega⟩
    · refine ifF (decide_eq_false dk) ?_
      conv => whnf
      refine AWs.go tok 0 ?_
      conv => whnf
      obtain rfl : k = rows.length := by omega
      exact ⟨rfl, rfl, rfl, h⟩
theorem refChannel_2 {W H n : Int} {rows : List (List Int)} {e : TypeId} {own : Bool} (hl : rows.length ≤ 64) (hfit : Fit3 rows) (hn : 2 ≤ n ∧ n ≤ 16) (hp : picB W H rows = true) {i : Nat} {s : List Ob} (hs : s[i]? = some (.row own e [.ik .i64, .ik .i64, .ik .i64] rows)) {Q : AV → List Ob → Prop}
    (h : Q (.sl s.length 0 rows.length none) (s ++ [.row true 3 [.ik .i64] (rows1 (spUpto n W.toNat H.toNat (colR 2 rows) rows.length))])) : AC Try.prog 49 [.agg [.int .i64 W, .int .i64 H, .sl i 0 rows.length none], .int .i64 2, .int .i64 n] s Q := by
  refine AC_mk1 (args' := [.agg [.int .i64 W, .int .i64 H, .sl 0 0 rows.length none], .int .i64 2, .int .i64 n]) (L := [.row own e [.ik .i64, .ik .i64, .ik .i64] rows]) [i] (by simp) rfl rfl (by rintro (_ | i') j ob h1 h2 <;> simp at h1 h2; subst h1 h2; exact hs) (.sl 1 0 rows.length none) 3 (by simp) ?_
  obtain ⟨w1, w2, w3⟩ := PPi.pic_sides hp
  have hlen : 0 < (rows.length : Int) := by have m := PV.mul_le (a := W) (b := H) (A := 256) (B := 256) (by omega) (by omega); have := Int.mul_pos (show 0 < W by omega) (show 0 < H by omega); omega
  refine AC_body tok 0 Try.func49 rfl (by kernel_rfl) ?_
  conv => whnf
  refine ALs.round tok 0 ?_
  conv => whnf
  rw [decide_eq_true hlen]
  conv => whnf
  refine ixI (by omega) hlen ?_
  conv => whnf
  refine rowI (by omega) hlen ?_
  conv => whnf
  obtain ⟨x, y, z, er, hx, hy, hz⟩ := hfit (0 + Int.toNat 0) (by omega)
  rw [er]
  have cl := PS.col_len 2 rows
  have f1 : rows1 ((colR 2 rows).take 1) = [[([x, y, z] : List Int).tail.tail.headD 0]] := by
    have t1 := PR.take_succ (colR 2 rows) 0 (k := 0) (by omega)
    rw [← t1, PS.col_at 2 (by omega), show rows.getD 0 [] = [x, y, z] from er]; rfl
  clear er hx hy hz
  refine ALs.lp (ι := Nat) tok 0 [7, 8] (fun k => [.sl 3 0 k none, .int .i64 (k : Int)]) [3] (fun k => [.row true 3 [.ik .i64] (rows1 ((colR 2 rows).take k))]) (fun _ => ()) (fun k => 1 ≤ k ∧ k ≤ rows.length) (fun k => rows.length - k) (1) (⟨by omega, by omega⟩) (by rfl) (by rw [f1]; rfl) rfl (Nat.le_of_ble_eq_true rfl) (fun _ => rfl) ?_
  clear f1
  rintro k ⟨k0, k1⟩
  conv => whnf
  by_cases dk : (k : Int) < rows.length
  · refine ifT (decide_eq_true dk) ?_
    conv => whnf
    refine ixI (by omega) dk ?_
    conv => whnf
    refine rowI (by omega) dk ?_
    conv => whnf
    have kt : 0 + ((k : Nat) : Int).toNat = k := by omega
    obtain ⟨x, y, z, er, hx, hy, hz⟩ := hfit k (by omega)
    rw [kt, er]
    have tl : (rows1 (List.take k (colR 2 rows))).length = k := by rw [PS.r1_len, List.length_take]; omega
    refine andI (by rw [tl]; simp; omega) ?_
    conv => whnf
    have ek : Z.add .i64 (k : Int) 1 = ((k + 1 : Nat) : Int) := Z.wrap_iid (by omega) (by omega)
    refine ⟨k + 1, [.sl 3 0 (k + 1) none, .int .i64 (Z.add .i64 (k : Int) 1)], [.row true _ _ _], _, rfl, rfl, rfl, ?_, ?_, ?_⟩
    · exact (by rw [ek])
    · exact (by { have t1 := PR.take_succ (colR 2 rows) 0 (k := k) (by omega); rw [PS.col_at 2 (by omega), er] at t1; rw [← t1, ← PS.r1_app]; rfl })
    · exact ⟨by omega, by omega, by omega⟩
  · refine ifF (decide_eq_false dk) ?_
    conv => whnf
    refine AWs.go tok 0 ?_
    conv => whnf
    obtain rfl : k = rows.length := by omega
    rw [show List.take rows.length (colR 2 rows) = colR 2 rows by rw [← cl, List.take_length]]
    refine ALs.lp (ι := Nat) tok 0 [9] (fun k => [.int .i64 (k : Int)]) [3] (fun k => [.row true 3 [.ik .i64] (rows1 (spUpto n W.toNat H.toNat (colR 2 rows) k))]) (fun _ => ()) (fun k => k ≤ rows.length) (fun k => rows.length - k) (0) (Nat.zero_le _) (by rfl) (by rfl) rfl (Nat.le_of_ble_eq_true rfl) (fun _ => rfl) ?_
    rintro k k1
    conv => whnf
    by_cases dk : (k : Int) < rows.length
    · refine ifT (decide_eq_true dk) ?_
      conv => whnf
      replace dk : k < rows.length := by omega
      have kk : (0 : Int) ≤ (k : Int) ∧ (k : Int) < rows.length := ⟨by omega, by omega⟩
      have kt : 0 + ((k : Nat) : Int).toNat = k := by omega
      have hWn : 0 < W.toNat := by omega
      have sb := fun m hm => PD.sp_x (H := H.toNat) hn.1 hn.2 hWn (fun m => PS.col_b hp hfit (show 2 < 3 by decide) m) k m hm
      have sl := PD.spUpto_len n W.toNat H.toNat (colR 2 rows) k
      rw [cl] at sl
      have es := PD.spUpto_set n W.toNat H.toNat (colR 2 rows) k
      generalize spUpto n W.toNat H.toNat (colR 2 rows) k = S at *
      have lb := sb k (Nat.le_refl k)
      have r0 := PS.r1_at (l := S) (m := k) (by omega)
      generalize eL : S.getD k 0 = l at *
      refine ixI kk.1 kk.2 ?_
      conv => whnf
      refine andP (by rw [kt, PS.r1_len]; omega) ?_
      conv => whnf
      rw [kt, r0]
      refine refByte hn (by show -1048576 ≤ l ∧ l ≤ 1048576; omega) (fun v hv => ?_)
      conv => whnf
      replace hv : v = atN n l := hv
      have vb := PD.atN_b hn.1 hn.2 l
      rw [← hv] at vb es
      refine ixI kk.1 kk.2 ?_
      conv => whnf
      refine andP (by rw [kt, PS.r1_len]; omega) ?_
      conv => whnf
      refine ixI kk.1 kk.2 ?_
      conv => whnf
      refine andP (by rw [kt, PS.r1_len]; omega) ?_
      conv => whnf
      try rw [kt]
      try (refine AW_draw tok hP ?_; conv => whnf)
      refine nzI (by omega) ?_
      conv => whnf
      refine nzI (by omega) ?_
      conv => whnf
      refine ⟨⟨by kernel_rfl⟩, ?_⟩
      conv => whnf
      have m4 := Int.ediv_le_self W kk.1
      have q1 : Z.rem .i64 (k : Int) W = (k : Int) % W := Int.tmod_eq_emod_of_nonneg kk.1
      have q2 : Z.quo .i64 (k : Int) W = (k : Int) / W := quo_pos (by omega) (by omega) (by omega)
      have m1 := Int.emod_nonneg (k : Int) (show W ≠ 0 by omega)
      have m2 := Int.emod_lt_of_pos (k : Int) (show 0 < W by omega)
      have m3 := Int.ediv_nonneg kk.1 (show 0 ≤ W by omega)
      have m5 := Int.mul_ediv_add_emod (k : Int) W
      rw [q1, q2, PS.r1_set]
      try rw [r0]
      have s0 : Z.sub .i64 (([l] : List Int).headD 0) v = l - v := Z.wrap_iid (by show _ ≤ l - v; omega) (by show l - v < _; omega)
      try rw [s0]
      obtain ⟨r, er⟩ : ∃ r, r = (k : Int) % W := ⟨_, rfl⟩
      obtain ⟨q, eq⟩ : ∃ q, q = (k : Int) / W := ⟨_, rfl⟩
      have wt : ((W.toNat : Nat) : Int) = W := by omega
      have ht : ((H.toNat : Nat) : Int) = H := by omega
      have erN : ((k % W.toNat : Nat) : Int) = r := by rw [er, Int.natCast_emod, wt]
      have eqN : ((k / W.toNat : Nat) : Int) = q := by rw [eq, Int.natCast_ediv, wt]
      rw [← er, ← eq]
      rw [← er] at m1 m2 m5
      rw [← eq] at m3 m4 m5
      have a1 : Z.add .i64 r 1 = r + 1 := Z.wrap_iid (by omega) (by omega)
      have a5 : Z.add .i64 q 1 = q + 1 := Z.wrap_iid (by omega) (by omega)
      have qH : q < H := Int.lt_of_mul_lt_mul_left (a := W) (by omega) (by omega)
      have n1 : W * q + W ≤ rows.length := by have := Int.mul_le_mul_of_nonneg_left (show q + 1 ≤ H by omega) (show 0 ≤ W by omega); rw [Int.mul_add] at this; omega
      have n2 : q + 1 < H → W * q + W + W ≤ rows.length := fun g => by have := Int.mul_le_mul_of_nonneg_left (show q + 2 ≤ H by omega) (show 0 ≤ W by omega); rw [Int.mul_add] at this; omega
      have UB : ∀ (t m : Nat), k ≤ m → -(1000 + 5000 * (t : Int)) ≤ (handU W.toNat H.toNat k (l - v) (S.set k v) t).getD m 0 ∧ (handU W.toNat H.toNat k (l - v) (S.set k v) t).getD m 0 ≤ 1000 + 5000 * (t : Int) := fun t m hm => by
        have base : ∀ m, k ≤ m → -1000 ≤ (S.set k v).getD m 0 ∧ (S.set k v).getD m 0 ≤ 1000 := fun m hm => by
          by_cases e : k = m
          · subst e; rw [List.getD_eq_getElem?_getD, List.getElem?_set_self (by omega)]; show -1000 ≤ v ∧ v ≤ 1000; omega
          · rw [PD.getD_set_ne _ _ _ _ e]; have := sb m hm; omega
        exact PS.handU_b' (by omega) base t m hm
      have tn : ∀ m : Nat, 0 + ((m : Nat) : Int).toNat = m := fun m => by omega
      have UL : ∀ t, (handU W.toNat H.toNat k (l - v) (S.set k v) t).length = rows.length := fun t => by rw [PS.handU_len, List.length_set, sl]
      rw [← handU_4] at es
      generalize hU : handU W.toNat H.toNat k (l - v) (S.set k v) = U at *
      have u0 : S.set k v = U 0 := by rw [← hU]; rfl
      have u1 : U 1 = if k % W.toNat + 1 < W.toNat then addAt (U 0) (k + 1) (7 * (l - v) / 16) else U 0 := by rw [← hU]; rfl
      have u2 : U 2 = if k / W.toNat + 1 < H.toNat ∧ 0 < k % W.toNat then addAt (U 1) (k + W.toNat - 1) (3 * (l - v) / 16) else U 1 := by rw [← hU]; rfl
      have u3 : U 3 = if k / W.toNat + 1 < H.toNat then addAt (U 2) (k + W.toNat) (5 * (l - v) / 16) else U 2 := by rw [← hU]; rfl
      have u4 : U 4 = if k / W.toNat + 1 < H.toNat ∧ k % W.toNat + 1 < W.toNat then addAt (U 3) (k + W.toNat + 1) ((l - v) / 16) else U 3 := by rw [← hU]; rfl
      rw [u0]
      clear hU sb u0
      by_cases c1 : r + 1 < W
      · rw [show decide (Z.add .i64 r 1 < W) = true from decide_eq_true (by rw [a1]; omega)]
        conv => whnf
        rw [if_pos (by omega)] at u1
        try (refine AW_draw tok hP ?_; conv => whnf)
        try rw [show Z.add .i64 (k : Int) 1 = ((k + 1 : Nat) : Int) by exact Z.wrap_iid (by omega) (by omega)]
        refine ixI (by omega) (by omega) ?_
        conv => whnf
        refine andP (by rw [tn, PS.r1_len, UL]; omega) ?_
        conv => whnf
        try rw [show Z.mul .i64 7 (l - v) = 7 * (l - v) by exact Z.wrap_iid (by omega) (by omega)]
        refine AQ_int (fun sK QK hK => refDiv (by omega) (by omega) hK) (fun d hd => ?_)
        conv => whnf
        try rw [show Z.add .i64 (k : Int) 1 = ((k + 1 : Nat) : Int) by exact Z.wrap_iid (by omega) (by omega)]
        refine ixI (by omega) (by omega) ?_
        conv => whnf
        refine andP (by rw [tn, PS.r1_len, UL]; omega) ?_
        conv => whnf
        refine ⟨⟨by kernel_rfl⟩, ?_⟩
        conv => whnf
        replace hd : d = 7 * (l - v) / 16 := by rw [hd]; unfold divI; rw [if_neg (by omega)]
        have ub := UB 0 (k + 1) (by omega)
        have ul := UL 0
        rw [tn, PS.r1_at (by omega), show Z.add .i64 (([(U 0).getD (k + 1) 0] : List Int).headD 0) d = (U 0).getD (k + 1) 0 + d from Z.wrap_iid (by show _ ≤ (U 0).getD (k + 1) 0 + d; omega) (by show (U 0).getD (k + 1) 0 + d < _; omega), PS.r1_add, hd, ← u1]
        by_cases c2 : q + 1 < H
        · rw [show decide (Z.add .i64 q 1 < H) = true from decide_eq_true (by rw [a5]; omega)]
          conv => whnf
          by_cases c3 : 0 < r
          · rw [show decide (r > 0) = true from decide_eq_true (by omega)]
            conv => whnf
            rw [if_pos (by omega)] at u2
            have n3 := n2 c2
            try (refine AW_draw tok hP ?_; conv => whnf)
            try rw [show Z.sub .i64 (Z.add .i64 (k : Int) W) 1 = ((k + W.toNat - 1 : Nat) : Int) by rw [show Z.add .i64 (k : Int) W = k + W from Z.wrap_iid (by omega) (by omega), show ((k + W.toNat - 1 : Nat) : Int) = k + W - 1 by omega]; exact Z.wrap_iid (by omega) (by omega)]
            refine ixI (by omega) (by omega) ?_
            conv => whnf
            refine andP (by rw [tn, PS.r1_len, UL]; omega) ?_
            conv => whnf
            try rw [show Z.mul .i64 3 (l - v) = 3 * (l - v) by exact Z.wrap_iid (by omega) (by omega)]
            refine AQ_int (fun sK QK hK => refDiv (by omega) (by omega) hK) (fun d hd => ?_)
            conv => whnf
            try rw [show Z.sub .i64 (Z.add .i64 (k : Int) W) 1 = ((k + W.toNat - 1 : Nat) : Int) by rw [show Z.add .i64 (k : Int) W = k + W from Z.wrap_iid (by omega) (by omega), show ((k + W.toNat - 1 : Nat) : Int) = k + W - 1 by omega]; exact Z.wrap_iid (by omega) (by omega)]
            refine ixI (by omega) (by omega) ?_
            conv => whnf
            refine andP (by rw [tn, PS.r1_len, UL]; omega) ?_
            conv => whnf
            refine ⟨⟨by kernel_rfl⟩, ?_⟩
            conv => whnf
            replace hd : d = 3 * (l - v) / 16 := by rw [hd]; unfold divI; rw [if_neg (by omega)]
            have ub := UB 1 (k + W.toNat - 1) (by omega)
            have ul := UL 1
            rw [tn, PS.r1_at (by omega), show Z.add .i64 (([(U 1).getD (k + W.toNat - 1) 0] : List Int).headD 0) d = (U 1).getD (k + W.toNat - 1) 0 + d from Z.wrap_iid (by show _ ≤ (U 1).getD (k + W.toNat - 1) 0 + d; omega) (by show (U 1).getD (k + W.toNat - 1) 0 + d < _; omega), PS.r1_add, hd, ← u2]
            rw [show decide (Z.add .i64 q 1 < H) = true from decide_eq_true (by rw [a5]; omega)]
            conv => whnf
            rw [if_pos (by omega)] at u3
            have n3 := n2 c2
            try (refine AW_draw tok hP ?_; conv => whnf)
            try rw [show Z.add .i64 (k : Int) W = ((k + W.toNat : Nat) : Int) by rw [show ((k + W.toNat : Nat) : Int) = k + W by omega]; exact Z.wrap_iid (by omega) (by omega)]
            refine ixI (by omega) (by omega) ?_
            conv => whnf
            refine andP (by rw [tn, PS.r1_len, UL]; omega) ?_
            conv => whnf
            try rw [show Z.mul .i64 5 (l - v) = 5 * (l - v) by exact Z.wrap_iid (by omega) (by omega)]
            refine AQ_int (fun sK QK hK => refDiv (by omega) (by omega) hK) (fun d hd => ?_)
            conv => whnf
            try rw [show Z.add .i64 (k : Int) W = ((k + W.toNat : Nat) : Int) by rw [show ((k + W.toNat : Nat) : Int) = k + W by omega]; exact Z.wrap_iid (by omega) (by omega)]
            refine ixI (by omega) (by omega) ?_
            conv => whnf
            refine andP (by rw [tn, PS.r1_len, UL]; omega) ?_
            conv => whnf
            refine ⟨⟨by kernel_rfl⟩, ?_⟩
            conv => whnf
            replace hd : d = 5 * (l - v) / 16 := by rw [hd]; unfold divI; rw [if_neg (by omega)]
            have ub := UB 2 (k + W.toNat) (by omega)
            have ul := UL 2
            rw [tn, PS.r1_at (by omega), show Z.add .i64 (([(U 2).getD (k + W.toNat) 0] : List Int).headD 0) d = (U 2).getD (k + W.toNat) 0 + d from Z.wrap_iid (by show _ ≤ (U 2).getD (k + W.toNat) 0 + d; omega) (by show (U 2).getD (k + W.toNat) 0 + d < _; omega), PS.r1_add, hd, ← u3]
            rw [show decide (Z.add .i64 q 1 < H) = true from decide_eq_true (by rw [a5]; omega)]
            conv => whnf
            rw [show decide (Z.add .i64 r 1 < W) = true from decide_eq_true (by rw [a1]; omega)]
            conv => whnf
            rw [if_pos (by omega)] at u4
            have n3 := n2 c2
            try (refine AW_draw tok hP ?_; conv => whnf)
            try rw [show Z.add .i64 (Z.add .i64 (k : Int) W) 1 = ((k + W.toNat + 1 : Nat) : Int) by rw [show Z.add .i64 (k : Int) W = k + W from Z.wrap_iid (by omega) (by omega), show ((k + W.toNat + 1 : Nat) : Int) = k + W + 1 by omega]; exact Z.wrap_iid (by omega) (by omega)]
            refine ixI (by omega) (by omega) ?_
            conv => whnf
            refine andP (by rw [tn, PS.r1_len, UL]; omega) ?_
            conv => whnf
            try rw [show l - v = l - v by exact Z.wrap_iid (by omega) (by omega)]
            refine AQ_int (fun sK QK hK => refDiv (by omega) (by omega) hK) (fun d hd => ?_)
            conv => whnf
            try rw [show Z.add .i64 (Z.add .i64 (k : Int) W) 1 = ((k + W.toNat + 1 : Nat) : Int) by rw [show Z.add .i64 (k : Int) W = k + W from Z.wrap_iid (by omega) (by omega), show ((k + W.toNat + 1 : Nat) : Int) = k + W + 1 by omega]; exact Z.wrap_iid (by omega) (by omega)]
            refine ixI (by omega) (by omega) ?_
            conv => whnf
            refine andP (by rw [tn, PS.r1_len, UL]; omega) ?_
            conv => whnf
            refine ⟨⟨by kernel_rfl⟩, ?_⟩
            conv => whnf
            replace hd : d = (l - v) / 16 := by rw [hd]; unfold divI; rw [if_neg (by omega)]
            have ub := UB 3 (k + W.toNat + 1) (by omega)
            have ul := UL 3
            rw [tn, PS.r1_at (by omega), show Z.add .i64 (([(U 3).getD (k + W.toNat + 1) 0] : List Int).headD 0) d = (U 3).getD (k + W.toNat + 1) 0 + d from Z.wrap_iid (by show _ ≤ (U 3).getD (k + W.toNat + 1) 0 + d; omega) (by show (U 3).getD (k + W.toNat + 1) 0 + d < _; omega), PS.r1_add, hd, ← u4]
            have ek : Z.add .i64 (k : Int) 1 = ((k + 1 : Nat) : Int) := Z.wrap_iid (by omega) (by omega)
            refine ⟨k + 1, [.int .i64 (Z.add .i64 (k : Int) 1)], [.row true _ _ _], _, rfl, rfl, rfl, ?_, ?_, ?_⟩
            · exact (by rw [ek])
            · exact (by rw [es])
            · exact ⟨by omega, by omega⟩
          · rw [show decide (r > 0) = false from decide_eq_false (by omega)]
            conv => whnf
            rw [if_neg (by omega)] at u2
            rw [← u2]
            rw [show decide (Z.add .i64 q 1 < H) = true from decide_eq_true (by rw [a5]; omega)]
            conv => whnf
            rw [if_pos (by omega)] at u3
            have n3 := n2 c2
            try (refine AW_draw tok hP ?_; conv => whnf)
            try rw [show Z.add .i64 (k : Int) W = ((k + W.toNat : Nat) : Int) by rw [show ((k + W.toNat : Nat) : Int) = k + W by omega]; exact Z.wrap_iid (by omega) (by omega)]
            refine ixI (by omega) (by omega) ?_
            conv => whnf
            refine andP (by rw [tn, PS.r1_len, UL]; omega) ?_
            conv => whnf
            try rw [show Z.mul .i64 5 (l - v) = 5 * (l - v) by exact Z.wrap_iid (by omega) (by omega)]
            refine AQ_int (fun sK QK hK => refDiv (by omega) (by omega) hK) (fun d hd => ?_)
            conv => whnf
            try rw [show Z.add .i64 (k : Int) W = ((k + W.toNat : Nat) : Int) by rw [show ((k + W.toNat : Nat) : Int) = k + W by omega]; exact Z.wrap_iid (by omega) (by omega)]
            refine ixI (by omega) (by omega) ?_
            conv => whnf
            refine andP (by rw [tn, PS.r1_len, UL]; omega) ?_
            conv => whnf
            refine ⟨⟨by kernel_rfl⟩, ?_⟩
            conv => whnf
            replace hd : d = 5 * (l - v) / 16 := by rw [hd]; unfold divI; rw [if_neg (by omega)]
            have ub := UB 2 (k + W.toNat) (by omega)
            have ul := UL 2
            rw [tn, PS.r1_at (by omega), show Z.add .i64 (([(U 2).getD (k + W.toNat) 0] : List Int).headD 0) d = (U 2).getD (k + W.toNat) 0 + d from Z.wrap_iid (by show _ ≤ (U 2).getD (k + W.toNat) 0 + d; omega) (by show (U 2).getD (k + W.toNat) 0 + d < _; omega), PS.r1_add, hd, ← u3]
            rw [show decide (Z.add .i64 q 1 < H) = true from decide_eq_true (by rw [a5]; omega)]
            conv => whnf
            rw [show decide (Z.add .i64 r 1 < W) = true from decide_eq_true (by rw [a1]; omega)]
            conv => whnf
            rw [if_pos (by omega)] at u4
            have n3 := n2 c2
            try (refine AW_draw tok hP ?_; conv => whnf)
            try rw [show Z.add .i64 (Z.add .i64 (k : Int) W) 1 = ((k + W.toNat + 1 : Nat) : Int) by rw [show Z.add .i64 (k : Int) W = k + W from Z.wrap_iid (by omega) (by omega), show ((k + W.toNat + 1 : Nat) : Int) = k + W + 1 by omega]; exact Z.wrap_iid (by omega) (by omega)]
            refine ixI (by omega) (by omega) ?_
            conv => whnf
            refine andP (by rw [tn, PS.r1_len, UL]; omega) ?_
            conv => whnf
            try rw [show l - v = l - v by exact Z.wrap_iid (by omega) (by omega)]
            refine AQ_int (fun sK QK hK => refDiv (by omega) (by omega) hK) (fun d hd => ?_)
            conv => whnf
            try rw [show Z.add .i64 (Z.add .i64 (k : Int) W) 1 = ((k + W.toNat + 1 : Nat) : Int) by rw [show Z.add .i64 (k : Int) W = k + W from Z.wrap_iid (by omega) (by omega), show ((k + W.toNat + 1 : Nat) : Int) = k + W + 1 by omega]; exact Z.wrap_iid (by omega) (by omega)]
            refine ixI (by omega) (by omega) ?_
            conv => whnf
            refine andP (by rw [tn, PS.r1_len, UL]; omega) ?_
            conv => whnf
            refine ⟨⟨by kernel_rfl⟩, ?_⟩
            conv => whnf
            replace hd : d = (l - v) / 16 := by rw [hd]; unfold divI; rw [if_neg (by omega)]
            have ub := UB 3 (k + W.toNat + 1) (by omega)
            have ul := UL 3
            rw [tn, PS.r1_at (by omega), show Z.add .i64 (([(U 3).getD (k + W.toNat + 1) 0] : List Int).headD 0) d = (U 3).getD (k + W.toNat + 1) 0 + d from Z.wrap_iid (by show _ ≤ (U 3).getD (k + W.toNat + 1) 0 + d; omega) (by show (U 3).getD (k + W.toNat + 1) 0 + d < _; omega), PS.r1_add, hd, ← u4]
            have ek : Z.add .i64 (k : Int) 1 = ((k + 1 : Nat) : Int) := Z.wrap_iid (by omega) (by omega)
            refine ⟨k + 1, [.int .i64 (Z.add .i64 (k : Int) 1)], [.row true _ _ _], _, rfl, rfl, rfl, ?_, ?_, ?_⟩
            · exact (by rw [ek])
            · exact (by rw [es])
            · exact ⟨by omega, by omega⟩
        · rw [show decide (Z.add .i64 q 1 < H) = false from decide_eq_false (by rw [a5]; omega)]
          conv => whnf
          rw [if_neg (by omega)] at u2
          rw [← u2]
          rw [show decide (Z.add .i64 q 1 < H) = false from decide_eq_false (by rw [a5]; omega)]
          conv => whnf
          rw [if_neg (by omega)] at u3
          rw [← u3]
          rw [show decide (Z.add .i64 q 1 < H) = false from decide_eq_false (by rw [a5]; omega)]
          conv => whnf
          rw [if_neg (by omega)] at u4
          rw [← u4]
          have ek : Z.add .i64 (k : Int) 1 = ((k + 1 : Nat) : Int) := Z.wrap_iid (by omega) (by omega)
          refine ⟨k + 1, [.int .i64 (Z.add .i64 (k : Int) 1)], [.row true _ _ _], _, rfl, rfl, rfl, ?_, ?_, ?_⟩
          · exact (by rw [ek])
          · exact (by rw [es])
          · exact ⟨by omega, by omega⟩
      · rw [show decide (Z.add .i64 r 1 < W) = false from decide_eq_false (by rw [a1]; omega)]
        conv => whnf
        rw [if_neg (by omega)] at u1
        rw [← u1]
        by_cases c2 : q + 1 < H
        · rw [show decide (Z.add .i64 q 1 < H) = true from decide_eq_true (by rw [a5]; omega)]
          conv => whnf
          by_cases c3 : 0 < r
          · rw [show decide (r > 0) = true from decide_eq_true (by omega)]
            conv => whnf
            rw [if_pos (by omega)] at u2
            have n3 := n2 c2
            try (refine AW_draw tok hP ?_; conv => whnf)
            try rw [show Z.sub .i64 (Z.add .i64 (k : Int) W) 1 = ((k + W.toNat - 1 : Nat) : Int) by rw [show Z.add .i64 (k : Int) W = k + W from Z.wrap_iid (by omega) (by omega), show ((k + W.toNat - 1 : Nat) : Int) = k + W - 1 by omega]; exact Z.wrap_iid (by omega) (by omega)]
            refine ixI (by omega) (by omega) ?_
            conv => whnf
            refine andP (by rw [tn, PS.r1_len, UL]; omega) ?_
            conv => whnf
            try rw [show Z.mul .i64 3 (l - v) = 3 * (l - v) by exact Z.wrap_iid (by omega) (by omega)]
            refine AQ_int (fun sK QK hK => refDiv (by omega) (by omega) hK) (fun d hd => ?_)
            conv => whnf
            try rw [show Z.sub .i64 (Z.add .i64 (k : Int) W) 1 = ((k + W.toNat - 1 : Nat) : Int) by rw [show Z.add .i64 (k : Int) W = k + W from Z.wrap_iid (by omega) (by omega), show ((k + W.toNat - 1 : Nat) : Int) = k + W - 1 by omega]; exact Z.wrap_iid (by omega) (by omega)]
            refine ixI (by omega) (by omega) ?_
            conv => whnf
            refine andP (by rw [tn, PS.r1_len, UL]; omega) ?_
            conv => whnf
            refine ⟨⟨by kernel_rfl⟩, ?_⟩
            conv => whnf
            replace hd : d = 3 * (l - v) / 16 := by rw [hd]; unfold divI; rw [if_neg (by omega)]
            have ub := UB 1 (k + W.toNat - 1) (by omega)
            have ul := UL 1
            rw [tn, PS.r1_at (by omega), show Z.add .i64 (([(U 1).getD (k + W.toNat - 1) 0] : List Int).headD 0) d = (U 1).getD (k + W.toNat - 1) 0 + d from Z.wrap_iid (by show _ ≤ (U 1).getD (k + W.toNat - 1) 0 + d; omega) (by show (U 1).getD (k + W.toNat - 1) 0 + d < _; omega), PS.r1_add, hd, ← u2]
            rw [show decide (Z.add .i64 q 1 < H) = true from decide_eq_true (by rw [a5]; omega)]
            conv => whnf
            rw [if_pos (by omega)] at u3
            have n3 := n2 c2
            try (refine AW_draw tok hP ?_; conv => whnf)
            try rw [show Z.add .i64 (k : Int) W = ((k + W.toNat : Nat) : Int) by rw [show ((k + W.toNat : Nat) : Int) = k + W by omega]; exact Z.wrap_iid (by omega) (by omega)]
            refine ixI (by omega) (by omega) ?_
            conv => whnf
            refine andP (by rw [tn, PS.r1_len, UL]; omega) ?_
            conv => whnf
            try rw [show Z.mul .i64 5 (l - v) = 5 * (l - v) by exact Z.wrap_iid (by omega) (by omega)]
            refine AQ_int (fun sK QK hK => refDiv (by omega) (by omega) hK) (fun d hd => ?_)
            conv => whnf
            try rw [show Z.add .i64 (k : Int) W = ((k + W.toNat : Nat) : Int) by rw [show ((k + W.toNat : Nat) : Int) = k + W by omega]; exact Z.wrap_iid (by omega) (by omega)]
            refine ixI (by omega) (by omega) ?_
            conv => whnf
            refine andP (by rw [tn, PS.r1_len, UL]; omega) ?_
            conv => whnf
            refine ⟨⟨by kernel_rfl⟩, ?_⟩
            conv => whnf
            replace hd : d = 5 * (l - v) / 16 := by rw [hd]; unfold divI; rw [if_neg (by omega)]
            have ub := UB 2 (k + W.toNat) (by omega)
            have ul := UL 2
            rw [tn, PS.r1_at (by omega), show Z.add .i64 (([(U 2).getD (k + W.toNat) 0] : List Int).headD 0) d = (U 2).getD (k + W.toNat) 0 + d from Z.wrap_iid (by show _ ≤ (U 2).getD (k + W.toNat) 0 + d; omega) (by show (U 2).getD (k + W.toNat) 0 + d < _; omega), PS.r1_add, hd, ← u3]
            rw [show decide (Z.add .i64 q 1 < H) = true from decide_eq_true (by rw [a5]; omega)]
            conv => whnf
            rw [show decide (Z.add .i64 r 1 < W) = false from decide_eq_false (by rw [a1]; omega)]
            conv => whnf
            rw [if_neg (by omega)] at u4
            rw [← u4]
            have ek : Z.add .i64 (k : Int) 1 = ((k + 1 : Nat) : Int) := Z.wrap_iid (by omega) (by omega)
            refine ⟨k + 1, [.int .i64 (Z.add .i64 (k : Int) 1)], [.row true _ _ _], _, rfl, rfl, rfl, ?_, ?_, ?_⟩
            · exact (by rw [ek])
            · exact (by rw [es])
            · exact ⟨by omega, by omega⟩
          · rw [show decide (r > 0) = false from decide_eq_false (by omega)]
            conv => whnf
            rw [if_neg (by omega)] at u2
            rw [← u2]
            rw [show decide (Z.add .i64 q 1 < H) = true from decide_eq_true (by rw [a5]; omega)]
            conv => whnf
            rw [if_pos (by omega)] at u3
            have n3 := n2 c2
            try (refine AW_draw tok hP ?_; conv => whnf)
            try rw [show Z.add .i64 (k : Int) W = ((k + W.toNat : Nat) : Int) by rw [show ((k + W.toNat : Nat) : Int) = k + W by omega]; exact Z.wrap_iid (by omega) (by omega)]
            refine ixI (by omega) (by omega) ?_
            conv => whnf
            refine andP (by rw [tn, PS.r1_len, UL]; omega) ?_
            conv => whnf
            try rw [show Z.mul .i64 5 (l - v) = 5 * (l - v) by exact Z.wrap_iid (by omega) (by omega)]
            refine AQ_int (fun sK QK hK => refDiv (by omega) (by omega) hK) (fun d hd => ?_)
            conv => whnf
            try rw [show Z.add .i64 (k : Int) W = ((k + W.toNat : Nat) : Int) by rw [show ((k + W.toNat : Nat) : Int) = k + W by omega]; exact Z.wrap_iid (by omega) (by omega)]
            refine ixI (by omega) (by omega) ?_
            conv => whnf
            refine andP (by rw [tn, PS.r1_len, UL]; omega) ?_
            conv => whnf
            refine ⟨⟨by kernel_rfl⟩, ?_⟩
            conv => whnf
            replace hd : d = 5 * (l - v) / 16 := by rw [hd]; unfold divI; rw [if_neg (by omega)]
            have ub := UB 2 (k + W.toNat) (by omega)
            have ul := UL 2
            rw [tn, PS.r1_at (by omega), show Z.add .i64 (([(U 2).getD (k + W.toNat) 0] : List Int).headD 0) d = (U 2).getD (k + W.toNat) 0 + d from Z.wrap_iid (by show _ ≤ (U 2).getD (k + W.toNat) 0 + d; omega) (by show (U 2).getD (k + W.toNat) 0 + d < _; omega), PS.r1_add, hd, ← u3]
            rw [show decide (Z.add .i64 q 1 < H) = true from decide_eq_true (by rw [a5]; omega)]
            conv => whnf
            rw [show decide (Z.add .i64 r 1 < W) = false from decide_eq_false (by rw [a1]; omega)]
            conv => whnf
            rw [if_neg (by omega)] at u4
            rw [← u4]
            have ek : Z.add .i64 (k : Int) 1 = ((k + 1 : Nat) : Int) := Z.wrap_iid (by omega) (by omega)
            refine ⟨k + 1, [.int .i64 (Z.add .i64 (k : Int) 1)], [.row true _ _ _], _, rfl, rfl, rfl, ?_, ?_, ?_⟩
            · exact (by rw [ek])
            · exact (by rw [es])
            · exact ⟨by omega, by omega⟩
        · rw [show decide (Z.add .i64 q 1 < H) = false from decide_eq_false (by rw [a5]; omega)]
          conv => whnf
          rw [if_neg (by omega)] at u2
          rw [← u2]
          rw [show decide (Z.add .i64 q 1 < H) = false from decide_eq_false (by rw [a5]; omega)]
          conv => whnf
          rw [if_neg (by omega)] at u3
          rw [← u3]
          rw [show decide (Z.add .i64 q 1 < H) = false from decide_eq_false (by rw [a5]; omega)]
          conv => whnf
          rw [if_neg (by omega)] at u4
          rw [← u4]
          have ek : Z.add .i64 (k : Int) 1 = ((k + 1 : Nat) : Int) := Z.wrap_iid (by omega) (by omega)
          refine ⟨k + 1, [.int .i64 (Z.add .i64 (k : Int) 1)], [.row true _ _ _], _, rfl, rfl, rfl, ?_, ?_, ?_⟩
          · exact (by rw [ek])
          · exact (by rw [es])
          · exact ⟨by omega, by omega⟩
    · refine ifF (decide_eq_false dk) ?_
      conv => whnf
      refine AWs.go tok 0 ?_
      conv => whnf
      obtain rfl : k = rows.length := by omega
      exact ⟨rfl, rfl, rfl, h⟩
