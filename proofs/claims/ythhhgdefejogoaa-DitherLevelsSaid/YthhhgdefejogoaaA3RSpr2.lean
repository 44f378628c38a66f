/- Part of the proof of a law of the seat: its functions, walked. No condition. -/
import Derived.Test.YthhhgdefejogoaaA3RSpr
import Derived.Test.YthhhgdefejogoaaPCount
namespace Go.AW.A3
open Go Go.AW Go.Proofs
set_option maxRecDepth 100000
set_option maxHeartbeats 8000000
set_option linter.unusedVariables false
theorem refSpread52 {W H n : Int} {rows : List (List Int)} {e : TypeId} {own : Bool} (hl : rows.length ≤ 64) (hfit : Fit3 rows) (hn : 2 ≤ n ∧ n ≤ 16) (hp : picB W H rows = true) {i : Nat} {s : List Ob} (hs : s[i]? = some (.row own e [.ik .i64, .ik .i64, .ik .i64] rows)) {Q : AV → List Ob → Prop}
    (h : Q (.agg [.int .i64 W, .int .i64 H, .sl s.length 0 rows.length none]) (s ++ [.row true 38 [.ik .i64, .ik .i64, .ik .i64] (sprR n W.toNat H.toNat rows)])) : AC Try.prog 20 [.agg [.int .i64 W, .int .i64 H, .sl i 0 rows.length none], .int .i64 n] s Q := by
  refine AC_mk1 (args' := [.agg [.int .i64 W, .int .i64 H, .sl 0 0 rows.length none], .int .i64 n]) (L := [.row own e [.ik .i64, .ik .i64, .ik .i64] rows]) [i] (by simp) rfl rfl (by rintro (_ | i') j ob h1 h2 <;> simp at h1 h2; subst h1 h2; exact hs) (.agg [.int .i64 W, .int .i64 H, .sl 1 0 rows.length none]) 8 (by simp) ?_
  obtain ⟨w1, w2, w3⟩ := PPi.pic_sides hp
  have hlen : 0 < (rows.length : Int) := by have m := PV.mul_le (a := W) (b := H) (A := 256) (B := 256) (by omega) (by omega); have := Int.mul_pos (show 0 < W by omega) (show 0 < H by omega); omega
  refine AC_body tok 0 Try.func20 rfl (by kernel_rfl) ?_
  conv => whnf
  refine refMay (by omega) hfit (by rfl) (fun v hv => ?_)
  conv => whnf
  rw [hp, decide_eq_true hn] at hv
  subst hv
  conv => whnf
  try (refine AW_draw tok hP ?_; conv => whnf)
  refine AQ_new [0] (r := .sl 4 0 rows.length none) [.row true 3 [.ik .i64] (rows1 (spUpto n W.toNat H.toNat (colR 0 rows) rows.length))] (fun s' Q hl' hC h => refChannel_0 hl hfit hn hp ((hC 0 (by decide)).trans rfl) (by rw [hl']; exact h)) ?_
  conv => whnf
  refine AQ_new [0] (r := .sl 5 0 rows.length none) [.row true 3 [.ik .i64] (rows1 (spUpto n W.toNat H.toNat (colR 1 rows) rows.length))] (fun s' Q hl' hC h => refChannel_1 hl hfit hn hp ((hC 0 (by decide)).trans rfl) (by rw [hl']; exact h)) ?_
  conv => whnf
  refine AQ_new [0] (r := .sl 6 0 rows.length none) [.row true 3 [.ik .i64] (rows1 (spUpto n W.toNat H.toNat (colR 2 rows) rows.length))] (fun s' Q hl' hC h => refChannel_2 hl hfit hn hp ((hC 0 (by decide)).trans rfl) (by rw [hl']; exact h)) ?_
  conv => whnf
  refine ⟨⟨by kernel_rfl⟩, ?_⟩
  conv => whnf
  have lA : (spUpto n W.toNat H.toNat (colR 0 rows) rows.length).length = rows.length := by rw [PD.spUpto_len, PS.col_len]
  have lB : (spUpto n W.toNat H.toNat (colR 1 rows) rows.length).length = rows.length := by rw [PD.spUpto_len, PS.col_len]
  have lC : (spUpto n W.toNat H.toNat (colR 2 rows) rows.length).length = rows.length := by rw [PD.spUpto_len, PS.col_len]
  have eS : sprR n W.toNat H.toNat rows = zip3 rows.length (spUpto n W.toNat H.toNat (colR 0 rows) rows.length) (spUpto n W.toNat H.toNat (colR 1 rows) rows.length) (spUpto n W.toNat H.toNat (colR 2 rows) rows.length) := rfl
  rw [eS] at h
  generalize spUpto n W.toNat H.toNat (colR 0 rows) rows.length = A at *
  generalize spUpto n W.toNat H.toNat (colR 1 rows) rows.length = B at *
  generalize spUpto n W.toNat H.toNat (colR 2 rows) rows.length = C at *
  clear eS
  have zl := PS.zip_len rows.length A B C
  refine ALs.round tok 0 ?_
  conv => whnf
  rw [decide_eq_true hlen]
  conv => whnf
  refine AW_drawU tok hP ?_
  conv => whnf
  refine ixI (by omega) hlen ?_
  conv => whnf
  refine andP (by rw [PS.r1_len]; omega) ?_
  conv => whnf
  refine ixI (by omega) hlen ?_
  conv => whnf
  refine andP (by rw [PS.r1_len]; omega) ?_
  conv => whnf
  refine ixI (by omega) hlen ?_
  conv => whnf
  refine andP (by rw [PS.r1_len]; omega) ?_
  conv => whnf
  refine ⟨⟨by kernel_rfl⟩, ?_⟩
  conv => whnf
  have z3 : ∀ k, k < rows.length → [((rows1 A).getD k []).headD 0, ((rows1 B).getD k []).headD 0, ((rows1 C).getD k []).headD 0] = (zip3 rows.length A B C).getD k [] := fun k hk => by rw [PS.zip_at _ _ _ hk, PS.r1_at (by omega), PS.r1_at (by omega), PS.r1_at (by omega)]; rfl
  have f1 : (zip3 rows.length A B C).take 1 = [[((rows1 A).getD (0 + Int.toNat 0) []).headD 0, ((rows1 B).getD (0 + Int.toNat 0) []).headD 0, ((rows1 C).getD (0 + Int.toNat 0) []).headD 0]] := by
    rw [z3 (0 + Int.toNat 0) (by omega), ← PR.take_succ (zip3 rows.length A B C) [] (k := 0) (by omega)]; rfl
  refine ALs.lp (ι := Nat) tok 0 [9] (fun k => [.int .i64 (k : Int)]) [3, 8] (fun k => [.cells 0 [.int .i64 W, .int .i64 H, .sl 8 0 k none], .row true 38 [.ik .i64, .ik .i64, .ik .i64] ((zip3 rows.length A B C).take k)]) (fun _ => ()) (fun k => 1 ≤ k ∧ k ≤ rows.length) (fun k => rows.length - k) (1) (⟨by omega, by omega⟩) (by rfl) (by rw [f1]; rfl) rfl (Nat.le_of_ble_eq_true rfl) (fun _ => rfl) ?_
  clear f1
  rintro k ⟨k0, k1⟩
  conv => whnf
  by_cases dk : (k : Int) < rows.length
  · refine ifT (decide_eq_true dk) ?_
    conv => whnf
    refine AW_drawU tok hP ?_
    conv => whnf
    refine ixI (by omega) dk ?_
    conv => whnf
    refine andP (by rw [PS.r1_len]; omega) ?_
    conv => whnf
    refine ixI (by omega) dk ?_
    conv => whnf
    refine andP (by rw [PS.r1_len]; omega) ?_
    conv => whnf
    refine ixI (by omega) dk ?_
    conv => whnf
    refine andP (by rw [PS.r1_len]; omega) ?_
    conv => whnf
    refine ⟨⟨by kernel_rfl⟩, ?_⟩
    conv => whnf
    have tl : (List.take k (zip3 rows.length A B C)).length = k := by rw [List.length_take]; omega
    refine andI (by rw [tl]; simp; omega) ?_
    conv => whnf
    have ek : Z.add .i64 (k : Int) 1 = ((k + 1 : Nat) : Int) := Z.wrap_iid (by omega) (by omega)
    refine ⟨k + 1, [.int .i64 (Z.add .i64 (k : Int) 1)], [.cells 0 [_, _, .sl 8 0 _ none], .row true _ _ _], _, rfl, rfl, rfl, ?_, ?_, ?_⟩
    · exact (by rw [ek])
    · exact (by { have t1 := PR.take_succ (zip3 rows.length A B C) [] (k := k) (by omega); rw [← z3 k (by omega)] at t1; rw [← t1, show 0 + ((k : Nat) : Int).toNat = k by omega]; rfl })
    · exact ⟨by omega, by omega, by omega⟩
  · refine ifF (decide_eq_false dk) ?_
    conv => whnf
    refine AWs.go tok 0 ?_
    conv => whnf
    obtain rfl : k = rows.length := by omega
    refine ⟨rfl, rfl, rfl, ?_⟩
    rw [show List.take rows.length (zip3 rows.length A B C) = zip3 rows.length A B C by rw [List.take_of_length_le (by omega)]]
    exact h
theorem refCount52 {W H : Int} {rows : List (List Int)} (hp : picB W H rows = true) (hl : rows.length ≤ 1000000) (hfit : Fit3 rows) {e : TypeId} {own : Bool} {i : Nat} {s : List Ob} (hs : s[i]? = some (.row own e [.ik .i64, .ik .i64, .ik .i64] rows)) {Q : AV → List Ob → Prop}
    (h : ∀ v, v = countL rows.flatten → Q (.int .i64 v) s) : AC Try.prog 24 [.agg [.int .i64 W, .int .i64 H, .sl i 0 rows.length none]] s Q := by
  refine AC_rd (args' := [.agg [.int .i64 W, .int .i64 H, .sl 0 0 rows.length none]]) (L := [.row own e [.ik .i64, .ik .i64, .ik .i64] rows]) [i] (by simp) rfl (by rintro (_ | i') j ob h1 h2 <;> simp at h1 h2 <;> subst h1 h2 <;> assumption) ?_
  refine AC_body tok 0 Try.func24 rfl (by kernel_rfl) ?_
  conv => whnf
  generalize hF : rows.flatten = F at *
  refine ALs.lp (ι := Int) tok 0 [3, 4] (fun b => [.int .i64 (countK F b.toNat), .int .i64 b]) [] (fun b => []) (fun _ => ()) (fun b => 0 ≤ b ∧ b ≤ 256) (fun b => (256 - b).toNat) (0) (⟨by omega, by omega⟩) (by rfl) (by rfl) rfl (Nat.le_of_ble_eq_true rfl) (fun _ => rfl) ?_
  rintro b ⟨b0, b1⟩
  conv => whnf
  by_cases db : b < 256
  · rw [decide_eq_true db]
    conv => whnf
    refine refRight41 (by omega) hfit (by rfl) (fun v hv => ?_)
    conv => whnf
    rw [hp] at hv
    subst hv
    conv => whnf
    refine ALs.lp (ι := Nat) tok 12 [5, 6] (fun k => [.bool (decide (b ∈ (rows.take k).flatten)), .int .i64 (k : Int)]) [] (fun k => []) (fun _ => ()) (fun k => k ≤ rows.length) (fun k => rows.length - k) (0) (Nat.zero_le _) (by rfl) (by rfl) rfl (Nat.le_of_ble_eq_true rfl) (fun _ => rfl) ?_
    rintro k k1
    conv => whnf
    by_cases dk : (k : Int) < rows.length
    · refine ifT (decide_eq_true dk) ?_
      conv => whnf
      replace dk : k < rows.length := by omega
      have kk : (0 : Int) ≤ (k : Int) ∧ (k : Int) < rows.length := ⟨by omega, by omega⟩
      have kt : 0 + ((k : Nat) : Int).toNat = k := by omega
      obtain ⟨x, y, z, er, hx, hy, hz⟩ := hfit k dk
      have ef : decide (b ∈ (rows.take (k + 1)).flatten) = (decide (b ∈ (rows.take k).flatten) || (x == b || (y == b || z == b))) := by
        rw [PC.flat_succ dk, er, Bool.eq_iff_iff]
        simp only [List.mem_append, List.mem_cons, List.not_mem_nil, or_false, Bool.or_eq_true, decide_eq_true_eq, beq_iff_eq]
        rw [show (b = x) = (x = b) from propext eq_comm, show (b = y) = (y = b) from propext eq_comm, show (b = z) = (z = b) from propext eq_comm]
      have ek : Z.add .i64 (k : Int) 1 = ((k + 1 : Nat) : Int) := Z.wrap_iid (by omega) (by omega)
      generalize decide (b ∈ (rows.take k).flatten) = I at *
      cases I
      · conv => whnf
        refine ixI kk.1 kk.2 ?_
        conv => whnf
        refine andP (by rw [kt]; omega) ?_
        conv => whnf
        rw [kt, er]
        first | rw [show ([x, y, z] : List Int).tail.tail.headD 0 = z from rfl] | rw [show ([x, y, z] : List Int).tail.headD 0 = y from rfl] | rw [show ([x, y, z] : List Int).headD 0 = x from rfl]
        by_cases g1 : x = b
        · subst g1
          rw [beq_self_eq_true x] at ef ⊢
          conv => whnf
          refine ⟨k + 1, [.bool true, .int .i64 (Z.add .i64 (k : Int) 1)], [], _, rfl, rfl, rfl, ?_, ?_, ?_⟩
          · exact (by rw [ek, ef]; rfl)
          · exact (rfl)
          · exact ⟨by omega, by omega⟩
        rw [beq_eq_false_iff_ne.2 g1] at ef ⊢
        conv => whnf
        refine ixI kk.1 kk.2 ?_
        conv => whnf
        refine andP (by rw [kt]; omega) ?_
        conv => whnf
        try rw [kt, er]
        first | rw [show ([x, y, z] : List Int).tail.tail.headD 0 = z from rfl] | rw [show ([x, y, z] : List Int).tail.headD 0 = y from rfl] | rw [show ([x, y, z] : List Int).headD 0 = x from rfl]
        by_cases g2 : y = b
        · subst g2
          rw [beq_self_eq_true y] at ef ⊢
          conv => whnf
          refine ⟨k + 1, [.bool true, .int .i64 (Z.add .i64 (k : Int) 1)], [], _, rfl, rfl, rfl, ?_, ?_, ?_⟩
          · exact (by rw [ek, ef]; rfl)
          · exact (rfl)
          · exact ⟨by omega, by omega⟩
        rw [beq_eq_false_iff_ne.2 g2] at ef ⊢
        conv => whnf
        refine ixI kk.1 kk.2 ?_
        conv => whnf
        refine andP (by rw [kt]; omega) ?_
        conv => whnf
        try rw [kt, er]
        first | rw [show ([x, y, z] : List Int).tail.tail.headD 0 = z from rfl] | rw [show ([x, y, z] : List Int).tail.headD 0 = y from rfl] | rw [show ([x, y, z] : List Int).headD 0 = x from rfl]
        refine ⟨k + 1, [.bool (z == b), .int .i64 (Z.add .i64 (k : Int) 1)], [], _, rfl, rfl, rfl, ?_, ?_, ?_⟩
        · exact (by rw [ek, ef]; rfl)
        · exact (rfl)
        · exact ⟨by omega, by omega⟩
      · conv => whnf
        refine ⟨k + 1, [.bool true, .int .i64 (Z.add .i64 (k : Int) 1)], [], _, rfl, rfl, rfl, ?_, ?_, ?_⟩
        · exact (by rw [ek, ef]; rfl)
        · exact (rfl)
        · exact ⟨by omega, by omega⟩
    · refine ifF (decide_eq_false dk) ?_
      conv => whnf
      refine AWs.go tok 0 ?_
      conv => whnf
      obtain rfl : k = rows.length := by omega
      rw [List.take_length, hF]
      have ec := PC.count_succ F b.toNat
      rw [show ((b.toNat : Nat) : Int) = b by omega] at ec
      have cb := PC.count_b F b.toNat
      have ek : Z.add .i64 b 1 = b + 1 := Z.wrap_iid (by omega) (by omega)
      by_cases gb : b ∈ F
      · rw [decide_eq_true gb]
        rw [if_pos gb] at ec
        conv => whnf
        refine AWs.go tok 0 ?_
        conv => whnf
        have e2 : Z.add .i64 (countK F b.toNat) 1 = countK F b.toNat + 1 := Z.wrap_iid (by omega) (by omega)
        refine ⟨b + 1, [.int .i64 (Z.add .i64 (countK F b.toNat) 1), .int .i64 (Z.add .i64 b 1)], [], _, rfl, rfl, rfl, ?_, ?_, ?_⟩
        · exact (by rw [ek, e2, ← ec, show (b + 1).toNat = b.toNat + 1 by omega])
        · exact (rfl)
        · exact ⟨by omega, by omega, by omega⟩
      · rw [decide_eq_false gb]
        rw [if_neg gb, Int.add_zero] at ec
        conv => whnf
        refine AWs.go tok 0 ?_
        conv => whnf
        refine ⟨b + 1, [.int .i64 (countK F b.toNat), .int .i64 (Z.add .i64 b 1)], [], _, rfl, rfl, rfl, ?_, ?_, ?_⟩
        · exact (by rw [ek, ← ec, show (b + 1).toNat = b.toNat + 1 by omega])
        · exact (rfl)
        · exact ⟨by omega, by omega, by omega⟩
  · rw [decide_eq_false db]
    conv => whnf
    refine AWs.go tok 0 ?_
    conv => whnf
    obtain rfl : b = 256 := by omega
    exact ⟨rfl, rfl, h _ rfl⟩
