/- Part of the proof of a law of the seat: its functions, walked. No condition. -/
import Derived.Test.YthhhgdefejogoaaA3DSpr
namespace Go.AW.A3
open Go Go.AW Go.Proofs
set_option maxRecDepth 100000
set_option maxHeartbeats 8000000
set_option linter.unusedVariables false
theorem ditSpread {W H n : Int} {rows : List (List Int)} {e : TypeId} {own : Bool} (hl : rows.length ≤ 64) (hfit : Fit3 rows) (hn : 2 ≤ n ∧ n ≤ 16) (hp : picB W H rows = true) {i : Nat} {s : List Ob} (hs : s[i]? = some (.row own e [.ik .i64, .ik .i64, .ik .i64] rows)) {Q : AV → List Ob → Prop}
    (h : Q (.agg [.int .i64 W, .int .i64 H, .sl s.length 0 rows.length none]) (s ++ [.row true 38 [.ik .i64, .ik .i64, .ik .i64] (sprR n W.toNat H.toNat rows)])) : AC Try.prog 19 [.agg [.int .i64 W, .int .i64 H, .sl i 0 rows.length none], .int .i64 n] s Q := by
  refine AC_mk1 (args' := [.agg [.int .i64 W, .int .i64 H, .sl 0 0 rows.length none], .int .i64 n]) (L := [.row own e [.ik .i64, .ik .i64, .ik .i64] rows]) [i] (by simp) rfl rfl (by rintro (_ | i') j ob h1 h2 <;> simp at h1 h2; subst h1 h2; exact hs) (.agg [.int .i64 W, .int .i64 H, .sl 1 0 rows.length none]) 7 (by simp) ?_
  obtain ⟨w1, w2, w3⟩ := PPi.pic_sides hp
  refine AC_body tok 4 Try.func19 rfl (by kernel_rfl) ?_
  conv => whnf
  refine andI (by simp; omega) ?_
  conv => whnf
  refine AC_body tok 0 Try.func41 rfl (by kernel_rfl) ?_
  conv => whnf
  refine ditGiven (fun v hv => ?_)
  conv => whnf
  obtain rfl : v = true := by rw [hv]; exact decide_eq_true hn
  conv => whnf
  refine picRight (by omega) hfit (by rfl) (fun v hv => ?_)
  conv => whnf
  rw [hp] at hv
  subst hv
  conv => whnf
  try (refine AW_draw tok hP ?_; conv => whnf)
  refine andI (by simp; omega) ?_
  conv => whnf
  refine ⟨⟨by kernel_rfl⟩, ?_⟩
  conv => whnf
  have pl := PS.spr_len n W.toNat H.toNat rows
  have hWn : 0 < W.toNat := by omega
  have e0 : fillU (sprR n W.toNat H.toNat rows) 0 = List.replicate ((rows.length : Nat) : Int).toNat [0, 0, 0] := by rw [PR.fill_zero, pl]; rfl
  refine ALs.lp (ι := Nat × List Int × List Int × List Int) tok 4 [33] (fun (k, _, _, _) => [.int .i64 (k : Int)]) [3, 7] (fun (k, A, B, C) => [.row true 38 [.ik .i64, .ik .i64, .ik .i64] (zip3 rows.length A B C), .row true 38 [.ik .i64, .ik .i64, .ik .i64] (fillU (sprR n W.toNat H.toNat rows) k)]) (fun _ => ()) (fun (k, A, B, C) => k ≤ rows.length ∧ RelS (colR 0 rows) A (spUpto n W.toNat H.toNat (colR 0 rows) k) k ∧ RelS (colR 1 rows) B (spUpto n W.toNat H.toNat (colR 1 rows) k) k ∧ RelS (colR 2 rows) C (spUpto n W.toNat H.toNat (colR 2 rows) k) k) (fun (k, _) => rows.length - k) ((0, List.replicate (colR 0 rows).length 0, List.replicate (colR 1 rows).length 0, List.replicate (colR 2 rows).length 0)) (⟨Nat.zero_le _, PS.rel_zero _, PS.rel_zero _, PS.rel_zero _⟩) (by rfl) (by show _ = updS [3, 7] [.row true 38 [.ik .i64, .ik .i64, .ik .i64] (zip3 rows.length _ _ _), .row true 38 [.ik .i64, .ik .i64, .ik .i64] (fillU (sprR n W.toNat H.toNat rows) 0)] _; rw [e0, PS.zip_zero]; rfl) rfl (Nat.le_of_ble_eq_true rfl) (fun _ => rfl) ?_
  rintro ⟨k, A, B, C⟩ ⟨k1, rA, rB, rC⟩
  conv => whnf
  by_cases dk : (k : Int) < rows.length
  · refine ifT (decide_eq_true dk) ?_
    conv => whnf
    replace dk : k < rows.length := by omega
    have kk : (0 : Int) ≤ (k : Int) ∧ (k : Int) < rows.length := ⟨by omega, by omega⟩
    obtain ⟨x, y, z, er, hx, hy, hz⟩ := hfit k dk
    have hb := PPi.pic_at hp dk
    rw [er] at hb
    obtain ⟨a1, a2, a3, a4, a5⟩ := PS.step_of hn hl hp hfit (show 0 < 3 by decide) dk rA
    obtain ⟨b1, b2, b3, b4, b5⟩ := PS.step_of hn hl hp hfit (show 1 < 3 by decide) dk rB
    obtain ⟨c1, c2, c3, c4, c5⟩ := PS.step_of hn hl hp hfit (show 2 < 3 by decide) dk rC
    rw [er] at a3 b3 c3
    have et := PS.spr_at (n := n) (H := H.toNat) hWn dk
    have fl : (fillU (sprR n W.toNat H.toNat rows) k).length = rows.length := by rw [PR.fill_len _ (by omega), pl]
    generalize (spUpto n W.toNat H.toNat (colR 0 rows) k).getD k 0 = l0 at *
    generalize (spUpto n W.toNat H.toNat (colR 1 rows) k).getD k 0 = l1 at *
    generalize (spUpto n W.toNat H.toNat (colR 2 rows) k).getD k 0 = l2 at *
    obtain ⟨v0, e0⟩ : ∃ v, v = atN n l0 := ⟨_, rfl⟩
    obtain ⟨v1, e1⟩ : ∃ v, v = atN n l1 := ⟨_, rfl⟩
    obtain ⟨v2, e2⟩ : ∃ v, v = atN n l2 := ⟨_, rfl⟩
    have kt : 0 + ((k : Nat) : Int).toNat = k := by omega
    try (refine AW_draw tok hP ?_; conv => whnf)
    refine AQ_upd [0, 1, 3, 4] (r := .int .i64 v0) 3 (.row true 38 [.ik .i64, .ik .i64, .ik .i64] (zip3 rows.length (handOn W.toNat H.toNat k (l0 - atN n l0) A) B C)) (fun s' Q hl' hC h => ditSpr1_0 (by omega) hn w1 w2 w3 dk er hb a1 b1 c1 a2 a3 a4 (by decide) ((hC 0 (by decide)).trans rfl) ((hC 1 (by decide)).trans rfl) ((hC 3 (by decide)).trans rfl) ((hC 4 (by decide)).trans rfl) (fun v hv => by obtain rfl : v = v0 := hv.trans e0.symm; exact h)) ?_
    conv => whnf
    refine ixI kk.1 (by omega) ?_
    conv => whnf
    refine andP (by rw [kt]; repeat rw [List.length_set]
                    rw [fl]; omega) ?_
    conv => whnf
    refine ⟨⟨by kernel_rfl⟩, ?_⟩
    conv => whnf
    try (refine AW_draw tok hP ?_; conv => whnf)
    refine AQ_upd [0, 1, 3, 4] (r := .int .i64 v1) 3 (.row true 38 [.ik .i64, .ik .i64, .ik .i64] (zip3 rows.length (handOn W.toNat H.toNat k (l0 - atN n l0) A) (handOn W.toNat H.toNat k (l1 - atN n l1) B) C)) (fun s' Q hl' hC h => ditSpr1_1 (by omega) hn w1 w2 w3 dk er hb (by rw [PD.handOn_len]; exact a1) b1 c1 b2 b3 b4 (by decide) ((hC 0 (by decide)).trans rfl) ((hC 1 (by decide)).trans rfl) ((hC 3 (by decide)).trans rfl) ((hC 4 (by decide)).trans rfl) (fun v hv => by obtain rfl : v = v1 := hv.trans e1.symm; exact h)) ?_
    conv => whnf
    refine ixI kk.1 (by omega) ?_
    conv => whnf
    refine andP (by rw [kt]; repeat rw [List.length_set]
                    rw [fl]; omega) ?_
    conv => whnf
    refine ⟨⟨by kernel_rfl⟩, ?_⟩
    conv => whnf
    try (refine AW_draw tok hP ?_; conv => whnf)
    refine AQ_upd [0, 1, 3, 4] (r := .int .i64 v2) 3 (.row true 38 [.ik .i64, .ik .i64, .ik .i64] (zip3 rows.length (handOn W.toNat H.toNat k (l0 - atN n l0) A) (handOn W.toNat H.toNat k (l1 - atN n l1) B) (handOn W.toNat H.toNat k (l2 - atN n l2) C))) (fun s' Q hl' hC h => ditSpr1_2 (by omega) hn w1 w2 w3 dk er hb (by rw [PD.handOn_len]; exact a1) (by rw [PD.handOn_len]; exact b1) c1 c2 c3 c4 (by decide) ((hC 0 (by decide)).trans rfl) ((hC 1 (by decide)).trans rfl) ((hC 3 (by decide)).trans rfl) ((hC 4 (by decide)).trans rfl) (fun v hv => by obtain rfl : v = v2 := hv.trans e2.symm; exact h)) ?_
    conv => whnf
    refine ixI kk.1 (by omega) ?_
    conv => whnf
    refine andP (by rw [kt]; repeat rw [List.length_set]
                    rw [fl]; omega) ?_
    conv => whnf
    refine ⟨⟨by kernel_rfl⟩, ?_⟩
    conv => whnf
    have ek : Z.add .i64 (k : Int) 1 = ((k + 1 : Nat) : Int) := Z.wrap_iid (by omega) (by omega)
    refine ⟨(k + 1, (handOn W.toNat H.toNat k (l0 - atN n l0) A), (handOn W.toNat H.toNat k (l1 - atN n l1) B), (handOn W.toNat H.toNat k (l2 - atN n l2) C)), [.int .i64 (Z.add .i64 (k : Int) 1)], [.row true _ _ _, .row true _ _ _], _, rfl, rfl, rfl, ?_, ?_, ?_⟩
    · exact (by rw [ek])
    · exact (by rw [kt, PR.fill_set3 (sprR n W.toNat H.toNat rows) (k := k) (by omega) (by rw [et, ← e0, ← e1, ← e2]) rfl rfl])
    · exact ⟨by show rows.length - (k + 1) < rows.length - k; omega, by show k + 1 ≤ rows.length; omega, a5, b5, c5⟩
  · refine ifF (decide_eq_false dk) ?_
    conv => whnf
    refine AWs.go tok 0 ?_
    conv => whnf
    refine ⟨rfl, rfl, rfl, ?_⟩
    rw [PR.fill_all _ (by omega)]
    exact h
