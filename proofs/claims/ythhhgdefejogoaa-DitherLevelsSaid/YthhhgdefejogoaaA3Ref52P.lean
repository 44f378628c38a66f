/- Part of the proof of a law of the seat: its functions, walked. No condition. -/
import Derived.Test.YthhhgdefejogoaaA3RefPic
import Derived.Test.YthhhgdefejogoaaA3Ref52
import Derived.Test.YthhhgdefejogoaaPSpr
import Derived.Test.YthhhgdefejogoaaPRow
import Derived.Test.YthhhgdefejogoaaEngC
namespace Go.AW.A3
open Go Go.AW Go.Proofs
set_option maxRecDepth 100000
set_option maxHeartbeats 4000000
set_option linter.unusedVariables false
theorem refByte {n x : Int} (hn : 2 ≤ n ∧ n ≤ 16) (hx : -1048576 ≤ x ∧ x ≤ 1048576) {s : List Ob} {Q : AV → List Ob → Prop} (h : ∀ v, v = atN n x → Q (.int .i64 v) s) : AC Try.prog 45 [.int .i64 x, .int .i64 n] s Q := by
  refine AC_pure rfl ?_
  refine AC_body tok 3 Try.func45 rfl (by kernel_rfl) ?_
  conv => whnf
  refine ref52Near (fun g => absurd ⟨hn, hx⟩ g) (fun _ _ p hp => ?_)
  conv => whnf
  refine ref52Level (fun v hv => ?_)
  conv => whnf
  exact ⟨rfl, h _ (by rw [hv]; unfold levelI atN; rw [if_pos ⟨hn, hp.k0, hp.k1⟩, PD.nearF_of hp])⟩
theorem refMay {W H n : Int} {rows : List (List Int)} {e : TypeId} {own : Bool} (hl : rows.length ≤ 1000000) (hfit : Fit3 rows) {i : Nat} {s : List Ob} (hs : s[i]? = some (.row own e [.ik .i64, .ik .i64, .ik .i64] rows)) {Q : AV → List Ob → Prop} (h : ∀ v, v = (picB W H rows && decide (2 ≤ n ∧ n ≤ 16)) → Q (.bool v) s) : AC Try.prog 44 [.agg [.int .i64 W, .int .i64 H, .sl i 0 rows.length none], .int .i64 n] s Q := by
  refine AC_read (args' := [.agg [.int .i64 W, .int .i64 H, .sl 0 0 rows.length none], .int .i64 n]) (L := [.row own e [.ik .i64, .ik .i64, .ik .i64] rows]) [i] (by simp) rfl rfl (by rintro (_ | i') j ob h1 h2 <;> simp at h1 h2; subst h1 h2; exact hs) ?_
  refine AC_body tok 3 Try.func44 rfl (by kernel_rfl) ?_
  conv => whnf
  refine refRight41 (by omega) hfit (by rfl) (fun v hv => ?_)
  conv => whnf
  rw [← hv] at h
  cases v
  · conv => whnf
    exact ⟨rfl, rfl, h _ rfl⟩
  conv => whnf
  by_cases g : n ≥ 2
  · rw [decide_eq_true g]
    conv => whnf
    exact ⟨rfl, rfl, h _ (decide_eq_decide.2 (by omega))⟩
  · rw [decide_eq_false g]
    conv => whnf
    exact ⟨rfl, rfl, h _ (decide_eq_false (by omega)).symm⟩
theorem refPlain52 {W H n : Int} {rows : List (List Int)} {e : TypeId} {own : Bool} (hl : rows.length ≤ 1000000) (hfit : Fit3 rows) (hn : 2 ≤ n ∧ n ≤ 16) (hp : picB W H rows = true) {i : Nat} {s : List Ob} (hs : s[i]? = some (.row own e [.ik .i64, .ik .i64, .ik .i64] rows)) {Q : AV → List Ob → Prop}
    (h : Q (.agg [.int .i64 W, .int .i64 H, .sl s.length 0 rows.length none]) (s ++ [.row true 38 [.ik .i64, .ik .i64, .ik .i64] (plainR n rows)])) : AC Try.prog 18 [.agg [.int .i64 W, .int .i64 H, .sl i 0 rows.length none], .int .i64 n] s Q := by
  refine AC_mk1 (args' := [.agg [.int .i64 W, .int .i64 H, .sl 0 0 rows.length none], .int .i64 n]) (L := [.row own e [.ik .i64, .ik .i64, .ik .i64] rows]) [i] (by simp) rfl rfl (by rintro (_ | i') j ob h1 h2 <;> simp at h1 h2; subst h1 h2; exact hs) (.agg [.int .i64 W, .int .i64 H, .sl 1 0 rows.length none]) 6 (by simp) ?_
  refine AC_body tok 0 Try.func18 rfl (by kernel_rfl) ?_
  conv => whnf
  refine refMay hl hfit (by rfl) (fun v hv => ?_)
  conv => whnf
  rw [hp, decide_eq_true hn] at hv
  subst hv
  conv => whnf
  obtain ⟨w1, w2, w3⟩ := PPi.pic_sides hp
  have hlen : 0 < (rows.length : Int) := by have m := PV.mul_le (a := W) (b := H) (A := 256) (B := 256) (by omega) (by omega); have := Int.mul_pos (show 0 < W by omega) (show 0 < H by omega); omega
  refine ALs.round tok 0 ?_
  conv => whnf
  rw [decide_eq_true hlen]
  conv => whnf
  refine ixI (by omega) hlen ?_
  conv => whnf
  refine rowI (by omega) hlen ?_
  conv => whnf
  obtain ⟨x, y, z, er, hx, hy, hz⟩ := hfit (0 + Int.toNat 0) (by omega)
  have hb := PPi.pic_at hp (k := 0 + Int.toNat 0) (by omega)
  rw [er] at hb
  simp only [bytesB, byteB, List.all_cons, List.all_nil, Bool.and_true, Bool.and_eq_true, decide_eq_true_eq] at hb
  rw [er]
  obtain ⟨v0, e0⟩ : ∃ v, v = atN n x := ⟨_, rfl⟩
  obtain ⟨v1, e1⟩ : ∃ v, v = atN n y := ⟨_, rfl⟩
  obtain ⟨v2, e2⟩ : ∃ v, v = atN n z := ⟨_, rfl⟩
  have et : (plainR n rows).getD (0 + Int.toNat 0) [] = [v0, v1, v2] := by unfold plainR; rw [PR.map_getD _ _ [] [] (by omega), er, e0, e1, e2]; rfl
  refine AW_drawU tok hP ?_
  conv => whnf
  refine AQ_pure (r := .int .i64 v0) (fun s Q h => refByte (x := x) hn (by omega) (fun v hv => by obtain rfl : v = v0 := hv.trans e0.symm; exact h)) ?_
  conv => whnf
  refine AQ_pure (r := .int .i64 v1) (fun s Q h => refByte (x := y) hn (by omega) (fun v hv => by obtain rfl : v = v1 := hv.trans e1.symm; exact h)) ?_
  conv => whnf
  refine AQ_pure (r := .int .i64 v2) (fun s Q h => refByte (x := z) hn (by omega) (fun v hv => by obtain rfl : v = v2 := hv.trans e2.symm; exact h)) ?_
  conv => whnf
  refine ⟨⟨by kernel_rfl⟩, ?_⟩
  conv => whnf
  have pl : (plainR n rows).length = rows.length := by unfold plainR; simp
  have f1 : (plainR n rows).take (Int.toNat 1) = [[v0, v1, v2]] := by
    have := PR.take_succ (plainR n rows) [] (k := 0) (by omega)
    rw [show (Int.toNat 1) = 0 + 1 from rfl, ← this, show (plainR n rows).getD 0 [] = [v0, v1, v2] from et]; rfl
  clear et e0 e1 e2 er hb hx hy hz
  refine ALs.lp (ι := Int) tok 12 [6] (fun k => [.int .i64 k]) [3, 6] (fun k => [.cells 0 [.int .i64 W, .int .i64 H, .sl 6 0 k.toNat none], .row true 38 [.ik .i64, .ik .i64, .ik .i64] ((plainR n rows).take k.toNat)]) (fun _ => ()) (fun k => 1 ≤ k ∧ k ≤ rows.length) (fun k => (rows.length - k).toNat) (1) (⟨by omega, by omega⟩) (by rfl) (by rw [f1]; rfl) rfl (Nat.le_of_ble_eq_true rfl) (fun _ => rfl) ?_
  clear f1
  rintro k ⟨k0, k1⟩
  conv => whnf
  by_cases dk : k < rows.length
  · refine ifT (decide_eq_true dk) ?_
    conv => whnf
    refine ixI (by omega) dk ?_
    conv => whnf
    refine rowI (by omega) dk ?_
    conv => whnf
    obtain ⟨x, y, z, er, hx, hy, hz⟩ := hfit (0 + Int.toNat k) (by omega)
    have hb := PPi.pic_at hp (k := 0 + Int.toNat k) (by omega)
    rw [er] at hb
    simp only [bytesB, byteB, List.all_cons, List.all_nil, Bool.and_true, Bool.and_eq_true, decide_eq_true_eq] at hb
    rw [er]
    obtain ⟨v0, e0⟩ : ∃ v, v = atN n x := ⟨_, rfl⟩
    obtain ⟨v1, e1⟩ : ∃ v, v = atN n y := ⟨_, rfl⟩
    obtain ⟨v2, e2⟩ : ∃ v, v = atN n z := ⟨_, rfl⟩
    have et : (plainR n rows).getD (0 + Int.toNat k) [] = [v0, v1, v2] := by unfold plainR; rw [PR.map_getD _ _ [] [] (by omega), er, e0, e1, e2]; rfl
    refine AW_drawU tok hP ?_
    conv => whnf
    refine AQ_pure (r := .int .i64 v0) (fun s Q h => refByte (x := x) hn (by omega) (fun v hv => by obtain rfl : v = v0 := hv.trans e0.symm; exact h)) ?_
    conv => whnf
    refine AQ_pure (r := .int .i64 v1) (fun s Q h => refByte (x := y) hn (by omega) (fun v hv => by obtain rfl : v = v1 := hv.trans e1.symm; exact h)) ?_
    conv => whnf
    refine AQ_pure (r := .int .i64 v2) (fun s Q h => refByte (x := z) hn (by omega) (fun v hv => by obtain rfl : v = v2 := hv.trans e2.symm; exact h)) ?_
    conv => whnf
    refine ⟨⟨by kernel_rfl⟩, ?_⟩
    conv => whnf
    have tl : (List.take k.toNat (plainR n rows)).length = k.toNat := by rw [List.length_take]; omega
    refine andI (by rw [tl]; simp; omega) ?_
    conv => whnf
    have ek : Z.add .i64 k 1 = k + 1 := Z.wrap_iid (by omega) (by omega)
    refine ⟨k + 1, [.int .i64 (Z.add .i64 k 1)], [.cells 0 [_, _, .sl 6 0 _ none], .row true _ _ _], _, rfl, rfl, rfl, ?_, ?_, ?_⟩
    · exact (by rw [ek])
    · exact (by { have t1 := PR.take_succ (plainR n rows) [] (k := k.toNat) (by omega); rw [Nat.zero_add] at et; rw [et] at t1; rw [show (k + 1).toNat = k.toNat + 1 by omega, ← t1]; rfl })
    · exact ⟨by omega, by omega, by omega⟩
  · refine ifF (decide_eq_false dk) ?_
    conv => whnf
    refine AWs.go tok 0 ?_
    conv => whnf
    obtain rfl : k = rows.length := by omega
    refine ⟨rfl, rfl, rfl, ?_⟩
    rw [show ((rows.length : Nat) : Int).toNat = (plainR n rows).length by rw [pl]; omega, List.take_length]
    exact h
