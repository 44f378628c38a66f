/- Part of the proof of a law of the seat: its functions, walked. No condition. -/
import Derived.Test.YthhhgdefejogoaaA3RefPic
import Derived.Test.YthhhgdefejogoaaA3Dither
import Derived.Test.YthhhgdefejogoaaA3Ref52
import Derived.Test.YthhhgdefejogoaaPSpr
import Derived.Test.YthhhgdefejogoaaPRow
import Derived.Test.YthhhgdefejogoaaEngC
namespace Go.AW.A3
open Go Go.AW Go.Proofs
set_option maxRecDepth 100000
set_option maxHeartbeats 4000000
set_option linter.unusedVariables false
theorem ditAt2 {n x : Int} (hn : 2 ≤ n ∧ n ≤ 16) (hx : -4294967296 ≤ x ∧ x ≤ 4294967296) {s : List Ob} {Q : AV → List Ob → Prop} (h : ∀ v, v = atN n x → Q (.int .i64 v) s) : AC Try.prog 43 [.int .i64 n, .int .i64 x] s Q := by
  obtain ⟨k, hk⟩ := PD.near_ex hn.1 hn.2 x
  exact ditAt hn hx hk (h _ (by unfold atN; rw [PD.nearF_of hk]))
theorem ditPlain1 {W H n k c : Int} {rows : List (List Int)} {e : TypeId} {own : Bool} (hl : rows.length ≤ 1000000) (hn : 2 ≤ n ∧ n ≤ 16) (hk : 0 ≤ k ∧ k < rows.length) (hc : c = 0 ∨ c = 1 ∨ c = 2) {x y z : Int} (hr : rows.getD k.toNat [] = [x, y, z]) (hx : I64 x ∧ I64 y ∧ I64 z) (hb : bytesB [x, y, z] = true) {i0 i1 : Nat} (hi : [i0, i1].Nodup) {s : List Ob} (hs : s[i0]? = some (.row own e [.ik .i64, .ik .i64, .ik .i64] rows)) (hs1 : s[i1]? = some (.cells 0 [.int .i64 W, .int .i64 H, .sl i0 0 rows.length none])) {Q : AV → List Ob → Prop}
    (h : ∀ v, v = atN n ([x, y, z].getD c.toNat 0) → Q (.int .i64 v) s) : AC Try.prog 42 [.int .i64 n, .int .i64 k, .int .i64 c, .ptr i1 0 0] s Q := by
  refine AC_rd (args' := [.int .i64 n, .int .i64 k, .int .i64 c, .ptr 1 0 0]) (L := [.row own e [.ik .i64, .ik .i64, .ik .i64] rows, .cells 0 [.int .i64 W, .int .i64 H, .sl 0 0 rows.length none]]) [i0, i1] hi rfl (by rintro (_ | _ | i') j ob h1 h2 <;> simp at h1 h2 <;> subst h1 h2 <;> assumption) ?_
  simp only [bytesB, byteB, List.all_cons, List.all_nil, Bool.and_true, Bool.and_eq_true, decide_eq_true_eq] at hb
  refine AC_body tok 4 Try.func42 rfl (by kernel_rfl) ?_
  conv => whnf
  rcases hc with rfl | rfl | rfl
  all_goals
    conv => whnf
    refine ixI hk.1 hk.2 ?_
    conv => whnf
    refine rowI hk.1 hk.2 ?_
    conv => whnf
    rw [Nat.zero_add, hr]
    first | rw [show ([x, y, z] : List Int).tail.tail.headD 0 = z from rfl] | rw [show ([x, y, z] : List Int).tail.headD 0 = y from rfl] | rw [show ([x, y, z] : List Int).headD 0 = x from rfl]
    refine ditAt2 hn (by omega) (fun v hv => ?_)
    conv => whnf
    exact ⟨rfl, rfl, h _ hv⟩
theorem ditPlain {W H n : Int} {rows : List (List Int)} {e : TypeId} {own : Bool} (hl : rows.length ≤ 1000000) (hfit : Fit3 rows) (hn : 2 ≤ n ∧ n ≤ 16) (hp : picB W H rows = true) {i : Nat} {s : List Ob} (hs : s[i]? = some (.row own e [.ik .i64, .ik .i64, .ik .i64] rows)) {Q : AV → List Ob → Prop}
    (h : Q (.agg [.int .i64 W, .int .i64 H, .sl s.length 0 rows.length none]) (s ++ [.row true 38 [.ik .i64, .ik .i64, .ik .i64] (plainR n rows)])) : AC Try.prog 16 [.agg [.int .i64 W, .int .i64 H, .sl i 0 rows.length none], .int .i64 n] s Q := by
  refine AC_mk1 (args' := [.agg [.int .i64 W, .int .i64 H, .sl 0 0 rows.length none], .int .i64 n]) (L := [.row own e [.ik .i64, .ik .i64, .ik .i64] rows]) [i] (by simp) rfl rfl (by rintro (_ | i') j ob h1 h2 <;> simp at h1 h2; subst h1 h2; exact hs) (.agg [.int .i64 W, .int .i64 H, .sl 1 0 rows.length none]) 5 (by simp) ?_
  refine AC_body tok 4 Try.func16 rfl (by kernel_rfl) ?_
  conv => whnf
  refine AC_body tok 0 Try.func41 rfl (by kernel_rfl) ?_
  conv => whnf
  refine ditGiven (fun v hv => ?_)
  conv => whnf
  obtain rfl : v = true := by rw [hv]; exact decide_eq_true hn
  conv => whnf
  refine picRight (by omega) hfit (by rfl) (fun v hv => ?_)
  conv => whnf
  rw [hp] at hv
  subst hv
  conv => whnf
  try (refine AW_draw tok hP ?_; conv => whnf)
  refine andI (by simp; omega) ?_
  conv => whnf
  refine ⟨⟨by kernel_rfl⟩, ?_⟩
  conv => whnf
  have pl : (plainR n rows).length = rows.length := by unfold plainR; simp
  have e0 : fillU (plainR n rows) (0 : Int).toNat = List.replicate ((rows.length : Nat) : Int).toNat [0, 0, 0] := by rw [show (0 : Int).toNat = 0 from rfl, PR.fill_zero, pl]; rfl
  refine ALs.lp (ι := Int) tok 4 [33] (fun k => [.int .i64 k]) [5] (fun k => [.row true 38 [.ik .i64, .ik .i64, .ik .i64] (fillU (plainR n rows) k.toNat)]) (fun _ => ()) (fun k => 0 ≤ k ∧ k ≤ rows.length) (fun k => (rows.length - k).toNat) (0) (⟨by omega, by omega⟩) (by rfl) (by rw [e0]; rfl) rfl (Nat.le_of_ble_eq_true rfl) (fun _ => rfl) ?_
  rintro k ⟨k0, k1⟩
  conv => whnf
  by_cases dk : k < rows.length
  · refine ifT (decide_eq_true dk) ?_
    conv => whnf
    obtain ⟨x, y, z, er, hx, hy, hz⟩ := hfit k.toNat (by omega)
    have hb := PPi.pic_at hp (k := k.toNat) (by omega)
    rw [er] at hb
    have hk : 0 ≤ k ∧ k < rows.length := ⟨k0, dk⟩
    have fl : (fillU (plainR n rows) k.toNat).length = rows.length := by rw [PR.fill_len _ (by omega), pl]
    obtain ⟨v0, e0⟩ : ∃ v, v = atN n x := ⟨_, rfl⟩
    obtain ⟨v1, e1⟩ : ∃ v, v = atN n y := ⟨_, rfl⟩
    obtain ⟨v2, e2⟩ : ∃ v, v = atN n z := ⟨_, rfl⟩
    try (refine AW_draw tok hP ?_; conv => whnf)
    refine AQ_read [0, 1] (r := .int .i64 v0) (fun s' Q hl hC h => ditPlain1 (by omega) hn hk (by decide) er ⟨hx, hy, hz⟩ hb (by decide) ((hC 0 (by decide)).trans rfl) ((hC 1 (by decide)).trans rfl) (fun v hv => by obtain rfl : v = v0 := hv.trans e0.symm; exact h)) ?_
    conv => whnf
    refine ixI k0 (by omega) ?_
    conv => whnf
    refine andP (by repeat rw [List.length_set]
                    rw [fl]; omega) ?_
    conv => whnf
    refine ⟨⟨by kernel_rfl⟩, ?_⟩
    conv => whnf
    try (refine AW_draw tok hP ?_; conv => whnf)
    refine AQ_read [0, 1] (r := .int .i64 v1) (fun s' Q hl hC h => ditPlain1 (by omega) hn hk (by decide) er ⟨hx, hy, hz⟩ hb (by decide) ((hC 0 (by decide)).trans rfl) ((hC 1 (by decide)).trans rfl) (fun v hv => by obtain rfl : v = v1 := hv.trans e1.symm; exact h)) ?_
    conv => whnf
    refine ixI k0 (by omega) ?_
    conv => whnf
    refine andP (by repeat rw [List.length_set]
                    rw [fl]; omega) ?_
    conv => whnf
    refine ⟨⟨by kernel_rfl⟩, ?_⟩
    conv => whnf
    try (refine AW_draw tok hP ?_; conv => whnf)
    refine AQ_read [0, 1] (r := .int .i64 v2) (fun s' Q hl hC h => ditPlain1 (by omega) hn hk (by decide) er ⟨hx, hy, hz⟩ hb (by decide) ((hC 0 (by decide)).trans rfl) ((hC 1 (by decide)).trans rfl) (fun v hv => by obtain rfl : v = v2 := hv.trans e2.symm; exact h)) ?_
    conv => whnf
    refine ixI k0 (by omega) ?_
    conv => whnf
    refine andP (by repeat rw [List.length_set]
                    rw [fl]; omega) ?_
    conv => whnf
    refine ⟨⟨by kernel_rfl⟩, ?_⟩
    conv => whnf
    have et : (plainR n rows).getD k.toNat [] = [v0, v1, v2] := by unfold plainR; rw [PR.map_getD _ _ [] [] (by omega), er, e0, e1, e2]; rfl
    have ek : Z.add .i64 k 1 = k + 1 := Z.wrap_iid (by omega) (by omega)
    refine ⟨k + 1, [.int .i64 (Z.add .i64 k 1)], [.row true _ _ _], _, rfl, rfl, rfl, ?_, ?_, ?_⟩
    · exact (by rw [ek])
    · exact (by rw [Nat.zero_add, PR.fill_set3 (plainR n rows) (k := k.toNat) (by omega) et rfl rfl, show (k + 1).toNat = k.toNat + 1 by omega])
    · exact ⟨by omega, by omega, by omega⟩
  · refine ifF (decide_eq_false dk) ?_
    conv => whnf
    refine AWs.go tok 0 ?_
    conv => whnf
    refine ⟨rfl, rfl, rfl, ?_⟩
    rw [PR.fill_all _ (by omega)]
    exact h
