/- Part of the proof of a law of the seat: its functions, walked. No condition. -/
import Derived.Test.YthhhgdefejogoaaA3RefPic
import Derived.Test.YthhhgdefejogoaaPSpr
import Derived.Test.YthhhgdefejogoaaPRow
import Derived.Test.YthhhgdefejogoaaPCount
import Derived.Test.YthhhgdefejogoaaEngC
namespace Go.AW.A3
open Go Go.AW Go.Proofs
set_option maxRecDepth 100000
set_option maxHeartbeats 4000000
set_option linter.unusedVariables false
theorem same41 {W H : Int} {rows : List (List Int)} {len : Nat} (hlen : len = rows.length) (hl : rows.length ≤ 1000000) (hfit : Fit3 rows) {e e' : TypeId} {own own' : Bool} {i j : Nat} (hij : [i, j].Nodup) {s : List Ob} (hs : s[i]? = some (.row own e [.ik .i64, .ik .i64, .ik .i64] rows)) (hs' : s[j]? = some (.row own' e' [.ik .i64, .ik .i64, .ik .i64] rows)) {Q : AV → List Ob → Prop}
    (h : Q (.bool true) s) : AC Try.prog 14 [.agg [.int .i64 W, .int .i64 H, .sl i 0 len none], .agg [.int .i64 W, .int .i64 H, .sl j 0 len none]] s Q := by
  subst hlen
  refine AC_rd (args' := [.agg [.int .i64 W, .int .i64 H, .sl 0 0 rows.length none], .agg [.int .i64 W, .int .i64 H, .sl 1 0 rows.length none]]) (L := [.row own e [.ik .i64, .ik .i64, .ik .i64] rows, .row own' e' [.ik .i64, .ik .i64, .ik .i64] rows]) [i, j] hij rfl (by rintro (_ | _ | i') j ob h1 h2 <;> simp at h1 h2 <;> subst h1 h2 <;> assumption) ?_
  refine AC_body tok 0 Try.func14 rfl (by kernel_rfl) ?_
  conv => whnf
  rw [show (W != W) = false by simp]
  conv => whnf
  rw [show (H != H) = false by simp]
  conv => whnf
  rw [show ((rows.length : Int) != rows.length) = false by simp]
  conv => whnf
  refine ALs.lp (ι := Int) tok 12 [5] (fun k => [.int .i64 k]) [] (fun k => []) (fun _ => ()) (fun k => 0 ≤ k ∧ k ≤ rows.length) (fun k => (rows.length - k).toNat) (0) (⟨by omega, by omega⟩) (by rfl) (by rfl) rfl (Nat.le_of_ble_eq_true rfl) (fun _ => rfl) ?_
  rintro k ⟨k0, k1⟩
  conv => whnf
  by_cases dk : k < rows.length
  · refine ifT (decide_eq_true dk) ?_
    conv => whnf
    try (refine AW_draw tok hP ?_; conv => whnf)
    refine ixI k0 dk ?_
    conv => whnf
    refine rowI k0 dk ?_
    conv => whnf
    refine ixI k0 dk ?_
    conv => whnf
    refine rowI k0 dk ?_
    conv => whnf
    obtain ⟨x, y, z, er, hx, hy, hz⟩ := hfit (0 + k.toNat) (by omega)
    rw [er]
    refine ⟨⟨by cases own <;> cases own' <;> kernel_rfl⟩, ?_⟩
    conv => whnf
    rw [beq_self_eq_true, beq_self_eq_true, beq_self_eq_true]
    conv => whnf
    have ek : Z.add .i64 k 1 = k + 1 := Z.wrap_iid (by omega) (by omega)
    refine ⟨k + 1, [.int .i64 (Z.add .i64 k 1)], [], _, rfl, rfl, rfl, ?_, ?_, ?_⟩
    · exact (by rw [ek])
    · exact (rfl)
    · exact ⟨by omega, by omega, by omega⟩
  · refine ifF (decide_eq_false dk) ?_
    conv => whnf
    refine AWs.go tok 0 ?_
    conv => whnf
    exact ⟨rfl, rfl, h⟩
theorem ditCount {W H : Int} {rows : List (List Int)} (hp : picB W H rows = true) (hl : rows.length ≤ 1000000) (hfit : Fit3 rows) {e : TypeId} {own : Bool} {i : Nat} {s : List Ob} (hs : s[i]? = some (.row own e [.ik .i64, .ik .i64, .ik .i64] rows)) {Q : AV → List Ob → Prop}
    (h : ∀ v, v = countL rows.flatten → Q (.int .i64 v) s) : AC Try.prog 23 [.agg [.int .i64 W, .int .i64 H, .sl i 0 rows.length none]] s Q := by
  refine AC_rd (args' := [.agg [.int .i64 W, .int .i64 H, .sl 0 0 rows.length none]]) (L := [.row own e [.ik .i64, .ik .i64, .ik .i64] rows]) [i] (by simp) rfl (by rintro (_ | i') j ob h1 h2 <;> simp at h1 h2 <;> subst h1 h2 <;> assumption) ?_
  refine AC_body tok 0 Try.func23 rfl (by kernel_rfl) ?_
  conv => whnf
  refine picRight (by omega) hfit (by rfl) (fun v hv => ?_)
  conv => whnf
  rw [hp] at hv
  subst hv
  conv => whnf
  refine ALs.lp (ι := Int) tok 12 [17] (fun k => [.int .i64 k]) [2] (fun k => [.row true 63 [.ik .i64] (metL (rows.take k.toNat).flatten)]) (fun _ => ()) (fun k => 0 ≤ k ∧ k ≤ rows.length) (fun k => (rows.length - k).toNat) (0) (⟨by omega, by omega⟩) (by rfl) (by rw [show (rows.take (Int.toNat 0)).flatten = [] from rfl, PC.met_nil]; rfl) rfl (Nat.le_of_ble_eq_true rfl) (fun _ => rfl) ?_
  rintro k ⟨k0, k1⟩
  conv => whnf
  by_cases dk : k < rows.length
  · refine ifT (decide_eq_true dk) ?_
    conv => whnf
    refine ixI k0 dk ?_
    conv => whnf
    refine rowI k0 dk ?_
    conv => whnf
    obtain ⟨x, y, z, er, hx, hy, hz⟩ := hfit (0 + k.toNat) (by omega)
    have hb := PPi.pic_at hp (k := 0 + k.toNat) (by omega)
    rw [er] at hb
    simp only [bytesB, byteB, List.all_cons, List.all_nil, Bool.and_true, Bool.and_eq_true, decide_eq_true_eq] at hb
    rw [er]
    first | rw [show ([x, y, z] : List Int).tail.tail.headD 0 = z from rfl] | rw [show ([x, y, z] : List Int).tail.headD 0 = y from rfl] | rw [show ([x, y, z] : List Int).headD 0 = x from rfl]
    refine ixI hb.1.1 (by show x < (256 : Int); omega) ?_
    conv => whnf
    refine andP (by rw [PC.met_len]; show x.toNat < 256; omega) ?_
    conv => whnf
    first | rw [show ([x, y, z] : List Int).tail.tail.headD 0 = z from rfl] | rw [show ([x, y, z] : List Int).tail.headD 0 = y from rfl] | rw [show ([x, y, z] : List Int).headD 0 = x from rfl]
    refine ixI hb.2.1.1 (by show y < (256 : Int); omega) ?_
    conv => whnf
    refine andP (by rw [List.length_set, PC.met_len]; show y.toNat < 256; omega) ?_
    conv => whnf
    first | rw [show ([x, y, z] : List Int).tail.tail.headD 0 = z from rfl] | rw [show ([x, y, z] : List Int).tail.headD 0 = y from rfl] | rw [show ([x, y, z] : List Int).headD 0 = x from rfl]
    refine ixI hb.2.2.1 (by show z < (256 : Int); omega) ?_
    conv => whnf
    refine andP (by rw [List.length_set, List.length_set, PC.met_len]; show z.toNat < 256; omega) ?_
    conv => whnf
    have ek : Z.add .i64 k 1 = k + 1 := Z.wrap_iid (by omega) (by omega)
    have ef : metL (rows.take (k + 1).toNat).flatten = (((metL (rows.take k.toNat).flatten).set x.toNat [1]).set y.toNat [1]).set z.toNat [1] := by
      rw [show (k + 1).toNat = k.toNat + 1 by omega, PC.flat_succ (by omega), PC.met_set _ hb.1, PC.met_set _ hb.2.1, PC.met_set _ hb.2.2, show rows.getD k.toNat [] = [x, y, z] by rw [← er, Nat.zero_add]]
      simp
    refine ⟨k + 1, [.int .i64 (Z.add .i64 k 1)], [.row true _ _ _], _, rfl, rfl, rfl, ?_, ?_, ?_⟩
    · exact (by rw [ek])
    · exact (by rw [ef])
    · exact ⟨by omega, by omega, by omega⟩
  · refine ifF (decide_eq_false dk) ?_
    conv => whnf
    refine AWs.go tok 0 ?_
    conv => whnf
    obtain rfl : k = rows.length := by omega
    rw [show List.take ((rows.length : Nat) : Int).toNat rows = rows by rw [show ((rows.length : Nat) : Int).toNat = rows.length by omega, List.take_length]]
    generalize rows.flatten = F at *
    refine ALs.lp (ι := Int) tok 12 [8, 30] (fun b => [.int .i64 (countK F b.toNat), .int .i64 b]) [] (fun k => []) (fun _ => ()) (fun k => 0 ≤ k ∧ k ≤ 256) (fun k => (256 - k).toNat) (0) (⟨by omega, by omega⟩) (by rfl) (by rfl) rfl (Nat.le_of_ble_eq_true rfl) (fun _ => rfl) ?_
    rintro b ⟨b0, b1⟩
    conv => whnf
    by_cases db : b < 256
    · refine ifT (decide_eq_true db) ?_
      conv => whnf
      refine andI (by rw [PC.met_len]; simp; omega) ?_
      conv => whnf
      have e1 := PC.met_at F (k := b.toNat) (by omega)
      rw [e1]
      have ec := PC.count_succ F b.toNat
      have eb := PC.count_b F b.toNat
      have e2 : Z.add .i64 (countK F b.toNat) (([if ((b.toNat : Nat) : Int) ∈ F then 1 else 0] : List Int).headD 0) = countK F (b.toNat + 1) := by
        rw [ec]; exact Z.wrap_iid (by show _ ≤ countK F b.toNat + (if ((b.toNat : Nat) : Int) ∈ F then 1 else 0); split <;> omega) (by show countK F b.toNat + (if ((b.toNat : Nat) : Int) ∈ F then 1 else 0) < _; split <;> omega)
      have ek : Z.add .i64 b 1 = b + 1 := Z.wrap_iid (by omega) (by omega)
      refine ⟨b + 1, [.int .i64 (Z.add .i64 (countK F b.toNat) (([if ((b.toNat : Nat) : Int) ∈ F then 1 else 0] : List Int).headD 0)), .int .i64 (Z.add .i64 b 1)], [], _, rfl, rfl, rfl, ?_, ?_, ?_⟩
      · exact (by rw [ek, e2, show (b + 1).toNat = b.toNat + 1 by omega])
      · exact (rfl)
      · exact ⟨by omega, by omega, by omega⟩
    · refine ifF (decide_eq_false db) ?_
      conv => whnf
      refine AWs.go tok 0 ?_
      conv => whnf
      obtain rfl : b = 256 := by omega
      exact ⟨rfl, rfl, h _ rfl⟩
