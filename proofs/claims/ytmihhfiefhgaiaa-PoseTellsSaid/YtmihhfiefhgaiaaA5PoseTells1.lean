/- Part of the proof of a law of the seat: its functions, walked. No condition. -/
import Derived.Test.YtmihhfiefhgaiaaA5PoseRef
import Derived.Test.YtmihhfiefhgaiaaPTone
namespace Go.AW.A5
open Go Go.AW Go.Proofs
set_option maxRecDepth 100000
set_option linter.unusedVariables false
/-- a vector, posed -/
def putI (l : List Int) (v : List Int) : List Int := match l, v with
  | [a, b, c, d, e, f, g, i, j, p, q, r], [x, y, z] => if rightI l = true ∧ nearI x y z = true then [(a * x + b * y + c * z) / 16384 + p, (d * x + e * y + f * z) / 16384 + q, (g * x + i * y + j * z) / 16384 + r] else [0, 0, 0]
  | _, _ => []
theorem putI_pos {a b c d e f g i j p q r x y z : Int} (h : rightI [a, b, c, d, e, f, g, i, j, p, q, r] = true ∧ nearI x y z = true) : putI [a, b, c, d, e, f, g, i, j, p, q, r] [x, y, z] = [(a * x + b * y + c * z) / 16384 + p, (d * x + e * y + f * z) / 16384 + q, (g * x + i * y + j * z) / 16384 + r] := by
  show (if _ then _ else _) = _; rw [if_pos h]
theorem putI_neg {a b c d e f g i j p q r x y z : Int} (h : ¬ (rightI [a, b, c, d, e, f, g, i, j, p, q, r] = true ∧ nearI x y z = true)) : putI [a, b, c, d, e, f, g, i, j, p, q, r] [x, y, z] = [0, 0, 0] := by
  show (if _ then _ else _) = _; rw [if_neg h]
theorem put3 {a b c d e f g i j p q r x y z : Int} : ∃ u v w, putI [a, b, c, d, e, f, g, i, j, p, q, r] [x, y, z] = [u, v, w] := by
  by_cases h : rightI [a, b, c, d, e, f, g, i, j, p, q, r] = true ∧ nearI x y z = true
  · rw [putI_pos h]; exact ⟨_, _, _, rfl⟩
  · rw [putI_neg h]; exact ⟨_, _, _, rfl⟩
theorem posePutI {a b c d e f g i j p q r x y z : Int} (ha : I64 a) (hb : I64 b) (hc : I64 c) (hd : I64 d) (he : I64 e) (hf : I64 f) (hg : I64 g) (hi : I64 i) (hj : I64 j) (hp : I64 p) (hq : I64 q) (hr : I64 r) (hx : I64 x) (hy : I64 y) (hz : I64 z) {s : List Ob} {Q : AV → List Ob → Prop} {u v w : Int} (hp0 : putI [a, b, c, d, e, f, g, i, j, p, q, r] [x, y, z] = [u, v, w]) (h : Q (.agg [.int .i64 u, .int .i64 v, .int .i64 w]) s) :
    AC Try.prog 12 [.agg [.int .i64 a, .int .i64 b, .int .i64 c, .int .i64 d, .int .i64 e, .int .i64 f, .int .i64 g, .int .i64 i, .int .i64 j, .int .i64 p, .int .i64 q, .int .i64 r], .agg [.int .i64 x, .int .i64 y, .int .i64 z]] s Q := by
  refine posePut ha hb hc hd he hf hg hi hj hp hq hr hx hy hz (fun u' v' w' h1 h2 => ?_)
  by_cases gg : rightI [a, b, c, d, e, f, g, i, j, p, q, r] = true ∧ nearI x y z = true
  · have ee := hp0; rw [putI_pos gg] at ee
    have g1 : (nearI a b c && (nearI d e f && (nearI g i j && nearI p q r))) = true := gg.1
    obtain ⟨rfl, rfl, rfl⟩ := h1 (by rw [g1, gg.2]; rfl)
    simp only [List.cons.injEq, and_true] at ee
    rw [ee.1, ee.2.1, ee.2.2]
    exact h
  · have ee := hp0; rw [putI_neg gg] at ee
    obtain ⟨rfl, rfl, rfl⟩ := h2 (by
      rw [Bool.eq_false_iff, ne_eq, Bool.and_eq_true]; exact gg)
    simp only [List.cons.injEq, and_true] at ee
    obtain ⟨q1, q2, q3⟩ := ee
    subst q1 q2 q3
    exact h
theorem poseAll {a b c d e f g i j p q r : Int} (ha : I64 a) (hb : I64 b) (hc : I64 c) (hd : I64 d) (he : I64 e) (hf : I64 f) (hg : I64 g) (hi : I64 i) (hj : I64 j) (hp : I64 p) (hq : I64 q) (hr : I64 r) {rows : List (List Int)} {e0 : TypeId} {own : Bool} (hl : rows.length ≤ 1000) (hfit : ∀ (k : Nat), k < rows.length → ∃ x y z : Int, rows.getD k [] = [x, y, z] ∧ I64 x ∧ I64 y ∧ I64 z) {i0 : Nat} {s : List Ob} (hs : s[i0]? = some (.row own e0 [.ik .i64, .ik .i64, .ik .i64] rows)) {Q : AV → List Ob → Prop}
    (h : Q (.sl s.length 0 rows.length none) (s ++ [.row true 23 [.ik .i64, .ik .i64, .ik .i64] (rows.map (putI [a, b, c, d, e, f, g, i, j, p, q, r]))])) : AC Try.prog 23 [.agg [.int .i64 a, .int .i64 b, .int .i64 c, .int .i64 d, .int .i64 e, .int .i64 f, .int .i64 g, .int .i64 i, .int .i64 j, .int .i64 p, .int .i64 q, .int .i64 r], .sl i0 0 rows.length none] s Q := by
  refine AC_mk1 (args' := [.agg [.int .i64 a, .int .i64 b, .int .i64 c, .int .i64 d, .int .i64 e, .int .i64 f, .int .i64 g, .int .i64 i, .int .i64 j, .int .i64 p, .int .i64 q, .int .i64 r], .sl 0 0 rows.length none]) (L := [.row own e0 [.ik .i64, .ik .i64, .ik .i64] rows]) [i0] (by simp) rfl rfl (by rintro (_ | i') j ob h1 h2 <;> simp at h1 h2; subst h1 h2; exact hs) (.sl 1 0 rows.length none) 2 (by simp) ?_
  refine AC_body tok 0 Try.func23 rfl (by kernel_rfl) ?_
  conv => whnf
  refine andI (by simp; omega) ?_
  conv => whnf
  refine ALs.invD (ι := Int) tok 0 [true, true, true, false, false, true, false, false, false, false, false, true, true, true] (fun i => 0 ≤ i ∧ i ≤ rows.length) (fun i => ((rows.length : Int) - i).toNat)
    (fun k => [.agg [.int .i64 a, .int .i64 b, .int .i64 c, .int .i64 d, .int .i64 e, .int .i64 f, .int .i64 g, .int .i64 i, .int .i64 j, .int .i64 p, .int .i64 q, .int .i64 r], .sl 0 0 rows.length none, .ptr 1 0 0, .junk, .junk, .sl 2 0 k.toNat none, .junk, .junk, .junk, .junk, .junk, .sl 0 0 rows.length none, .int .i64 rows.length, .int .i64 k] ++ junks 11)
    (fun k => [.row own e0 [.ik .i64, .ik .i64, .ik .i64] rows, .cells 0 [.int .i64 a, .int .i64 b, .int .i64 c, .int .i64 d, .int .i64 e, .int .i64 f, .int .i64 g, .int .i64 i, .int .i64 j, .int .i64 p, .int .i64 q, .int .i64 r], .row true 23 [.ik .i64, .ik .i64, .ik .i64] ((rows.take k.toNat).map (putI [a, b, c, d, e, f, g, i, j, p, q, r]))]) (fun _ => ()) 0 ⟨by omega, by omega⟩ (by rfl) ⟨[], rfl⟩ rfl (fun _ => Nat.le_add_left 1 2) (fun _ => rfl) ?_
  rintro k ⟨k1, k2⟩
  conv => whnf
  by_cases dk : k < rows.length
  · rw [decide_eq_true dk]
    conv => whnf
    obtain ⟨x, y, z, ek, hx, hy, hz⟩ := hfit (0 + k.toNat) (by omega)
    obtain ⟨u, v, w, eu⟩ := @put3 a b c d e f g i j p q r x y z
    refine ixI k1 dk ?_
    conv => whnf
    refine andP (by omega) ?_
    conv => whnf
    refine posePutI ha hb hc hd he hf hg hi hj hp hq hr (by rw [ek]; exact hx) (by rw [ek]; exact hy) (by rw [ek]; exact hz) (by rw [ek]; exact eu) ?_
    conv => whnf
    refine andI (by simp; omega) ?_
    conv => whnf
    have e1 : Z.add .i64 k 1 = k + 1 := Z.wrap_iid (by omega) (by omega)
    have e2 : (Z.add .i64 k 1).toNat = k.toNat + 1 := by rw [e1]; omega
    refine ⟨Z.add .i64 k 1, [_, _, _], ?_, row3_eq ?_, rfl, ?_, ?_⟩
    · show _ = [.agg [.int .i64 a, .int .i64 b, .int .i64 c, .int .i64 d, .int .i64 e, .int .i64 f, .int .i64 g, .int .i64 i, .int .i64 j, .int .i64 p, .int .i64 q, .int .i64 r], .sl 0 0 rows.length none, .ptr 1 0 0, .junk, .junk, .sl 2 0 (Z.add .i64 k 1).toNat none, .junk, .junk, .junk, .junk, .junk, .sl 0 0 rows.length none, .int .i64 rows.length, .int .i64 (Z.add .i64 k 1)] ++ junks 11
      rw [e2]; rfl
    · have := mapPre_step (putI [a, b, c, d, e, f, g, i, j, p, q, r]) rows k1 dk
      unfold mapPre at this
      rw [e1, this, ← show 0 + k.toNat = k.toNat by omega, ek, eu]; rfl
    · show (rows.length - Z.add .i64 k 1).toNat < (rows.length - k).toNat; rw [e1]; omega
    · rw [e1]; omega
  · rw [decide_eq_false dk]
    conv => whnf
    refine AWs.go tok 0 ?_
    conv => whnf
    have e : k.toNat = rows.length := by omega
    rw [e, List.take_of_length_le (Nat.le_refl _)]
    exact ⟨rfl, rfl, rfl, h⟩
theorem poseAll_n {a b c d e f g i j p q r : Int} (ha : I64 a) (hb : I64 b) (hc : I64 c) (hd : I64 d) (he : I64 e) (hf : I64 f) (hg : I64 g) (hi : I64 i) (hj : I64 j) (hp : I64 p) (hq : I64 q) (hr : I64 r) {v : AV} (hv : v = .nils ∨ v = .sl0) {s : List Ob} {Q : AV → List Ob → Prop}
    (h : Q (.sl s.length 0 0 none) (s ++ [.row true 23 [.ik .i64, .ik .i64, .ik .i64] []])) : AC Try.prog 23 [.agg [.int .i64 a, .int .i64 b, .int .i64 c, .int .i64 d, .int .i64 e, .int .i64 f, .int .i64 g, .int .i64 i, .int .i64 j, .int .i64 p, .int .i64 q, .int .i64 r], v] s Q := by
  rcases hv with rfl | rfl
  · refine AC_mk1 (args' := [.agg [.int .i64 a, .int .i64 b, .int .i64 c, .int .i64 d, .int .i64 e, .int .i64 f, .int .i64 g, .int .i64 i, .int .i64 j, .int .i64 p, .int .i64 q, .int .i64 r], .nils]) (L := []) [] (by simp) rfl rfl (by rintro (_ | i') j ob h1 h2 <;> simp at h1 h2) (.sl 0 0 0 none) 1 (by simp) ?_
    refine AC_body tok 3 Try.func23 rfl (by kernel_rfl) ?_
    conv => whnf
    exact ⟨rfl, rfl, rfl, h⟩
  · refine AC_mk1 (args' := [.agg [.int .i64 a, .int .i64 b, .int .i64 c, .int .i64 d, .int .i64 e, .int .i64 f, .int .i64 g, .int .i64 i, .int .i64 j, .int .i64 p, .int .i64 q, .int .i64 r], .sl0]) (L := []) [] (by simp) rfl rfl (by rintro (_ | i') j ob h1 h2 <;> simp at h1 h2) (.sl 0 0 0 none) 1 (by simp) ?_
    refine AC_body tok 3 Try.func23 rfl (by kernel_rfl) ?_
    conv => whnf
    exact ⟨rfl, rfl, rfl, h⟩
theorem lawOf8 {a b c d e f g i j p q r : Int} {s : List Ob} {Q : AV → List Ob → Prop} (h : Q (.agg [.int .i64 a, .int .i64 b, .int .i64 c, .int .i64 d, .int .i64 e, .int .i64 f, .int .i64 g, .int .i64 i, .int .i64 j, .int .i64 p, .int .i64 q, .int .i64 r]) s) : AC Try.prog 17 [.agg [.int .i64 a, .int .i64 b, .int .i64 c, .int .i64 d, .int .i64 e, .int .i64 f, .int .i64 g, .int .i64 i, .int .i64 j, .int .i64 p, .int .i64 q, .int .i64 r]] s Q := by
  refine AC_pure rfl ?_
  refine AC_body tok 3 Try.func17 rfl (by kernel_rfl) ?_
  conv => whnf
  exact ⟨rfl, h⟩
theorem turn12 (axis c t : Int) : ∃ m0 m1 m2 m3 m4 m5 m6 m7 m8 m9 m10 m11 : Int, turnA axis c t = .agg [.int .i64 m0, .int .i64 m1, .int .i64 m2, .int .i64 m3, .int .i64 m4, .int .i64 m5, .int .i64 m6, .int .i64 m7, .int .i64 m8, .int .i64 m9, .int .i64 m10, .int .i64 m11] := by
  unfold turnA
  split
  · exact ⟨_, _, _, _, _, _, _, _, _, _, _, _, rfl⟩
  · split
    · exact ⟨_, _, _, _, _, _, _, _, _, _, _, _, rfl⟩
    · split <;> exact ⟨_, _, _, _, _, _, _, _, _, _, _, _, rfl⟩
theorem then12 {a b c d e f g i j p q r a' b' c' d' e' f' g' i' j' p' q' r' : Int} (ha : I64 a) (hb : I64 b) (hc : I64 c) (hd : I64 d) (he : I64 e) (hf : I64 f) (hg : I64 g) (hi : I64 i) (hj : I64 j) (hp : I64 p) (hq : I64 q) (hr : I64 r) (ha' : I64 a') (hb' : I64 b') (hc' : I64 c') (hd' : I64 d') (he' : I64 e') (hf' : I64 f') (hg' : I64 g') (hi' : I64 i') (hj' : I64 j') (hp' : I64 p') (hq' : I64 q') (hr' : I64 r') : ∃ m0 m1 m2 m3 m4 m5 m6 m7 m8 m9 m10 m11 : Int, (∀ (s : List Ob) (Q : AV → List Ob → Prop), Q (.agg [.int .i64 m0, .int .i64 m1, .int .i64 m2, .int .i64 m3, .int .i64 m4, .int .i64 m5, .int .i64 m6, .int .i64 m7, .int .i64 m8, .int .i64 m9, .int .i64 m10, .int .i64 m11]) s → AC Try.prog 9 [.agg [.int .i64 a, .int .i64 b, .int .i64 c, .int .i64 d, .int .i64 e, .int .i64 f, .int .i64 g, .int .i64 i, .int .i64 j, .int .i64 p, .int .i64 q, .int .i64 r], .agg [.int .i64 a', .int .i64 b', .int .i64 c', .int .i64 d', .int .i64 e', .int .i64 f', .int .i64 g', .int .i64 i', .int .i64 j', .int .i64 p', .int .i64 q', .int .i64 r']] s Q) ∧ (∀ (s : List Ob) (Q : AV → List Ob → Prop), Q (.agg [.int .i64 m0, .int .i64 m1, .int .i64 m2, .int .i64 m3, .int .i64 m4, .int .i64 m5, .int .i64 m6, .int .i64 m7, .int .i64 m8, .int .i64 m9, .int .i64 m10, .int .i64 m11]) s → AC Try.prog 22 [.agg [.int .i64 a, .int .i64 b, .int .i64 c, .int .i64 d, .int .i64 e, .int .i64 f, .int .i64 g, .int .i64 i, .int .i64 j, .int .i64 p, .int .i64 q, .int .i64 r], .agg [.int .i64 a', .int .i64 b', .int .i64 c', .int .i64 d', .int .i64 e', .int .i64 f', .int .i64 g', .int .i64 i', .int .i64 j', .int .i64 p', .int .i64 q', .int .i64 r']] s Q) := by
  by_cases g0 : ((nearI a b c && (nearI d e f && (nearI g i j && nearI p q r))) && (nearI a' b' c' && (nearI d' e' f' && (nearI g' i' j' && nearI p' q' r')))) = true
  · refine ⟨(a' * a + b' * d + c' * g) / 16384, (a' * b + b' * e + c' * i) / 16384, (a' * c + b' * f + c' * j) / 16384, (d' * a + e' * d + f' * g) / 16384, (d' * b + e' * e + f' * i) / 16384, (d' * c + e' * f + f' * j) / 16384, (g' * a + i' * d + j' * g) / 16384, (g' * b + i' * e + j' * i) / 16384, (g' * c + i' * f + j' * j) / 16384, (a' * p + b' * q + c' * r) / 16384 + p', (d' * p + e' * q + f' * r) / 16384 + q', (g' * p + i' * q + j' * r) / 16384 + r', fun s Q h => ?_, fun s Q h => ?_⟩
    · refine poseThen ha hb hc hd he hf hg hi hj hp hq hr ha' hb' hc' hd' he' hf' hg' hi' hj' hp' hq' hr' (fun k => by rw [g0] at k; cases k) (fun _ => ?_)
      intro x0 x1 x2 x3 x4 x5 x6 x7 x8 x9 x10 x11 y0 y1 y2 y3 y4 y5 y6 y7 y8 y9 y10 y11
      rw [y0, y1, y2, y3, y4, y5, y6, y7, y8, y9, y10, y11]
      exact h
    · refine refPThen (fun k => by rw [g0] at k; cases k) (fun _ => ?_)
      intro x0 x1 x2 x3 x4 x5 x6 x7 x8 x9 x10 x11 y0 y1 y2 y3 y4 y5 y6 y7 y8 y9 y10 y11
      rw [y0, y1, y2, y3, y4, y5, y6, y7, y8, y9, y10, y11]
      exact h
  · refine ⟨0, 0, 0, 0, 0, 0, 0, 0, 0, 0, 0, 0, fun s Q h => ?_, fun s Q h => ?_⟩
    · exact poseThen ha hb hc hd he hf hg hi hj hp hq hr ha' hb' hc' hd' he' hf' hg' hi' hj' hp' hq' hr' (fun _ => h) (fun k => absurd k g0)
    · exact refPThen (fun _ => h) (fun k => absurd k g0)
theorem moved3 {x y z : Int} (hx : I64 x) (hy : I64 y) (hz : I64 z) : ∃ u v w : Int, (∀ (s : List Ob) (Q : AV → List Ob → Prop), Q (.agg [.int .i64 16384, .int .i64 0, .int .i64 0, .int .i64 0, .int .i64 16384, .int .i64 0, .int .i64 0, .int .i64 0, .int .i64 16384, .int .i64 u, .int .i64 v, .int .i64 w]) s → AC Try.prog 15 [.agg [.int .i64 x, .int .i64 y, .int .i64 z]] s Q) ∧ (∀ (s : List Ob) (Q : AV → List Ob → Prop), Q (.agg [.int .i64 16384, .int .i64 0, .int .i64 0, .int .i64 0, .int .i64 16384, .int .i64 0, .int .i64 0, .int .i64 0, .int .i64 16384, .int .i64 u, .int .i64 v, .int .i64 w]) s → AC Try.prog 25 [.agg [.int .i64 x, .int .i64 y, .int .i64 z]] s Q) := by
  by_cases g : nearI x y z = true
  · refine ⟨x, y, z, fun s Q h => poseMoved hx hy hz (fun u v w h1 _ => ?_), fun s Q h => refPMoved (fun u v w h1 _ => ?_)⟩
    all_goals
      obtain ⟨rfl, rfl, rfl⟩ := h1 g
      exact h
  · have g : nearI x y z = false := by simpa using g
    refine ⟨0, 0, 0, fun s Q h => poseMoved hx hy hz (fun u v w _ h1 => ?_), fun s Q h => refPMoved (fun u v w _ h1 => ?_)⟩
    all_goals
      obtain ⟨rfl, rfl, rfl⟩ := h1 g
      exact h
theorem refPPutI {a b c d e f g i j p q r x y z : Int} {s : List Ob} {Q : AV → List Ob → Prop} {u v w : Int} (hp0 : putI [a, b, c, d, e, f, g, i, j, p, q, r] [x, y, z] = [u, v, w]) (h : Q (.agg [.int .i64 u, .int .i64 v, .int .i64 w]) s) :
    AC Try.prog 24 [.agg [.int .i64 a, .int .i64 b, .int .i64 c, .int .i64 d, .int .i64 e, .int .i64 f, .int .i64 g, .int .i64 i, .int .i64 j, .int .i64 p, .int .i64 q, .int .i64 r], .agg [.int .i64 x, .int .i64 y, .int .i64 z]] s Q := by
  refine refPPut (fun u' v' w' k h1 h2 h3 => ?_) (fun k => ?_)
  · rw [Bool.and_eq_true] at k
    rw [putI_pos k] at hp0
    simp only [List.cons.injEq, and_true] at hp0
    rw [h1, h2, h3, hp0.1, hp0.2.1, hp0.2.2]; exact h
  · rw [putI_neg (fun k2 => by rw [Bool.eq_false_iff, ne_eq, Bool.and_eq_true] at k; exact k k2)] at hp0
    simp only [List.cons.injEq, and_true] at hp0
    rw [← hp0.1, ← hp0.2.1, ← hp0.2.2] at h; exact h
