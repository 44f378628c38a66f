/- Plain laws of rounding: how long directions are, and what they have alike. -/
import Derived.Test.YtgajnkfaelecaaaPSpread
import Derived.Test.YtgajnkfaelecaaaPTrigLaw
namespace Go.AW
open Go
set_option linter.unusedVariables false
/-- a direction -/
structure Dir (a b c : Int) : Prop where
  s : absI a + absI b + absI c ≤ 28377
  lo : 268378699 ≤ a * a + b * b + c * c
  hi : a * a + b * b + c * c ≤ 268436480
namespace PQ
theorem uni_spec {n l : Int} (hl : 1 ≤ l) : ∃ A R, 0 ≤ A ∧ 0 ≤ R ∧ R < l ∧ ((n * 16384 = A * l + R ∧ uni1 n l = A) ∨ (n * 16384 = -(A * l + R) ∧ uni1 n l = -A)) := by
  have key : ∀ m : Int, 0 ≤ m → 0 ≤ m / l ∧ 0 ≤ m % l ∧ m % l < l ∧ m = m / l * l + m % l := fun m hm =>
    ⟨Int.ediv_nonneg hm (by omega), Int.emod_nonneg _ (by omega), Int.emod_lt_of_pos _ (by omega), by have := Int.mul_ediv_add_emod m l; rw [Int.mul_comm] at this; omega⟩
  rcases Int.le_total 0 n with g | g
  · obtain ⟨h1, h2, h3, h4⟩ := key (n * 16384) (by omega)
    exact ⟨_, _, h1, h2, h3, .inl ⟨h4, by unfold uni1; exact Int.tdiv_eq_ediv_of_nonneg (by omega)⟩⟩
  · obtain ⟨h1, h2, h3, h4⟩ := key (-n * 16384) (by omega)
    refine ⟨_, _, h1, h2, h3, .inr ⟨by omega, ?_⟩⟩
    unfold uni1
    rw [← Int.tdiv_eq_ediv_of_nonneg (by omega), show n * 16384 = -(-n * 16384) by omega, Int.neg_tdiv]
theorem uni_sq {n l : Int} (hl : 1 ≤ l) : ∃ A, 0 ≤ A ∧ absI (uni1 n l) = A ∧ uni1 n l * uni1 n l = A * A ∧ A * A * (l * l) ≤ 268435456 * (n * n) ∧ 268435456 * (n * n) ≤ (A * A + 2 * A + 1) * (l * l) := by
  obtain ⟨A, R, hA, hR, hRl, h⟩ := uni_spec (n := n) hl
  have e : 268435456 * (n * n) = (A * l + R) * (A * l + R) := by
    rcases h with ⟨h, _⟩ | ⟨h, _⟩
    · rw [← h]; grind
    · have : 268435456 * (n * n) = (n * 16384) * (n * 16384) := by grind
      rw [this, h]; grind
  have e1 : (A * l + R) * (A * l + R) = A * A * (l * l) + 2 * (A * l * R) + R * R := by grind
  have p1 := Int.mul_nonneg (Int.mul_nonneg hA (show 0 ≤ l by omega)) hR
  have p2 := Int.mul_nonneg hR hR
  have p3 : A * l * R ≤ A * l * l := Int.mul_le_mul_of_nonneg_left (by omega) (Int.mul_nonneg hA (by omega))
  have p4 : R * R ≤ l * l := Int.mul_le_mul (by omega) (by omega) hR (by omega)
  have e2 : (A * A + 2 * A + 1) * (l * l) = A * A * (l * l) + 2 * (A * l * l) + l * l := by grind
  refine ⟨A, hA, ?_, ?_, by omega, by omega⟩
  · rcases h with ⟨_, h⟩ | ⟨_, h⟩ <;> rw [h] <;> unfold absI <;> split <;> omega
  · rcases h with ⟨_, h⟩ | ⟨_, h⟩ <;> rw [h]
    exact Int.neg_mul_neg A A
theorem sq3 (A B C : Int) : (A + B + C) * (A + B + C) ≤ 3 * (A * A + B * B + C * C) := by
  have e : 3 * (A * A + B * B + C * C) = (A + B + C) * (A + B + C) + ((A - B) * (A - B) + (B - C) * (B - C) + (A - C) * (A - C)) := by grind
  have := PU.sq_nonneg (A - B); have := PU.sq_nonneg (B - C); have := PU.sq_nonneg (A - C)
  omega
/-- a vector of the length l, made as long as a direction -/
theorem uni_dir {p q b l : Int} (hl : 524288 ≤ l) (h : PN.Root (p * p + q * q + b * b) l) : Dir (uni1 p l) (uni1 q l) (uni1 b l) := by
  obtain ⟨A, hA, a1, a2, a3, a4⟩ := uni_sq (n := p) (l := l) (by omega)
  obtain ⟨B, hB, b1, b2, b3, b4⟩ := uni_sq (n := q) (l := l) (by omega)
  obtain ⟨C, hC, c1, c2, c3, c4⟩ := uni_sq (n := b) (l := l) (by omega)
  have lo := h.le; have up := h.lt
  have eu : (l + 1) * (l + 1) = l * l + 2 * l + 1 := by grind
  have ll : 524288 * l ≤ l * l := Int.mul_le_mul_of_nonneg_right hl (by omega)
  have es : (A * A + B * B + C * C) * (l * l) = A * A * (l * l) + B * B * (l * l) + C * C * (l * l) := by grind
  have hi : A * A + B * B + C * C ≤ 268436480 := by
    rcases Int.lt_or_le 268436480 (A * A + B * B + C * C) with g | g
    · have := Int.mul_le_mul_of_nonneg_right (show 268436481 ≤ A * A + B * B + C * C from g) (show 0 ≤ l * l by omega)
      omega
    · exact g
  have T : A + B + C ≤ 28377 := by
    rcases Int.lt_or_le 28377 (A + B + C) with g | g
    · have := PN.sq_le (show (0 : Int) ≤ 28378 by omega) (show 28378 ≤ A + B + C from g)
      have := sq3 A B C
      omega
    · exact g
  have et : (A * A + B * B + C * C + 2 * (A + B + C) + 3) * (l * l) = (A * A + 2 * A + 1) * (l * l) + (B * B + 2 * B + 1) * (l * l) + (C * C + 2 * C + 1) * (l * l) := by grind
  have low : 268435456 ≤ A * A + B * B + C * C + 2 * (A + B + C) + 3 := by
    rcases Int.lt_or_le (A * A + B * B + C * C + 2 * (A + B + C) + 3) 268435456 with g | g
    · have := Int.mul_le_mul_of_nonneg_right (show A * A + B * B + C * C + 2 * (A + B + C) + 3 ≤ 268435455 by omega) (show 0 ≤ l * l by omega)
      omega
    · exact g
  refine ⟨by rw [a1, b1, c1]; exact T, by rw [a2, b2, c2]; omega, by rw [a2, b2, c2]; exact hi⟩
theorem unit_dir {x y z a b c : Int} (hx : I64 x) (hy : I64 y) (hz : I64 z) (ok : okI x y z = true) (h : (a, b, c) = unitI x y z) : Dir a b c := by
  obtain ⟨_, m1, m2⟩ := PU.ok_A hx hy hz ok
  obtain ⟨e1, e2⟩ := PU.even_spec m1 m2
  obtain ⟨l1, _⟩ := PU.len_lo e1 e2
  have r := PU.len_spec (x := (evenI x y z).1) (y := (evenI x y z).2.1) (z := (evenI x y z).2.2)
  rw [PU.dot_A (PU.near_A e2)] at r
  have d := uni_dir l1 r
  unfold unitI at h
  rw [if_pos ok] at h
  unfold uniE at h
  simp only [Prod.mk.injEq] at h
  obtain ⟨rfl, rfl, rfl⟩ := h
  exact d
theorem dir_near {a b c : Int} (d : Dir a b c) : nearI a b c = true := by
  have := d.s
  rw [PV.near_iff]
  have q : ∀ t : Int, 0 ≤ absI t ∧ -absI t ≤ t ∧ t ≤ absI t := fun t => by unfold absI; split <;> omega
  have := q a; have := q b; have := q c
  omega
theorem dir_len {a b c : Int} (d : Dir a b c) : 16382 ≤ lenI a b c ∧ lenI a b c ≤ 16384 := by
  have r := PU.len_spec (x := a) (y := b) (z := c)
  rw [PU.dot_A (dir_near d)] at r
  have p := r.pos
  have lo := d.lo; have hi := d.hi
  constructor
  · rcases Int.lt_or_le (lenI a b c) 16382 with g | g
    · have := PN.sq_le (show 0 ≤ lenI a b c + 1 by omega) (show lenI a b c + 1 ≤ 16382 from g)
      have := r.lt; omega
    · exact g
  · rcases Int.lt_or_le 16384 (lenI a b c) with g | g
    · have := PN.sq_le (show (0 : Int) ≤ 16385 by omega) (show 16385 ≤ lenI a b c from g)
      have := r.le; omega
    · exact g
theorem mul_abs {r n l : Int} (h : -l ≤ r ∧ r ≤ l) : -(absI n * l) ≤ r * n ∧ r * n ≤ absI n * l := by
  have h1 : -absI n ≤ n ∧ n ≤ absI n := by unfold absI; split <;> omega
  have := PV.mul_le h h1
  rw [Int.mul_comm l] at this; exact this
/-- what three small ones and a direction have alike -/
theorem rest_le {r1 r2 r3 n1 n2 n3 l T : Int} (hl : 0 ≤ l) (hs : absI n1 + absI n2 + absI n3 ≤ T) (h1 : -l ≤ r1 ∧ r1 ≤ l) (h2 : -l ≤ r2 ∧ r2 ≤ l) (h3 : -l ≤ r3 ∧ r3 ≤ l) : -(T * l) ≤ r1 * n1 + r2 * n2 + r3 * n3 ∧ r1 * n1 + r2 * n2 + r3 * n3 ≤ T * l := by
  have a := mul_abs (n := n1) h1; have b := mul_abs (n := n2) h2; have c := mul_abs (n := n3) h3
  have e : (absI n1 + absI n2 + absI n3) * l = absI n1 * l + absI n2 * l + absI n3 * l := by grind
  have := Int.mul_le_mul_of_nonneg_right hs hl
  omega
theorem dbl_dot {n1 n2 n3 : Int} : ∀ (k : Nat) (x y z : Int), x * n1 + y * n2 + z * n3 = 0 → (dblI k x y z).1 * n1 + (dblI k x y z).2.1 * n2 + (dblI k x y z).2.2 * n3 = 0
  | 0, x, y, z, h => h
  | k + 1, x, y, z, h => by
    unfold dblI
    split
    · exact dbl_dot k _ _ _ (by have : 2 * x * n1 + 2 * y * n2 + 2 * z * n3 = 2 * (x * n1 + y * n2 + z * n3) := by grind
                                omega)
    · exact h
theorem half_spec (x : Int) : ∃ r, x = 2 * x.tdiv 2 + r ∧ -1 ≤ r ∧ r ≤ 1 := by
  refine ⟨x.tmod 2, by have := Int.mul_tdiv_add_tmod x 2; omega, ?_⟩
  rcases Int.le_total 0 x with g | g
  · rw [Int.tmod_eq_emod_of_nonneg g]; omega
  · have : x.tmod 2 = -((-x) % 2) := by rw [← Int.tmod_eq_emod_of_nonneg (by omega), Int.neg_tmod]; omega
    omega
theorem hlv_dot {n1 n2 n3 T : Int} (hs : absI n1 + absI n2 + absI n3 ≤ T) : ∀ (k : Nat) (x y z : Int), -T ≤ x * n1 + y * n2 + z * n3 ∧ x * n1 + y * n2 + z * n3 ≤ T → -T ≤ (hlvI k x y z).1 * n1 + (hlvI k x y z).2.1 * n2 + (hlvI k x y z).2.2 * n3 ∧ (hlvI k x y z).1 * n1 + (hlvI k x y z).2.1 * n2 + (hlvI k x y z).2.2 * n3 ≤ T
  | 0, x, y, z, h => h
  | k + 1, x, y, z, h => by
    unfold hlvI
    split
    · exact h
    · refine hlv_dot hs k _ _ _ ?_
      obtain ⟨r1, e1, h1⟩ := half_spec x
      obtain ⟨r2, e2, h2⟩ := half_spec y
      obtain ⟨r3, e3, h3⟩ := half_spec z
      generalize x.tdiv 2 = x' at *
      generalize y.tdiv 2 = y' at *
      generalize z.tdiv 2 = z' at *
      have rl := rest_le (show (0 : Int) ≤ 1 by omega) hs h1 h2 h3
      have e : x * n1 + y * n2 + z * n3 = 2 * (x' * n1 + y' * n2 + z' * n3) + (r1 * n1 + r2 * n2 + r3 * n3) := by rw [e1, e2, e3]; grind
      omega
theorem uni_dot {p q b l n1 n2 n3 K : Int} (hl : 524288 ≤ l) (hs : absI n1 + absI n2 + absI n3 ≤ 28377) (h : -K ≤ p * n1 + q * n2 + b * n3 ∧ p * n1 + q * n2 + b * n3 ≤ K) (hK : K ≤ 28377) : -29264 ≤ uni1 p l * n1 + uni1 q l * n2 + uni1 b l * n3 ∧ uni1 p l * n1 + uni1 q l * n2 + uni1 b l * n3 ≤ 29264 := by
  have key : ∀ n, ∃ r, n * 16384 = uni1 n l * l + r ∧ (-l ≤ r ∧ r ≤ l) := fun n => by
    obtain ⟨A, R, hA, hR, hRl, h | h⟩ := uni_spec (n := n) (l := l) (by omega)
    · exact ⟨R, by rw [h.2]; exact h.1, by omega⟩
    · exact ⟨-R, by rw [h.2, h.1]; grind, by omega⟩
  obtain ⟨r1, e1, h1⟩ := key p
  obtain ⟨r2, e2, h2⟩ := key q
  obtain ⟨r3, e3, h3⟩ := key b
  generalize uni1 p l = a at *
  generalize uni1 q l = b' at *
  generalize uni1 b l = c at *
  have rl := rest_le (show 0 ≤ l by omega) hs h1 h2 h3
  have e : 16384 * (p * n1 + q * n2 + b * n3) = (a * n1 + b' * n2 + c * n3) * l + (r1 * n1 + r2 * n2 + r3 * n3) := by
    have : 16384 * (p * n1 + q * n2 + b * n3) = (p * 16384) * n1 + (q * 16384) * n2 + (b * 16384) * n3 := by grind
    rw [this, e1, e2, e3]; grind
  generalize a * n1 + b' * n2 + c * n3 = D at *
  constructor
  · rcases Int.lt_or_le D (-29264) with g | g
    · have := Int.mul_le_mul_of_nonneg_right (show D ≤ -29265 by omega) (show 0 ≤ l by omega)
      omega
    · exact g
  · rcases Int.lt_or_le 29264 D with g | g
    · have := Int.mul_le_mul_of_nonneg_right (show 29265 ≤ D by omega) (show 0 ≤ l by omega)
      omega
    · exact g
/-- what a vector's direction, and a direction that stands upon the vector, have alike -/
theorem unit_dot {x y z a b c n1 n2 n3 : Int} (hx : I64 x) (hy : I64 y) (hz : I64 z) (ok : okI x y z = true) (h : (a, b, c) = unitI x y z) (d : Dir n1 n2 n3) (h0 : x * n1 + y * n2 + z * n3 = 0) : -29264 ≤ a * n1 + b * n2 + c * n3 ∧ a * n1 + b * n2 + c * n3 ≤ 29264 := by
  obtain ⟨_, m1, m2⟩ := PU.ok_A hx hy hz ok
  obtain ⟨e1, e2⟩ := PU.even_spec m1 m2
  obtain ⟨l1, _⟩ := PU.len_lo e1 e2
  have hd := dbl_dot 20 x y z h0
  have he := hlv_dot d.s 64 (dblI 20 x y z).1 (dblI 20 x y z).2.1 (dblI 20 x y z).2.2 (by rw [hd]; omega)
  unfold unitI at h
  rw [if_pos ok] at h
  unfold uniE at h
  simp only [Prod.mk.injEq] at h
  obtain ⟨rfl, rfl, rfl⟩ := h
  exact uni_dot l1 d.s he (Int.le_refl _)
theorem ok_of {x y z : Int} (h : mostA x y z ≤ 4611686018427387904) (h0 : ¬ (x = 0 ∧ y = 0 ∧ z = 0)) : okI x y z = true := by
  have e := PU.most_I (show mostA x y z ≤ 9223372036854775806 by omega)
  unfold okI
  rw [decide_eq_true_iff, e]
  refine ⟨?_, h⟩
  unfold mostA; omega
structure Bas (u1 u2 u3 v1 v2 v3 n1 n2 n3 : Int) : Prop where
  u : Dir u1 u2 u3
  v : Dir v1 v2 v3
  n : Dir n1 n2 n3
  uv : -29264 ≤ u1 * v1 + u2 * v2 + u3 * v3 ∧ u1 * v1 + u2 * v2 + u3 * v3 ≤ 29264
  un : -29264 ≤ u1 * n1 + u2 * n2 + u3 * n3 ∧ u1 * n1 + u2 * n2 + u3 * n3 ≤ 29264
  vn : -29264 ≤ v1 * n1 + v2 * n2 + v3 * n3 ∧ v1 * n1 + v2 * n2 + v3 * n3 ≤ 29264
theorem cross_le {a b c x y z : Int} (h1 : nearI a b c = true) (h2 : nearI x y z = true) : mostA (b * z - c * y) (c * x - a * z) (a * y - b * x) ≤ 4611686018427387904 := by
  rw [PV.near_iff] at h1 h2
  have m1 := PV.mul_le h1.2.1 h2.2.2; have m2 := PV.mul_le h1.2.2 h2.2.1
  have m3 := PV.mul_le h1.2.2 h2.1; have m4 := PV.mul_le h1.1 h2.2.2
  have m5 := PV.mul_le h1.1 h2.2.1; have m6 := PV.mul_le h1.2.1 h2.1
  rw [PU.most_A_le]; omega
theorem of_bas {x y z u1 u2 u3 v1 v2 v3 n1 n2 n3 : Int} (hx : I64 x) (hy : I64 y) (hz : I64 z) (ok : okI x y z = true) (h : ((u1, u2, u3), (v1, v2, v3), (n1, n2, n3)) = ofI x y z) : Bas u1 u2 u3 v1 v2 v3 n1 n2 n3 := by
  obtain ⟨e1, e2, e3, hn, he, hu, hv⟩ := PB.of_parts h
  have dn := unit_dir hx hy hz ok hn
  have nn := dir_near dn
  have ne := PB.near_a (PB.near_e he)
  obtain ⟨c1, c2, c3⟩ := PB.cross_i ne nn
  have ok2 : okI (e2 * n3 - e3 * n2) (e3 * n1 - e1 * n3) (e1 * n2 - e2 * n1) = true := by
    refine ok_of (cross_le ne nn) ?_
    have lo := dn.lo
    unfold axisI at he
    have q : ∀ t : Int, absI t = 0 → t = 0 := fun t => by unfold absI; split <;> omega
    have q0 : ∀ t : Int, 0 ≤ absI t := fun t => by unfold absI; split <;> omega
    have z0 : absI 0 = 0 := by decide
    intro hz
    have : n1 = 0 ∧ n2 = 0 ∧ n3 = 0 := by
      split at he
      · simp only [Prod.mk.injEq] at he
        obtain ⟨rfl, rfl, rfl⟩ := he
        have a2 : n2 = 0 := by omega
        have a3 : n3 = 0 := by omega
        rename_i g
        rw [a2, z0] at g
        exact ⟨q _ (by have := q0 n1; omega), a2, a3⟩
      · split at he
        · simp only [Prod.mk.injEq] at he
          obtain ⟨rfl, rfl, rfl⟩ := he
          have a1 : n1 = 0 := by omega
          have a3 : n3 = 0 := by omega
          rename_i g
          rw [a3, z0] at g
          exact ⟨a1, q _ (by have := q0 n2; omega), a3⟩
        · simp only [Prod.mk.injEq] at he
          obtain ⟨rfl, rfl, rfl⟩ := he
          have a1 : n1 = 0 := by omega
          have a2 : n2 = 0 := by omega
          rename_i g1 g2
          rw [a2, z0] at g2
          have := q0 n3
          exact ⟨a1, a2, q _ (by omega)⟩
    obtain ⟨rfl, rfl, rfl⟩ := this
    omega
  have du := unit_dir c1 c2 c3 ok2 hu
  have nu := dir_near du
  have un := unit_dot c1 c2 c3 ok2 hu dn (by grind)
  obtain ⟨d1, d2, d3⟩ := PB.cross_i nn nu
  have ok3 : okI (n2 * u3 - n3 * u2) (n3 * u1 - n1 * u3) (n1 * u2 - n2 * u1) = true := by
    refine ok_of (cross_le nn nu) ?_
    rintro ⟨z1, z2, z3⟩
    have lag : (n1 * n1 + n2 * n2 + n3 * n3) * (u1 * u1 + u2 * u2 + u3 * u3) = (n2 * u3 - n3 * u2) * (n2 * u3 - n3 * u2) + (n3 * u1 - n1 * u3) * (n3 * u1 - n1 * u3) + (n1 * u2 - n2 * u1) * (n1 * u2 - n2 * u1) + (u1 * n1 + u2 * n2 + u3 * n3) * (u1 * n1 + u2 * n2 + u3 * n3) := by grind
    rw [z1, z2, z3] at lag
    have := Int.mul_le_mul dn.lo du.lo (by omega) (by have := dn.lo; omega)
    have := PV.mul_le un un
    omega
  have dv := unit_dir d1 d2 d3 ok3 hv
  have vn := unit_dot d1 d2 d3 ok3 hv dn (by grind)
  have vu := unit_dot d1 d2 d3 ok3 hv du (by grind)
  refine ⟨du, dv, dn, ?_, un, vn⟩
  rw [Int.mul_comm u1, Int.mul_comm u2, Int.mul_comm u3]; exact vu
end PQ
end Go.AW
namespace Go.AW
open Go
namespace PQ
theorem dir_le {a b c : Int} (d : Dir a b c) : (-16384 ≤ a ∧ a ≤ 16384) ∧ (-16384 ≤ b ∧ b ≤ 16384) ∧ (-16384 ≤ c ∧ c ≤ 16384) := by
  have hi := d.hi
  have sa := PU.sq_nonneg a; have sb := PU.sq_nonneg b; have sc := PU.sq_nonneg c
  have q : ∀ t : Int, t * t ≤ 268436480 → -16384 ≤ t ∧ t ≤ 16384 := by
    intro t ht
    constructor
    · rcases Int.lt_or_le t (-16384) with g | g
      · have := PN.sq_le (show (0 : Int) ≤ 16385 by omega) (show 16385 ≤ -t by omega)
        rw [Int.neg_mul_neg] at this; omega
      · exact g
    · rcases Int.lt_or_le 16384 t with g | g
      · have := PN.sq_le (show (0 : Int) ≤ 16385 by omega) (show 16385 ≤ t by omega)
        omega
      · exact g
  exact ⟨q a (by omega), q b (by omega), q c (by omega)⟩
/-- what goes out comes in -/
theorem back {r1 r2 r3 t1 t2 t3 x : Int} (hs : absI r1 + absI r2 + absI r3 ≤ 28377) (h : 268435456 * x - 1888829440 ≤ r1 * t1 + r2 * t2 + r3 * t3 ∧ r1 * t1 + r2 * t2 + r3 * t3 ≤ 268435456 * x + 1888829440) : -16 ≤ (r1 * (t1 / 16384) + r2 * (t2 / 16384) + r3 * (t3 / 16384)) / 16384 - x ∧ (r1 * (t1 / 16384) + r2 * (t2 / 16384) + r3 * (t3 / 16384)) / 16384 - x ≤ 16 := by
  have key : ∀ t : Int, ∃ r, t = 16384 * (t / 16384) + r ∧ (-16384 ≤ r ∧ r ≤ 16384) := fun t => ⟨t % 16384, by omega, by omega⟩
  obtain ⟨p1, e1, g1⟩ := key t1
  obtain ⟨p2, e2, g2⟩ := key t2
  obtain ⟨p3, e3, g3⟩ := key t3
  generalize t1 / 16384 = o1 at *
  generalize t2 / 16384 = o2 at *
  generalize t3 / 16384 = o3 at *
  have rl := rest_le (show (0 : Int) ≤ 16384 by omega) hs g1 g2 g3
  have e : r1 * t1 + r2 * t2 + r3 * t3 = 16384 * (r1 * o1 + r2 * o2 + r3 * o3) + (p1 * r1 + p2 * r2 + p3 * r3) := by rw [e1, e2, e3]; grind
  omega
theorem part {S d e x y z : Int} (hS : -56757 ≤ S - 268435456 ∧ S - 268435456 ≤ 56757) (hd : -29264 ≤ d ∧ d ≤ 29264) (he : -29264 ≤ e ∧ e ≤ 29264) (hx : -16384 ≤ x ∧ x ≤ 16384) (hy : -16384 ≤ y ∧ y ≤ 16384) (hz : -16384 ≤ z ∧ z ≤ 16384) : 268435456 * x - 1888829440 ≤ S * x + d * y + e * z ∧ S * x + d * y + e * z ≤ 268435456 * x + 1888829440 := by
  have h1 := PV.mul_le hS hx; have h2 := PV.mul_le hd hy; have h3 := PV.mul_le he hz
  have e1 : (S - 268435456) * x = S * x - 268435456 * x := by grind
  omega
theorem bas_back {u1 u2 u3 v1 v2 v3 n1 n2 n3 x y z o1 o2 o3 : Int} (b : Bas u1 u2 u3 v1 v2 v3 n1 n2 n3) (hx : -16384 ≤ x ∧ x ≤ 16384) (hy : -16384 ≤ y ∧ y ≤ 16384) (hz : -16384 ≤ z ∧ z ≤ 16384)
    (h1 : o1 = (u1 * x + v1 * y + n1 * z) / 16384) (h2 : o2 = (u2 * x + v2 * y + n2 * z) / 16384) (h3 : o3 = (u3 * x + v3 * y + n3 * z) / 16384) :
    (-16 ≤ (u1 * o1 + u2 * o2 + u3 * o3) / 16384 - x ∧ (u1 * o1 + u2 * o2 + u3 * o3) / 16384 - x ≤ 16) ∧ (-16 ≤ (v1 * o1 + v2 * o2 + v3 * o3) / 16384 - y ∧ (v1 * o1 + v2 * o2 + v3 * o3) / 16384 - y ≤ 16) ∧ (-16 ≤ (n1 * o1 + n2 * o2 + n3 * o3) / 16384 - z ∧ (n1 * o1 + n2 * o2 + n3 * o3) / 16384 - z ≤ 16) := by
  have su := b.u.lo; have su' := b.u.hi; have sv := b.v.lo; have sv' := b.v.hi; have sn := b.n.lo; have sn' := b.n.hi
  subst h1 h2 h3
  refine ⟨back b.u.s ?_, back b.v.s ?_, back b.n.s ?_⟩
  · have := part (S := u1 * u1 + u2 * u2 + u3 * u3) (by omega) b.uv b.un hx hy hz
    have e : u1 * (u1 * x + v1 * y + n1 * z) + u2 * (u2 * x + v2 * y + n2 * z) + u3 * (u3 * x + v3 * y + n3 * z) = (u1 * u1 + u2 * u2 + u3 * u3) * x + (u1 * v1 + u2 * v2 + u3 * v3) * y + (u1 * n1 + u2 * n2 + u3 * n3) * z := by grind
    rw [e]; exact this
  · have := part (S := v1 * v1 + v2 * v2 + v3 * v3) (by omega) b.uv b.vn hy hx hz
    have e : v1 * (u1 * x + v1 * y + n1 * z) + v2 * (u2 * x + v2 * y + n2 * z) + v3 * (u3 * x + v3 * y + n3 * z) = (v1 * v1 + v2 * v2 + v3 * v3) * y + (u1 * v1 + u2 * v2 + u3 * v3) * x + (v1 * n1 + v2 * n2 + v3 * n3) * z := by grind
    rw [e]; exact this
  · have := part (S := n1 * n1 + n2 * n2 + n3 * n3) (by omega) b.un b.vn hz hx hy
    have e : n1 * (u1 * x + v1 * y + n1 * z) + n2 * (u2 * x + v2 * y + n2 * z) + n3 * (u3 * x + v3 * y + n3 * z) = (n1 * n1 + n2 * n2 + n3 * n3) * z + (u1 * n1 + u2 * n2 + u3 * n3) * x + (v1 * n1 + v2 * n2 + v3 * n3) * y := by grind
    rw [e]; exact this
theorem dot_v {n1 n2 n3 x y z : Int} (d : Dir n1 n2 n3) (hx : -16384 ≤ x ∧ x ≤ 16384) (hy : -16384 ≤ y ∧ y ≤ 16384) (hz : -16384 ≤ z ∧ z ≤ 16384) : -464928768 ≤ x * n1 + y * n2 + z * n3 ∧ x * n1 + y * n2 + z * n3 ≤ 464928768 := by
  have := rest_le (show (0 : Int) ≤ 16384 by omega) d.s hx hy hz
  omega
theorem mir1 {x n k : Int} (hx : -16384 ≤ x ∧ x ≤ 16384) (hn : -16384 ≤ n ∧ n ≤ 16384) (hk : -464928768 ≤ k ∧ k ≤ 464928768) : -73139 ≤ x - n * (2 * k) / 268435456 ∧ x - n * (2 * k) / 268435456 ≤ 73139 := by
  have := PV.mul_le (b := 2 * k) (B := 929857536) hn (by omega)
  omega
/-- what is mirrored twice -/
theorem mir_back {n1 n2 n3 x y z m1 m2 m3 k k' : Int} (d : Dir n1 n2 n3) (hx : -16384 ≤ x ∧ x ≤ 16384) (hy : -16384 ≤ y ∧ y ≤ 16384) (hz : -16384 ≤ z ∧ z ≤ 16384) (hk : k = x * n1 + y * n2 + z * n3)
    (h1 : m1 = x - n1 * (2 * k) / 268435456) (h2 : m2 = y - n2 * (2 * k) / 268435456) (h3 : m3 = z - n3 * (2 * k) / 268435456) (hk' : k' = m1 * n1 + m2 * n2 + m3 * n3) :
    (-48 ≤ m1 - n1 * (2 * k') / 268435456 - x ∧ m1 - n1 * (2 * k') / 268435456 - x ≤ 48) ∧ (-48 ≤ m2 - n2 * (2 * k') / 268435456 - y ∧ m2 - n2 * (2 * k') / 268435456 - y ≤ 48) ∧ (-48 ≤ m3 - n3 * (2 * k') / 268435456 - z ∧ m3 - n3 * (2 * k') / 268435456 - z ≤ 48) := by
  have kb := dot_v d hx hy hz
  rw [← hk] at kb
  obtain ⟨l1, l2, l3⟩ := dir_le d
  have key : ∀ t : Int, ∃ r, t = 268435456 * (t / 268435456) + r ∧ (-268435456 ≤ r ∧ r ≤ 268435456) := fun t => ⟨t % 268435456, by omega, by omega⟩
  obtain ⟨p1, e1, g1⟩ := key (n1 * (2 * k))
  obtain ⟨p2, e2, g2⟩ := key (n2 * (2 * k))
  obtain ⟨p3, e3, g3⟩ := key (n3 * (2 * k))
  generalize n1 * (2 * k) / 268435456 = q1 at *
  generalize n2 * (2 * k) / 268435456 = q2 at *
  generalize n3 * (2 * k) / 268435456 = q3 at *
  have rl := rest_le (show (0 : Int) ≤ 268435456 by omega) d.s g1 g2 g3
  have lo := d.lo; have hi := d.hi
  have yb := PV.mul_le (a := 268435456 - (n1 * n1 + n2 * n2 + n3 * n3)) (A := 56757) (by omega) kb
  have e : 268435456 * (k + k') = 2 * ((268435456 - (n1 * n1 + n2 * n2 + n3 * n3)) * k) + (p1 * n1 + p2 * n2 + p3 * n3) := by
    have s1 : 268435456 * k' = 268435456 * (x * n1 + y * n2 + z * n3) - ((268435456 * q1) * n1 + (268435456 * q2) * n2 + (268435456 * q3) * n3) := by rw [hk', h1, h2, h3]; grind
    rw [show 268435456 * q1 = n1 * (2 * k) - p1 by omega, show 268435456 * q2 = n2 * (2 * k) - p2 by omega, show 268435456 * q3 = n3 * (2 * k) - p3 by omega, ← hk] at s1
    have s2 : 268435456 * (k + k') = 268435456 * k + 268435456 * k' := by grind
    rw [s2, s1]; grind
  have kk : -224986 ≤ k + k' ∧ k + k' ≤ 224986 := by omega
  have fin : ∀ (n v m q p : Int), (-16384 ≤ n ∧ n ≤ 16384) → m = v - q → n * (2 * k) = 268435456 * q + p → (-268435456 ≤ p ∧ p ≤ 268435456) → -48 ≤ m - n * (2 * k') / 268435456 - v ∧ m - n * (2 * k') / 268435456 - v ≤ 48 := by
    intro n v m q p hn hm he hp
    have nb := PV.mul_le hn kk
    have e : n * (k + k') * 2 = n * (2 * k) + n * (2 * k') := by grind
    omega
  exact ⟨fin n1 x m1 q1 p1 l1 h1 e1 g1, fin n2 y m2 q2 p2 l2 h2 e2 g2, fin n3 z m3 q3 p3 l3 h3 e3 g3⟩
end PQ
end Go.AW
namespace Go.AW
open Go
namespace PQ
theorem out_le {u v n a b c : Int} (hu : -16384 ≤ u ∧ u ≤ 16384) (hv : -16384 ≤ v ∧ v ≤ 16384) (hn : -16384 ≤ n ∧ n ≤ 16384) (ha : -16384 ≤ a ∧ a ≤ 16384) (hb : -16384 ≤ b ∧ b ≤ 16384) (hc : -16384 ≤ c ∧ c ≤ 16384) : -49152 ≤ (u * a + v * b + n * c) / 16384 ∧ (u * a + v * b + n * c) / 16384 ≤ 49152 := by
  have h1 := PV.mul_le hu ha; have h2 := PV.mul_le hv hb; have h3 := PV.mul_le hn hc
  omega
end PQ
end Go.AW
namespace Go.AW
open Go
namespace PQ
theorem sq2 (x y : Int) : 2 * (x * y) ≤ x * x + y * y ∧ -(x * x + y * y) ≤ 2 * (x * y) := by
  have h1 := PU.sq_nonneg (x - y); have h2 := PU.sq_nonneg (x + y)
  have e1 : (x - y) * (x - y) = x * x + y * y - 2 * (x * y) := by grind
  have e2 : (x + y) * (x + y) = x * x + y * y + 2 * (x * y) := by grind
  omega
/-- how long is what goes out -/
theorem out_len {u1 u2 u3 v1 v2 v3 n1 n2 n3 x y z : Int} (b : Bas u1 u2 u3 v1 v2 v3 n1 n2 n3) (Q : Int) (hQ : Q = x * x + y * y + z * z) :
    (268320171 * Q ≤ (u1 * x + v1 * y + n1 * z) * (u1 * x + v1 * y + n1 * z) + (u2 * x + v2 * y + n2 * z) * (u2 * x + v2 * y + n2 * z) + (u3 * x + v3 * y + n3 * z) * (u3 * x + v3 * y + n3 * z)) ∧
    (u1 * x + v1 * y + n1 * z) * (u1 * x + v1 * y + n1 * z) + (u2 * x + v2 * y + n2 * z) * (u2 * x + v2 * y + n2 * z) + (u3 * x + v3 * y + n3 * z) * (u3 * x + v3 * y + n3 * z) ≤ 268550741 * Q := by
  have e : (u1 * x + v1 * y + n1 * z) * (u1 * x + v1 * y + n1 * z) + (u2 * x + v2 * y + n2 * z) * (u2 * x + v2 * y + n2 * z) + (u3 * x + v3 * y + n3 * z) * (u3 * x + v3 * y + n3 * z)
      = (u1 * u1 + u2 * u2 + u3 * u3) * (x * x) + (v1 * v1 + v2 * v2 + v3 * v3) * (y * y) + (n1 * n1 + n2 * n2 + n3 * n3) * (z * z) + (u1 * v1 + u2 * v2 + u3 * v3) * (2 * (x * y)) + (u1 * n1 + u2 * n2 + u3 * n3) * (2 * (x * z)) + (v1 * n1 + v2 * n2 + v3 * n3) * (2 * (y * z)) := by grind
  rw [e]
  have X := PU.sq_nonneg x; have Y := PU.sq_nonneg y; have Z := PU.sq_nonneg z
  have su := Int.mul_le_mul_of_nonneg_right b.u.lo X; have su' := Int.mul_le_mul_of_nonneg_right b.u.hi X
  have sv := Int.mul_le_mul_of_nonneg_right b.v.lo Y; have sv' := Int.mul_le_mul_of_nonneg_right b.v.hi Y
  have sn := Int.mul_le_mul_of_nonneg_right b.n.lo Z; have sn' := Int.mul_le_mul_of_nonneg_right b.n.hi Z
  have q1 := sq2 x y; have q2 := sq2 x z; have q3 := sq2 y z
  have m1 := PV.mul_le (B := x * x + y * y) b.uv (b := 2 * (x * y)) ⟨q1.2, q1.1⟩
  have m2 := PV.mul_le (B := x * x + z * z) b.un (b := 2 * (x * z)) ⟨q2.2, q2.1⟩
  have m3 := PV.mul_le (B := y * y + z * z) b.vn (b := 2 * (y * z)) ⟨q3.2, q3.1⟩
  omega
/-- a square, and that of a part rounded down -/
theorem down_sq {t : Int} (h : -805306368 ≤ t ∧ t ≤ 805306368) : t * t - 26388279066624 ≤ 268435456 * ((t / 16384) * (t / 16384)) ∧ 268435456 * ((t / 16384) * (t / 16384)) ≤ t * t + 26388547502080 := by
  obtain ⟨o, r, e, e', hr⟩ : ∃ o r : Int, t = 16384 * o + r ∧ t / 16384 = o ∧ 0 ≤ r ∧ r < 16384 := ⟨t / 16384, t % 16384, by omega, rfl, by omega, by omega⟩
  rw [e']
  have h1 : 268435456 * (o * o) = t * t - 2 * (t * r) + r * r := by
    have : 268435456 * (o * o) = (16384 * o) * (16384 * o) := by grind
    rw [this, show 16384 * o = t - r by omega]; grind
  have m := PV.mul_le h (show -16384 ≤ r ∧ r ≤ 16384 by omega)
  have m2 := Int.mul_le_mul (show r ≤ 16384 by omega) (show r ≤ 16384 by omega) hr.1 (by omega)
  have m3 := PU.sq_nonneg r
  omega
theorem dbl_is : ∀ (k : Nat) (x y z : Int), ∃ P : Int, 1 ≤ P ∧ dblI k x y z = (P * x, P * y, P * z)
  | 0, x, y, z => ⟨1, by omega, by simp [dblI]⟩
  | k + 1, x, y, z => by
    unfold dblI
    split
    · obtain ⟨P, h1, h2⟩ := dbl_is k (2 * x) (2 * y) (2 * z)
      exact ⟨2 * P, by omega, by rw [h2]; refine Prod.ext ?_ (Prod.ext ?_ ?_) <;> simp <;> grind⟩
    · exact ⟨1, by omega, by simp⟩
theorem even_is {x y z : Int} (h1 : 1 ≤ mostA x y z) (h2 : mostA x y z < 524288) : ∃ P : Int, 1 ≤ P ∧ evenI x y z = (P * x, P * y, P * z) := by
  obtain ⟨P, p1, p2⟩ := dbl_is 20 x y z
  refine ⟨P, p1, ?_⟩
  have d := PU.dbl_spec 20 x y z (by have : (2 : Int) ^ 20 = 1048576 := rfl; omega)
  have lt : mostA (dblI 20 x y z).1 (dblI 20 x y z).2.1 (dblI 20 x y z).2.2 < 1048576 := by
    rcases d.2 with g | g
    · exact g
    · rw [g]; show mostA x y z < _; omega
  unfold evenI
  rw [p2] at lt ⊢
  show hlvI (63 + 1) _ _ _ = _
  rw [hlvI, if_pos lt]
/-- what the direction of what goes out, and the third direction have alike -/
theorem out_side {u1 u2 u3 v1 v2 v3 n1 n2 n3 x y z o1 o2 o3 a1 a2 a3 : Int} (b : Bas u1 u2 u3 v1 v2 v3 n1 n2 n3) (hx : -16384 ≤ x ∧ x ≤ 16384) (hy : -16384 ≤ y ∧ y ≤ 16384) (hz : 0 ≤ z ∧ z ≤ 16384)
    (hQ : 265400000 ≤ x * x + y * y + z * z ∧ x * x + y * y + z * z ≤ 271400000)
    (h1 : o1 = (u1 * x + v1 * y + n1 * z) / 16384) (h2 : o2 = (u2 * x + v2 * y + n2 * z) / 16384) (h3 : o3 = (u3 * x + v3 * y + n3 * z) / 16384)
    (ha : (a1, a2, a3) = unitI o1 o2 o3) : Dir a1 a2 a3 ∧ -262144 ≤ a1 * n1 + a2 * n2 + a3 * n3 ∧ (z - 256) * 16384 ≤ a1 * n1 + a2 * n2 + a3 * n3 := by
  obtain ⟨lu1, lu2, lu3⟩ := dir_le b.u
  obtain ⟨lv1, lv2, lv3⟩ := dir_le b.v
  obtain ⟨ln1, ln2, ln3⟩ := dir_le b.n
  have hz' : -16384 ≤ z ∧ z ≤ 16384 := by omega
  have tb : ∀ {u v n : Int}, (-16384 ≤ u ∧ u ≤ 16384) → (-16384 ≤ v ∧ v ≤ 16384) → (-16384 ≤ n ∧ n ≤ 16384) → -805306368 ≤ u * x + v * y + n * z ∧ u * x + v * y + n * z ≤ 805306368 := by
    intro u v n hu hv hn
    have := PV.mul_le hu hx; have := PV.mul_le hv hy; have := PV.mul_le hn hz'; omega
  have t1 := tb lu1 lv1 ln1; have t2 := tb lu2 lv2 ln2; have t3 := tb lu3 lv3 ln3
  have s1 := down_sq t1; have s2 := down_sq t2; have s3 := down_sq t3
  rw [← h1] at s1; rw [← h2] at s2; rw [← h3] at s3
  have ol := out_len (x := x) (y := y) (z := z) b _ rfl
  have O1 : 256000000 ≤ o1 * o1 + o2 * o2 + o3 * o3 := by omega
  have O2 : o1 * o1 + o2 * o2 + o3 * o3 ≤ 272250000 := by omega
  -- how far it goes along the third direction
  have key : ∀ t : Int, ∃ r, t = 16384 * (t / 16384) + r ∧ (-16384 ≤ r ∧ r ≤ 16384) := fun t => ⟨t % 16384, by omega, by omega⟩
  obtain ⟨p1, e1, g1⟩ := key (u1 * x + v1 * y + n1 * z)
  obtain ⟨p2, e2, g2⟩ := key (u2 * x + v2 * y + n2 * z)
  obtain ⟨p3, e3, g3⟩ := key (u3 * x + v3 * y + n3 * z)
  rw [← h1] at e1; rw [← h2] at e2; rw [← h3] at e3
  have rl := rest_le (show (0 : Int) ≤ 16384 by omega) b.n.s g1 g2 g3
  have eD : 16384 * (o1 * n1 + o2 * n2 + o3 * n3) + (p1 * n1 + p2 * n2 + p3 * n3) = (u1 * n1 + u2 * n2 + u3 * n3) * x + (v1 * n1 + v2 * n2 + v3 * n3) * y + (n1 * n1 + n2 * n2 + n3 * n3) * z := by
    have : 16384 * (o1 * n1 + o2 * n2 + o3 * n3) + (p1 * n1 + p2 * n2 + p3 * n3) = (16384 * o1 + p1) * n1 + (16384 * o2 + p2) * n2 + (16384 * o3 + p3) * n3 := by grind
    rw [this, ← e1, ← e2, ← e3]; grind
  have mx := PV.mul_le b.un hx; have my := PV.mul_le b.vn hy
  have mz := Int.mul_le_mul_of_nonneg_right b.n.lo hz.1
  have hD : 268378699 * z - 1423851520 ≤ 16384 * (o1 * n1 + o2 * n2 + o3 * n3) := by omega
  -- its direction
  have ob : mostA o1 o2 o3 < 524288 := by
    have := (PU.most_A_le (x := o1) (y := o2) (z := o3) (n := 524287)).2 (by omega); omega
  have o0 : ¬ (o1 = 0 ∧ o2 = 0 ∧ o3 = 0) := by rintro ⟨rfl, rfl, rfl⟩; omega
  have ok := ok_of (show mostA o1 o2 o3 ≤ 4611686018427387904 by omega) o0
  have i1 : I64 o1 := by unfold I64; omega
  have i2 : I64 o2 := by unfold I64; omega
  have i3 : I64 o3 := by unfold I64; omega
  have dir := unit_dir i1 i2 i3 ok ha
  refine ⟨dir, ?_⟩
  have m1 : 1 ≤ mostA o1 o2 o3 := by unfold mostA; omega
  obtain ⟨P, hP, he⟩ := even_is m1 ob
  obtain ⟨w1, w2⟩ := PU.even_spec m1 (show mostA o1 o2 o3 ≤ 4611686018427387904 by omega)
  rw [he] at w1 w2
  obtain ⟨l1, _⟩ := PU.len_lo w1 w2
  have rt := PU.len_spec (x := P * o1) (y := P * o2) (z := P * o3)
  rw [PU.dot_A (PU.near_A w2), show P * o1 * (P * o1) + P * o2 * (P * o2) + P * o3 * (P * o3) = P * P * (o1 * o1 + o2 * o2 + o3 * o3) by grind] at rt
  unfold unitI at ha
  rw [if_pos ok, he] at ha
  unfold uniE at ha
  simp only [Prod.mk.injEq] at ha
  obtain ⟨rfl, rfl, rfl⟩ := ha
  change 524288 ≤ lenI (P * o1) (P * o2) (P * o3) at l1
  generalize lenI (P * o1) (P * o2) (P * o3) = l at *
  have PP := PU.sq_nonneg P
  have hl1 : 16000 * P ≤ l := by
    rcases Int.lt_or_le l (16000 * P) with g | g
    · have := PN.sq_le (show 0 ≤ l + 1 by omega) (show l + 1 ≤ 16000 * P from g)
      have q := Int.mul_le_mul_of_nonneg_left O1 PP
      have e : 16000 * P * (16000 * P) = P * P * 256000000 := by grind
      have := rt.lt; omega
    · exact g
  have hl2 : l ≤ 16500 * P := by
    rcases Int.lt_or_le (16500 * P) l with g | g
    · have := PN.sq_le (show 0 ≤ 16500 * P + 1 by omega) (show 16500 * P + 1 ≤ l from g)
      have q := Int.mul_le_mul_of_nonneg_left O2 PP
      have e : (16500 * P + 1) * (16500 * P + 1) = P * P * 272250000 + 33000 * P + 1 := by grind
      have := rt.le; omega
    · exact g
  have kl : ∀ n, ∃ r, n * 16384 = uni1 n l * l + r ∧ (-l ≤ r ∧ r ≤ l) := fun n => by
    obtain ⟨A, R, hA, hR, hRl, h | h⟩ := uni_spec (n := n) (l := l) (by omega)
    · exact ⟨R, by rw [h.2]; exact h.1, by omega⟩
    · exact ⟨-R, by rw [h.2, h.1]; grind, by omega⟩
  obtain ⟨r1, f1, k1⟩ := kl (P * o1)
  obtain ⟨r2, f2, k2⟩ := kl (P * o2)
  obtain ⟨r3, f3, k3⟩ := kl (P * o3)
  show -262144 ≤ uni1 (P * o1) l * n1 + uni1 (P * o2) l * n2 + uni1 (P * o3) l * n3 ∧ (z - 256) * 16384 ≤ uni1 (P * o1) l * n1 + uni1 (P * o2) l * n2 + uni1 (P * o3) l * n3
  generalize uni1 (P * o1) l = c1 at *
  generalize uni1 (P * o2) l = c2 at *
  generalize uni1 (P * o3) l = c3 at *
  have rr := rest_le (show 0 ≤ l by omega) b.n.s k1 k2 k3
  have eA : P * (16384 * (o1 * n1 + o2 * n2 + o3 * n3)) = (c1 * n1 + c2 * n2 + c3 * n3) * l + (r1 * n1 + r2 * n2 + r3 * n3) := by
    have : P * (16384 * (o1 * n1 + o2 * n2 + o3 * n3)) = (P * o1 * 16384) * n1 + (P * o2 * 16384) * n2 + (P * o3 * 16384) * n3 := by grind
    rw [this, f1, f2, f3]; grind
  have hPD := Int.mul_le_mul_of_nonneg_left hD (show 0 ≤ P by omega)
  rw [eA] at hPD
  generalize c1 * n1 + c2 * n2 + c3 * n3 = D at *
  rcases Int.lt_or_le (268378699 * z - 1423851520) 0 with g | g
  · -- nearly none
    have hz5 : z ≤ 5 := by omega
    have q : P * (-1423851520) ≤ P * (268378699 * z - 1423851520) := Int.mul_le_mul_of_nonneg_left (by omega) (by omega)
    have lowD : -117368 ≤ D := by
      rcases Int.lt_or_le D (-117368) with g | g
      · have := Int.mul_le_mul_of_nonneg_right (show D ≤ -117369 by omega) (show 0 ≤ l by omega)
        omega
      · exact g
    omega
  · have q : l * (268378699 * z - 1423851520) ≤ 16500 * P * (268378699 * z - 1423851520) := Int.mul_le_mul_of_nonneg_right hl2 g
    have e : 16500 * P * (268378699 * z - 1423851520) = 16500 * (P * (268378699 * z - 1423851520)) := by grind
    have lowD : 268378699 * z - 1892072020 ≤ 16500 * D := by
      rcases Int.lt_or_le (16500 * D) (268378699 * z - 1892072020) with g' | g'
      · have w := Int.mul_le_mul_of_nonneg_right (show 16500 * D ≤ 268378699 * z - 1892072021 by omega) (show 0 ≤ l by omega)
        have w1 : 16500 * D * l = 16500 * (D * l) := by grind
        have w2 : (268378699 * z - 1892072021) * l = l * (268378699 * z - 1423851520) - 468220501 * l := by grind
        omega
      · exact g'
    omega
end PQ
end Go.AW
namespace Go.AW
open Go
namespace PQ
theorem ring_len {r h z q : Int} (hr : 0 ≤ r ∧ r ≤ 16384) (r1 : r * r ≤ q) (r2 : q ≤ r * r + 32768) (hq : 0 ≤ q ∧ q ≤ 268435456) (z1 : 268435456 - q - 32768 ≤ z * z) (z2 : z * z ≤ 268435456 - q) :
    265400000 ≤ ringC r h * ringC r h + ringS r h * ringS r h + z * z ∧ ringC r h * ringC r h + ringS r h * ringS r h + z * z ≤ 271400000 := by
  have c := PT.cos_le h; have s := PT.sin_le h
  have m1 := PS.mul_b c hr; have m2 := PS.mul_b s hr
  have d1 := down_sq (t := cosI h * r) (by omega)
  have d2 := down_sq (t := sinI h * r) (by omega)
  have w := PT.sq_any h
  have rr := PU.sq_nonneg r
  have w1 := Int.mul_le_mul_of_nonneg_right w.1 rr
  have w2 := Int.mul_le_mul_of_nonneg_right w.2 rr
  have e : cosI h * r * (cosI h * r) + sinI h * r * (sinI h * r) = (cosI h * cosI h + sinI h * sinI h) * (r * r) := by grind
  unfold ringC ringS
  rw [if_pos hr, if_pos hr]
  omega
theorem root_b {q : Int} (hq : 0 ≤ q ∧ q ≤ 268435456) : (0 ≤ rootI q ∧ rootI q ≤ 16384) ∧ rootI q * rootI q ≤ q ∧ q ≤ rootI q * rootI q + 32768 := by
  have r := PN.root_I (n := q) (by omega) (by omega)
  have b : rootI q ≤ 16384 := by
    rcases Int.lt_or_le 16384 (rootI q) with g | g
    · have := PN.sq_le (show (0 : Int) ≤ 16385 by omega) (show 16385 ≤ rootI q from g)
      have := r.le; omega
    · exact g
  have e : (rootI q + 1) * (rootI q + 1) = rootI q * rootI q + 2 * rootI q + 1 := by grind
  have := r.lt
  exact ⟨⟨r.pos, b⟩, r.le, by omega⟩
theorem half_len {u k a b c : Int} (e : (a, b, c) = halfV u k) : 265400000 ≤ a * a + b * b + c * c ∧ a * a + b * b + c * c ≤ 271400000 := by
  unfold halfV at e
  simp only [Prod.mk.injEq] at e
  obtain ⟨rfl, rfl, rfl⟩ := e
  have r1 := root_b (q := u % 65536 * 4096) (by omega)
  have r2 := root_b (q := 268435456 - u % 65536 * 4096) (by omega)
  exact ring_len r1.1 r1.2.1 r1.2.2 (by omega) (by show _ ≤ rootI _ * rootI _; omega) r2.2.1
theorem cone_len {t u k a b c : Int} (ht : 0 ≤ t ∧ t ≤ 16384) (e : (a, b, c) = upI (coneZ t u) k) : (265400000 ≤ a * a + b * b + c * c ∧ a * a + b * b + c * c ≤ 271400000) ∧ t ≤ c := by
  have cb := PS.cone_b (u := u) ht
  have c2 : u % 65536 * (16384 - t) ≤ 65536 * (16384 - t) := Int.mul_le_mul_of_nonneg_right (by omega) (by omega)
  have cz : t ≤ coneZ t u ∧ coneZ t u ≤ 16384 := by unfold coneZ; omega
  generalize coneZ t u = z at *
  unfold upI at e
  rw [if_pos (by omega)] at e
  simp only [Prod.mk.injEq] at e
  obtain ⟨rfl, rfl, rfl⟩ := e
  have zb := PS.sq_b (z := c) (by omega)
  have r1 := root_b (q := 268435456 - c * c) (by omega)
  exact ⟨ring_len r1.1 r1.2.1 r1.2.2 (by omega) (by omega) (by omega), cz.1⟩
end PQ
end Go.AW
namespace Go.AW
open Go
namespace PQ
theorem about_side {x y z a b c a1 a2 a3 d1 d2 d3 : Int} (hx : I64 x) (hy : I64 y) (hz : I64 z) (ok : okI x y z = true) (hd : (d1, d2, d3) = unitI x y z) (ha : -16384 ≤ a ∧ a ≤ 16384) (hb : -16384 ≤ b ∧ b ≤ 16384) (hc : 0 ≤ c ∧ c ≤ 16384)
    (hQ : 265400000 ≤ a * a + b * b + c * c ∧ a * a + b * b + c * c ≤ 271400000) (h : (a1, a2, a3) = aboutI x y z (a, b, c)) : Dir a1 a2 a3 ∧ -262144 ≤ a1 * d1 + a2 * d2 + a3 * d3 ∧ (c - 256) * 16384 ≤ a1 * d1 + a2 * d2 + a3 * d3 := by
  obtain ⟨⟨u1, u2, u3⟩, ⟨v1, v2, v3⟩, ⟨n1, n2, n3⟩, e⟩ : ∃ u v n, ((u, v, n) : (Int × Int × Int) × (Int × Int × Int) × (Int × Int × Int)) = ofI x y z := ⟨_, _, _, rfl⟩
  have hn : (n1, n2, n3) = unitI x y z := (PB.of_parts e).elim fun _ h => h.elim fun _ h => h.elim fun _ h => h.1
  rw [← hn] at hd
  simp only [Prod.mk.injEq] at hd
  obtain ⟨rfl, rfl, rfl⟩ := hd
  have bas := of_bas hx hy hz ok e
  unfold aboutI at h
  rw [if_pos ok, ← e] at h
  exact out_side bas ha hb hc hQ rfl rfl rfl h
theorem about_no {x y z : Int} {v : Int × Int × Int} (h : okI x y z = false) : aboutI x y z v = (0, 0, 0) := by unfold aboutI; rw [h]; rfl
end PQ
end Go.AW
