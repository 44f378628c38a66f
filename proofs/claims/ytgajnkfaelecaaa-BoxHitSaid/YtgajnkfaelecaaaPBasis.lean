/- Plain laws of directions that stand upon one another. -/
import Derived.Test.YtgajnkfaelecaaaPUnit
namespace Go.AW
open Go
set_option linter.unusedVariables false
def crossI (b : Bool) (n : Int) : Int := cond b n 0
def absI (n : Int) : Int := if n < 0 then -n else n
/-- the axis along which a direction reaches least -/
def axisI (a b c : Int) : Int × Int × Int := if absI a ≤ absI b ∧ absI a ≤ absI c then (1, 0, 0) else if absI b ≤ absI c then (0, 1, 0) else (0, 0, 1)
/-- a coordinate of a direction n that is against another one d -/
def faceI (a b c x y z k : Int) : Int := if nearI x y z = true ∧ nearI a b c = true then (if dotI a b c x y z > 0 then -k else k) else 0
/-- a basis: its directions, one behind the other -/
def ofI (x y z : Int) : (Int × Int × Int) × (Int × Int × Int) × (Int × Int × Int) :=
  let n := unitI x y z
  let e := axisI n.1 n.2.1 n.2.2
  let u := unitI (e.2.1 * n.2.2 - e.2.2 * n.2.1) (e.2.2 * n.1 - e.1 * n.2.2) (e.1 * n.2.1 - e.2.1 * n.1)
  let v := unitI (n.2.1 * u.2.2 - n.2.2 * u.2.1) (n.2.2 * u.1 - n.1 * u.2.2) (n.1 * u.2.1 - n.2.1 * u.1)
  (u, v, n)
/-- are all of a basis, and a vector, near? -/
def nearB (u1 u2 u3 v1 v2 v3 n1 n2 n3 x y z : Int) : Bool := nearI u1 u2 u3 && (nearI v1 v2 v3 && (nearI n1 n2 n3 && nearI x y z))
def outI (b : Bool) (u v n x y z : Int) : Int := cond b ((u * x + v * y + n * z) / 16384) 0
/-- a coordinate d of a direction that is mirrored -/
def mirI (b : Bool) (d n k : Int) : Int := cond b (d - (n * (2 * k)) / 268435456) 0
namespace PB
theorem times_i (a b : Int) : I64 (timesI a b) := by unfold I64 timesI; split <;> (try split) <;> omega
theorem abs_mm {d : Int} (h : -9223372036854775807 ≤ d) (h' : d ≤ 9223372036854775807) : mmI true d (Z.neg .i64 d) = absI d := by
  rw [show Z.neg .i64 d = 0 - d from Z.wrap_iid (by omega) (by omega)]
  have := mx_spec d (0 - d)
  unfold absI; split <;> omega
theorem sub_i {a x : Int} (ha : -4611686018427387904 ≤ a ∧ a ≤ 4611686018427387903) (hx : -4611686018427387903 ≤ x ∧ x ≤ 4611686018427387903) : plusI a (timesI x (-1)) = a - x := by
  rw [PV.times_neg (by unfold I64; omega), if_neg (by omega), PV.plus_eq ha (by omega)]; omega
theorem near_I {a b c : Int} (h : nearI a b c = true) : I64 a ∧ I64 b ∧ I64 c := by rw [PV.near_iff] at h; unfold I64; omega
theorem ax_spec (a b c : Int) : axisI a b c = (1, 0, 0) ∨ axisI a b c = (0, 1, 0) ∨ axisI a b c = (0, 0, 1) := by unfold axisI; split <;> (try split) <;> simp
theorem near_x : nearI 1 0 0 = true := by decide
theorem near_y : nearI 0 1 0 = true := by decide
theorem near_z : nearI 0 0 1 = true := by decide
theorem of_no {x y z : Int} (h : okI x y z = false) : ofI x y z = ((0, 0, 0), (0, 0, 0), (0, 0, 0)) := by
  have e : unitI x y z = (0, 0, 0) := by unfold unitI; rw [h]; rfl
  unfold ofI
  rw [e]
  decide
theorem of_eq {x y z n1 n2 n3 e1 e2 e3 u1 u2 u3 v1 v2 v3 : Int} (hn : (n1, n2, n3) = unitI x y z) (he : (e1, e2, e3) = axisI n1 n2 n3) (hu : (u1, u2, u3) = unitI (e2 * n3 - e3 * n2) (e3 * n1 - e1 * n3) (e1 * n2 - e2 * n1)) (hv : (v1, v2, v3) = unitI (n2 * u3 - n3 * u2) (n3 * u1 - n1 * u3) (n1 * u2 - n2 * u1)) : ((u1, u2, u3), (v1, v2, v3), (n1, n2, n3)) = ofI x y z := by
  unfold ofI
  simp only [← hn, ← he, ← hu, ← hv]
theorem near_u {p q b : Int} (h : (-16384 ≤ p ∧ p ≤ 16384) ∧ (-16384 ≤ q ∧ q ≤ 16384) ∧ (-16384 ≤ b ∧ b ≤ 16384)) : nearI p q b = true := by rw [PV.near_iff]; omega
theorem near_e {e1 e2 e3 a b c : Int} (h : (e1, e2, e3) = axisI a b c) : (0 ≤ e1 ∧ e1 ≤ 1) ∧ (0 ≤ e2 ∧ e2 ≤ 1) ∧ (0 ≤ e3 ∧ e3 ≤ 1) := by
  rcases ax_spec a b c with e | e | e <;> rw [e] at h <;> injection h with h1 h <;> injection h with h2 h3 <;> omega
theorem near_a {e1 e2 e3 : Int} (h : (0 ≤ e1 ∧ e1 ≤ 1) ∧ (0 ≤ e2 ∧ e2 ≤ 1) ∧ (0 ≤ e3 ∧ e3 ≤ 1)) : nearI e1 e2 e3 = true := by rw [PV.near_iff]; omega
theorem cross_i {a b c x y z : Int} (h1 : nearI a b c = true) (h2 : nearI x y z = true) : I64 (b * z - c * y) ∧ I64 (c * x - a * z) ∧ I64 (a * y - b * x) := by
  rw [PV.near_iff] at h1 h2
  have m1 := PV.mul_le h1.2.1 h2.2.2; have m2 := PV.mul_le h1.2.2 h2.2.1
  have m3 := PV.mul_le h1.2.2 h2.1; have m4 := PV.mul_le h1.1 h2.2.2
  have m5 := PV.mul_le h1.1 h2.2.1; have m6 := PV.mul_le h1.2.1 h2.1
  unfold I64; omega
theorem near_B {u1 u2 u3 v1 v2 v3 n1 n2 n3 x y z : Int} (h : nearB u1 u2 u3 v1 v2 v3 n1 n2 n3 x y z = true) : nearI u1 u2 u3 = true ∧ nearI v1 v2 v3 = true ∧ nearI n1 n2 n3 = true ∧ nearI x y z = true := by
  unfold nearB at h; rw [Bool.and_eq_true, Bool.and_eq_true, Bool.and_eq_true] at h; exact ⟨h.1, h.2.1, h.2.2.1, h.2.2.2⟩
theorem mul_b {u x : Int} (hu : -1048576 ≤ u ∧ u ≤ 1048576) (hx : -1048576 ≤ x ∧ x ≤ 1048576) : -1099511627776 ≤ u * x ∧ u * x ≤ 1099511627776 := by
  have := PV.mul_le hu hx; omega
theorem mir_b {x d : Int} (hx : -1048576 ≤ x ∧ x ≤ 1048576) (hd : -3298534883328 ≤ d ∧ d ≤ 3298534883328) : -6917529027641081856 ≤ x * (2 * d) ∧ x * (2 * d) ≤ 6917529027641081856 := by
  have := PV.mul_le (b := 2 * d) (B := 6597069766656) hx (by omega); omega
theorem of_parts {x y z u1 u2 u3 v1 v2 v3 n1 n2 n3 : Int} (h : ((u1, u2, u3), (v1, v2, v3), (n1, n2, n3)) = ofI x y z) : ∃ e1 e2 e3, (n1, n2, n3) = unitI x y z ∧ (e1, e2, e3) = axisI n1 n2 n3 ∧ (u1, u2, u3) = unitI (e2 * n3 - e3 * n2) (e3 * n1 - e1 * n3) (e1 * n2 - e2 * n1) ∧ (v1, v2, v3) = unitI (n2 * u3 - n3 * u2) (n3 * u1 - n1 * u3) (n1 * u2 - n2 * u1) := by
  have hn : (n1, n2, n3) = unitI x y z := congrArg (fun t => t.2.2) h
  have hu : ∀ n e, n = unitI x y z → e = axisI n.1 n.2.1 n.2.2 → (u1, u2, u3) = unitI (e.2.1 * n.2.2 - e.2.2 * n.2.1) (e.2.2 * n.1 - e.1 * n.2.2) (e.1 * n.2.1 - e.2.1 * n.1) := by
    rintro _ _ rfl rfl; exact congrArg (fun t => t.1) h
  have hv : ∀ n u, n = unitI x y z → u = (ofI x y z).1 → (v1, v2, v3) = unitI (n.2.1 * u.2.2 - n.2.2 * u.2.1) (n.2.2 * u.1 - n.1 * u.2.2) (n.1 * u.2.1 - n.2.1 * u.1) := by
    rintro _ _ rfl rfl; exact congrArg (fun t => t.2.1) h
  exact ⟨(axisI n1 n2 n3).1, (axisI n1 n2 n3).2.1, (axisI n1 n2 n3).2.2, hn, rfl, hu (n1, n2, n3) _ hn rfl, hv (n1, n2, n3) (u1, u2, u3) hn (congrArg (fun t => t.1) h)⟩
theorem of_near {x y z u1 u2 u3 v1 v2 v3 n1 n2 n3 : Int} (hx : I64 x) (hy : I64 y) (hz : I64 z) (h : ((u1, u2, u3), (v1, v2, v3), (n1, n2, n3)) = ofI x y z) : ((-16384 ≤ u1 ∧ u1 ≤ 16384) ∧ (-16384 ≤ u2 ∧ u2 ≤ 16384) ∧ (-16384 ≤ u3 ∧ u3 ≤ 16384)) ∧ ((-16384 ≤ v1 ∧ v1 ≤ 16384) ∧ (-16384 ≤ v2 ∧ v2 ≤ 16384) ∧ (-16384 ≤ v3 ∧ v3 ≤ 16384)) ∧ ((-16384 ≤ n1 ∧ n1 ≤ 16384) ∧ (-16384 ≤ n2 ∧ n2 ≤ 16384) ∧ (-16384 ≤ n3 ∧ n3 ≤ 16384)) := by
  obtain ⟨e1, e2, e3, hn, he, hu, hv⟩ := of_parts h
  have bn := PU.unit_near hx hy hz hn
  obtain ⟨c1, c2, c3⟩ := cross_i (near_a (near_e he)) (near_u bn)
  have bu := PU.unit_near c1 c2 c3 hu
  obtain ⟨d1, d2, d3⟩ := cross_i (near_u bn) (near_u bu)
  exact ⟨bu, PU.unit_near d1 d2 d3 hv, bn⟩
end PB
end Go.AW
