/- Plain laws of directions that are spread. -/
import Derived.Test.YtgajnkfaelecaaaPBasis
import Derived.Test.YtgajnkfaelecaaaPTrig
namespace Go.AW
open Go
set_option linter.unusedVariables false
def ringC (r h : Int) : Int := if 0 ≤ r ∧ r ≤ 16384 then cosI h * r / 16384 else 0
def ringS (r h : Int) : Int := if 0 ≤ r ∧ r ≤ 16384 then sinI h * r / 16384 else 0
def legsI (q : Int) : Int := rootI (268435456 - q)
def discR (u : Int) : Int := rootI (u % 65536 * 4096)
def upI (z h : Int) : Int × Int × Int := if -16384 ≤ z ∧ z ≤ 16384 then (ringC (legsI (z * z)) h, ringS (legsI (z * z)) h, z) else (0, 0, 0)
def sphI (u h : Int) : Int × Int × Int := upI (16384 - u % 65536 / 2) h
def halfV (u h : Int) : Int × Int × Int := (ringC (discR u) h, ringS (discR u) h, legsI (u % 65536 * 4096))
def outT (b : (Int × Int × Int) × (Int × Int × Int) × (Int × Int × Int)) (v : Int × Int × Int) : Int × Int × Int :=
  ((b.1.1 * v.1 + b.2.1.1 * v.2.1 + b.2.2.1 * v.2.2) / 16384, (b.1.2.1 * v.1 + b.2.1.2.1 * v.2.1 + b.2.2.2.1 * v.2.2) / 16384, (b.1.2.2 * v.1 + b.2.1.2.2 * v.2.1 + b.2.2.2.2 * v.2.2) / 16384)
def uniT (v : Int × Int × Int) : Int × Int × Int := unitI v.1 v.2.1 v.2.2
def aboutI (x y z : Int) (v : Int × Int × Int) : Int × Int × Int := if okI x y z = true then uniT (outT (ofI x y z) v) else (0, 0, 0)
def coneZ (k u : Int) : Int := 16384 - u % 65536 * (16384 - k) / 65536
def coneI (x y z k u h : Int) : Int × Int × Int := if 0 ≤ k ∧ k ≤ 16384 then aboutI x y z (upI (coneZ k u) h) else (0, 0, 0)
namespace PS
theorem legs_le {q : Int} (h : 0 ≤ q) (h' : q ≤ 268435456) : 0 ≤ legsI q ∧ legsI q ≤ 16384 := by
  have r := PN.root_I (n := 268435456 - q) (by omega) (by omega)
  refine ⟨r.pos, ?_⟩
  rcases Int.lt_or_le 16384 (legsI q) with g | g
  · have := PN.sq_le (show (0 : Int) ≤ 16385 by omega) (show 16385 ≤ rootI (268435456 - q) from g)
    have := r.le; omega
  · exact g
theorem disc_le (u : Int) : 0 ≤ discR u ∧ discR u ≤ 16384 := by
  have r := PN.root_I (n := u % 65536 * 4096) (by omega) (by omega)
  refine ⟨r.pos, ?_⟩
  rcases Int.lt_or_le 16384 (discR u) with g | g
  · have := PN.sq_le (show (0 : Int) ≤ 16385 by omega) (show 16385 ≤ rootI (u % 65536 * 4096) from g)
    have := r.le; omega
  · exact g
theorem sq_b {z : Int} (h : -16384 ≤ z ∧ z ≤ 16384) : 0 ≤ z * z ∧ z * z ≤ 268435456 := by
  have := PV.mul_le h h; have := PU.sq_nonneg z; omega
theorem mul_b {c r : Int} (hc : -16384 ≤ c ∧ c ≤ 16384) (hr : 0 ≤ r ∧ r ≤ 16384) : -268435456 ≤ c * r ∧ c * r ≤ 268435456 := by
  have := PV.mul_le hc (show -16384 ≤ r ∧ r ≤ 16384 by omega); omega
theorem ring_b (r h : Int) : (-16384 ≤ ringC r h ∧ ringC r h ≤ 16384) ∧ (-16384 ≤ ringS r h ∧ ringS r h ≤ 16384) := by
  unfold ringC ringS
  have c := PT.cos_le h; have s := PT.sin_le h
  by_cases g : 0 ≤ r ∧ r ≤ 16384
  · rw [if_pos g, if_pos g]
    have := mul_b c g; have := mul_b s g; omega
  · rw [if_neg g, if_neg g]; omega
theorem up_b (z h : Int) : (-16384 ≤ (upI z h).1 ∧ (upI z h).1 ≤ 16384) ∧ (-16384 ≤ (upI z h).2.1 ∧ (upI z h).2.1 ≤ 16384) ∧ (-16384 ≤ (upI z h).2.2 ∧ (upI z h).2.2 ≤ 16384) := by
  unfold upI; split
  · rename_i g; exact ⟨(ring_b _ _).1, (ring_b _ _).2, g⟩
  · exact ⟨by decide, by decide, by decide⟩
theorem up_near {z h p q b : Int} (e : (p, q, b) = upI z h) : (-16384 ≤ p ∧ p ≤ 16384) ∧ (-16384 ≤ q ∧ q ≤ 16384) ∧ (-16384 ≤ b ∧ b ≤ 16384) := by
  have := up_b z h; rw [← e] at this; exact this
theorem dot3_b {u v n a b c : Int} (hu : -16384 ≤ u ∧ u ≤ 16384) (hv : -16384 ≤ v ∧ v ≤ 16384) (hn : -16384 ≤ n ∧ n ≤ 16384) (ha : -16384 ≤ a ∧ a ≤ 16384) (hb : -16384 ≤ b ∧ b ≤ 16384) (hc : -16384 ≤ c ∧ c ≤ 16384) : I64 (outI true u v n a b c) := by
  have h1 := PV.mul_le hu ha; have h2 := PV.mul_le hv hb; have h3 := PV.mul_le hn hc
  show I64 ((u * a + v * b + n * c) / 16384)
  unfold I64; omega
theorem out_b {u1 u2 u3 v1 v2 v3 n1 n2 n3 a b c : Int} (hu : (-16384 ≤ u1 ∧ u1 ≤ 16384) ∧ (-16384 ≤ u2 ∧ u2 ≤ 16384) ∧ (-16384 ≤ u3 ∧ u3 ≤ 16384)) (hv : (-16384 ≤ v1 ∧ v1 ≤ 16384) ∧ (-16384 ≤ v2 ∧ v2 ≤ 16384) ∧ (-16384 ≤ v3 ∧ v3 ≤ 16384)) (hn : (-16384 ≤ n1 ∧ n1 ≤ 16384) ∧ (-16384 ≤ n2 ∧ n2 ≤ 16384) ∧ (-16384 ≤ n3 ∧ n3 ≤ 16384)) (ha : -16384 ≤ a ∧ a ≤ 16384) (hb : -16384 ≤ b ∧ b ≤ 16384) (hc : -16384 ≤ c ∧ c ≤ 16384) :
    I64 (outI true u1 v1 n1 a b c) ∧ I64 (outI true u2 v2 n2 a b c) ∧ I64 (outI true u3 v3 n3 a b c) :=
  ⟨dot3_b hu.1 hv.1 hn.1 ha hb hc, dot3_b hu.2.1 hv.2.1 hn.2.1 ha hb hc, dot3_b hu.2.2 hv.2.2 hn.2.2 ha hb hc⟩
theorem half_near {u k a b c : Int} (e : (a, b, c) = halfV u k) : (-16384 ≤ a ∧ a ≤ 16384) ∧ (-16384 ≤ b ∧ b ≤ 16384) ∧ (-16384 ≤ c ∧ c ≤ 16384) := by
  unfold halfV at e
  simp only [Prod.mk.injEq] at e
  obtain ⟨rfl, rfl, rfl⟩ := e
  have := ring_b (discR u) k
  have := legs_le (q := u % 65536 * 4096) (by omega) (by omega)
  exact ⟨by omega, by omega, by omega⟩
theorem cone_b {t u : Int} (ht : 0 ≤ t ∧ t ≤ 16384) : 0 ≤ u % 65536 * (16384 - t) ∧ u % 65536 * (16384 - t) ≤ 1073725440 := by
  have a := Int.mul_nonneg (show 0 ≤ u % 65536 by omega) (show 0 ≤ 16384 - t by omega)
  have b := Int.mul_le_mul (show u % 65536 ≤ 65535 by omega) (show 16384 - t ≤ 16384 by omega) (by omega) (by omega)
  omega
end PS
end Go.AW
namespace Go.AW
open Go
namespace PS
theorem disc_mono {u w : Int} (h0 : 0 ≤ u) (h : u ≤ w) (h1 : w < 65536) : discR u ≤ discR w := by
  have r := PN.root_I (n := u % 65536 * 4096) (by omega) (by omega)
  have q := PN.root_I (n := w % 65536 * 4096) (by omega) (by omega)
  rcases Int.lt_or_le (discR w) (discR u) with g | g
  · have := PN.sq_le (show 0 ≤ rootI (w % 65536 * 4096) + 1 by have := q.pos; omega) (show rootI (w % 65536 * 4096) + 1 ≤ rootI (u % 65536 * 4096) from g)
    have := r.le; have := q.lt; omega
  · exact g
theorem ring_0 (u : Int) : ringC (discR u) 0 = discR u ∧ ringS (discR u) 0 = 0 := by
  have b := disc_le u
  unfold ringC ringS
  rw [if_pos b, if_pos b, show cosI 0 = 16384 by decide, show sinI 0 = 0 by decide]
  omega
theorem sin_per (h : Int) : sinI (h + 65536) = sinI h := by
  unfold sinI; rw [show (h + 65536) % 65536 = h % 65536 by omega]
theorem cos_per (h : Int) : cosI (h + 65536) = cosI h := by
  unfold cosI; rw [show (h + 65536) % 65536 = h % 65536 by omega]
theorem up_per (z h : Int) : upI z (h + 65536) = upI z h := by
  unfold upI ringC ringS; rw [sin_per, cos_per]
theorem sph_per (u h : Int) : sphI (u + 65536) (h + 65536) = sphI u h := by
  unfold sphI; rw [up_per, show (u + 65536) % 65536 = u % 65536 by omega]
theorem sph_z {u h a b c : Int} (h0 : 0 ≤ u) (h1 : u < 65536) (e : (a, b, c) = sphI u h) : c = 16384 - u / 2 ∧ upI c h = (a, b, c) := by
  have e' := e
  unfold sphI at e
  rw [show u % 65536 = u by omega] at e
  have hc : c = 16384 - u / 2 := by
    unfold upI at e; rw [if_pos (by omega)] at e
    exact congrArg (fun t => t.2.2) e
  exact ⟨hc, by rw [hc]; rw [hc] at e; exact e.symm⟩
end PS
end Go.AW
