/- Plain laws of a camera. -/
import Derived.Test.YtgajnkfaelecaaaPSpread
namespace Go.AW
open Go
set_option linter.unusedVariables false
/-- the frame of a camera, by the way ahead and upward -/
def frameI (a b c x y z : Int) : (Int × Int × Int) × (Int × Int × Int) × (Int × Int × Int) × Bool :=
  let f := unitI a b c
  let r := unitI (f.2.1 * z - f.2.2 * y) (f.2.2 * x - f.1 * z) (f.1 * y - f.2.1 * x)
  let u := unitI (r.2.1 * f.2.2 - r.2.2 * f.2.1) (r.2.2 * f.1 - r.1 * f.2.2) (r.1 * f.2.1 - r.2.1 * f.1)
  if okI a b c && (okI (f.2.1 * z - f.2.2 * y) (f.2.2 * x - f.1 * z) (f.1 * y - f.2.1 * x) && okI (r.2.1 * f.2.2 - r.2.2 * f.2.1) (r.2.2 * f.1 - r.1 * f.2.2) (r.1 * f.2.1 - r.2.1 * f.1)) then (f, r, u, true) else ((0, 0, 0), (0, 0, 0), (0, 0, 0), false)
def placeB (a b c : Int) : Bool := decide ((-524288 ≤ a ∧ a ≤ 524288) ∧ (-524288 ≤ b ∧ b ≤ 524288) ∧ (-524288 ≤ c ∧ c ≤ 524288))
/-- where a pixel lies, of a way along both sides and ahead -/
def colI (K W p d : Int) : Int := divI (p * K) d + W / 2
def inB (W H x y : Int) : Bool := decide ((0 ≤ x ∧ x < W) ∧ 0 ≤ y ∧ y < H)
/-- a pixel, of a column and a row, even where there is none -/
def pixK (W H x y : Int) : Int := Z.add .i64 (Z.mul .i64 (y + H / 2) W) (x + W / 2)
/-- what is known of what sees a place -/
structure SeeP (e1 e2 e3 W H K L F p1 p2 p3 : Int) (f r g : Int × Int × Int) (fo : Bool) (k s1 s2 s3 n d : Int) (o : Bool) : Prop where
  no : o = false → k = 0 ∧ s1 = 0 ∧ s2 = 0 ∧ s3 = 0 ∧ n = 0 ∧ d = 0
  yes : o = true → (0 ≤ k ∧ k < W * H) ∧ placeB s1 s2 s3 = true ∧ n = 1073741824 ∧ d = dotI (p1 - s1) (p2 - s2) (p3 - s3) (p1 - s1) (p2 - s2) (p3 - s3) ∧ 1 ≤ dotI (p1 - s1) (p2 - s2) (p3 - s3) f.1 f.2.1 f.2.2
  nol : L = 0 → o = (fo && (decide (1 ≤ ((p1 - e1) * f.1 + (p2 - e2) * f.2.1 + (p3 - e3) * f.2.2) / 16384) && inB W H (colI K W (((p1 - e1) * r.1 + (p2 - e2) * r.2.1 + (p3 - e3) * r.2.2) / 16384) (((p1 - e1) * f.1 + (p2 - e2) * f.2.1 + (p3 - e3) * f.2.2) / 16384)) (colI K H (-(((p1 - e1) * g.1 + (p2 - e2) * g.2.1 + (p3 - e3) * g.2.2) / 16384)) (((p1 - e1) * f.1 + (p2 - e2) * f.2.1 + (p3 - e3) * f.2.2) / 16384)))) ∧
    (o = true → (s1 = e1 ∧ s2 = e2 ∧ s3 = e3) ∧ k = colI K H (-(((p1 - e1) * g.1 + (p2 - e2) * g.2.1 + (p3 - e3) * g.2.2) / 16384)) (((p1 - e1) * f.1 + (p2 - e2) * f.2.1 + (p3 - e3) * f.2.2) / 16384) * W + colI K W (((p1 - e1) * r.1 + (p2 - e2) * r.2.1 + (p3 - e3) * r.2.2) / 16384) (((p1 - e1) * f.1 + (p2 - e2) * f.2.1 + (p3 - e3) * f.2.2) / 16384))
namespace PL
theorem pix_in {W H x y : Int} (hW : 1 ≤ W ∧ W ≤ 256) (hH : 1 ≤ H ∧ H ≤ 256) (h : inB W H (x + W / 2) (y + H / 2) = true) : pixK W H x y = (y + H / 2) * W + (x + W / 2) ∧ 0 ≤ pixK W H x y ∧ pixK W H x y < W * H := by
  have g := of_decide_eq_true h
  have m := PV.mul_le (a := y + H / 2) (b := W) (A := 256) (B := 256) (by omega) (by omega)
  have e : pixK W H x y = (y + H / 2) * W + (x + W / 2) := by
    unfold pixK
    rw [show Z.mul .i64 (y + H / 2) W = (y + H / 2) * W from Z.wrap_iid (by omega) (by omega)]
    exact Z.wrap_iid (by omega) (by omega)
  rw [e]
  have m1 := Int.mul_nonneg g.2.1 (show 0 ≤ W by omega)
  have m2 := Int.mul_le_mul_of_nonneg_right (show y + H / 2 ≤ H - 1 by omega) (show 0 ≤ W by omega)
  have e2 : (H - 1) * W = W * H - W := by grind
  exact ⟨rfl, by omega, by omega⟩
theorem div_b {A t m : Int} (hm : 1 ≤ m) (hA : 0 ≤ A) (ht : -A ≤ t ∧ t ≤ A) : -A ≤ divI t m ∧ divI t m ≤ A := by
  unfold divI; rw [if_neg (by omega)]
  have := Int.mul_le_mul_of_nonneg_left hm hA
  exact ⟨Int.le_ediv_of_mul_le (by omega) (by rw [Int.neg_mul]; omega), Int.ediv_le_of_le_mul (by omega) (by omega)⟩
theorem place_iff {a b c : Int} : placeB a b c = true ↔ ((-524288 ≤ a ∧ a ≤ 524288) ∧ (-524288 ≤ b ∧ b ≤ 524288) ∧ (-524288 ≤ c ∧ c ≤ 524288)) := by unfold placeB; rw [decide_eq_true_iff]
theorem place_and (a b c : Int) : placeB a b c = (decide (-524288 ≤ a ∧ a ≤ 524288) && (decide (-524288 ≤ b ∧ b ≤ 524288) && decide (-524288 ≤ c ∧ c ≤ 524288))) := by
  unfold placeB; rw [← Bool.decide_and, ← Bool.decide_and]
theorem place_mm (a b c : Int) : placeB a b c = (decide (mmI true (mmI true a b) c ≤ 524288) && decide (mmI false (mmI false a b) c ≥ -524288)) := by
  have h1 := mx_spec a b
  generalize mmI true a b = m at *
  have h2 := mx_spec m c
  generalize mmI true m c = M at *
  have h3 := mn_spec a b
  generalize mmI false a b = k at *
  have h4 := mn_spec k c
  generalize mmI false k c = K at *
  unfold placeB
  rw [← Bool.decide_and]
  exact decide_eq_decide.2 (by omega)
theorem fr1 {a b c x y z : Int} (h : okI a b c = false) : frameI a b c x y z = ((0, 0, 0), (0, 0, 0), (0, 0, 0), false) := by
  unfold frameI; simp only [h]; rfl
theorem fr2 {a b c x y z f1 f2 f3 : Int} (hf : (f1, f2, f3) = unitI a b c) (h : okI (f2 * z - f3 * y) (f3 * x - f1 * z) (f1 * y - f2 * x) = false) : frameI a b c x y z = ((0, 0, 0), (0, 0, 0), (0, 0, 0), false) := by
  unfold frameI; simp only [← hf, h]; rw [Bool.false_and, Bool.and_false]; rfl
theorem fr3 {a b c x y z f1 f2 f3 r1 r2 r3 : Int} (hf : (f1, f2, f3) = unitI a b c) (hr : (r1, r2, r3) = unitI (f2 * z - f3 * y) (f3 * x - f1 * z) (f1 * y - f2 * x)) (h : okI (r2 * f3 - r3 * f2) (r3 * f1 - r1 * f3) (r1 * f2 - r2 * f1) = false) : frameI a b c x y z = ((0, 0, 0), (0, 0, 0), (0, 0, 0), false) := by
  unfold frameI; simp only [← hf, ← hr, h]; rw [Bool.and_false, Bool.and_false]; rfl
theorem fr4 {a b c x y z f1 f2 f3 r1 r2 r3 g1 g2 g3 : Int} (hf : (f1, f2, f3) = unitI a b c) (hr : (r1, r2, r3) = unitI (f2 * z - f3 * y) (f3 * x - f1 * z) (f1 * y - f2 * x)) (hg : (g1, g2, g3) = unitI (r2 * f3 - r3 * f2) (r3 * f1 - r1 * f3) (r1 * f2 - r2 * f1))
    (h1 : okI a b c = true) (h2 : okI (f2 * z - f3 * y) (f3 * x - f1 * z) (f1 * y - f2 * x) = true) (h3 : okI (r2 * f3 - r3 * f2) (r3 * f1 - r1 * f3) (r1 * f2 - r2 * f1) = true) : ((f1, f2, f3), (r1, r2, r3), (g1, g2, g3), true) = frameI a b c x y z := by
  unfold frameI; simp only [← hf, ← hr, ← hg, h1, h2, h3]; rfl
theorem frame_b {a b c x y z f1 f2 f3 r1 r2 r3 g1 g2 g3 : Int} {o : Bool} (h1 : nearI a b c = true) (h2 : nearI x y z = true) (h : ((f1, f2, f3), (r1, r2, r3), (g1, g2, g3), o) = frameI a b c x y z) :
    ((-16384 ≤ f1 ∧ f1 ≤ 16384) ∧ (-16384 ≤ f2 ∧ f2 ≤ 16384) ∧ (-16384 ≤ f3 ∧ f3 ≤ 16384)) ∧ ((-16384 ≤ r1 ∧ r1 ≤ 16384) ∧ (-16384 ≤ r2 ∧ r2 ≤ 16384) ∧ (-16384 ≤ r3 ∧ r3 ≤ 16384)) ∧ ((-16384 ≤ g1 ∧ g1 ≤ 16384) ∧ (-16384 ≤ g2 ∧ g2 ≤ 16384) ∧ (-16384 ≤ g3 ∧ g3 ≤ 16384)) := by
  obtain ⟨⟨F1, F2, F3⟩, eF⟩ : ∃ t : Int × Int × Int, t = unitI a b c := ⟨_, rfl⟩
  obtain ⟨i1, i2, i3⟩ := PB.near_I h1
  have bF := PU.unit_near i1 i2 i3 eF
  obtain ⟨⟨R1, R2, R3⟩, eR⟩ : ∃ t : Int × Int × Int, t = unitI (F2 * z - F3 * y) (F3 * x - F1 * z) (F1 * y - F2 * x) := ⟨_, rfl⟩
  obtain ⟨j1, j2, j3⟩ := PB.cross_i (PB.near_u bF) h2
  have bR := PU.unit_near j1 j2 j3 eR
  obtain ⟨⟨G1, G2, G3⟩, eG⟩ : ∃ t : Int × Int × Int, t = unitI (R2 * F3 - R3 * F2) (R3 * F1 - R1 * F3) (R1 * F2 - R2 * F1) := ⟨_, rfl⟩
  obtain ⟨k1, k2, k3⟩ := PB.cross_i (PB.near_u bR) (PB.near_u bF)
  have bG := PU.unit_near k1 k2 k3 eG
  unfold frameI at h
  simp only [← eF, ← eR, ← eG] at h
  split at h
  · simp only [Prod.mk.injEq] at h
    obtain ⟨⟨rfl, rfl, rfl⟩, ⟨rfl, rfl, rfl⟩, ⟨rfl, rfl, rfl⟩, _⟩ := h
    exact ⟨bF, bR, bG⟩
  · simp only [Prod.mk.injEq] at h
    obtain ⟨⟨rfl, rfl, rfl⟩, ⟨rfl, rfl, rfl⟩, ⟨rfl, rfl, rfl⟩, _⟩ := h
    omega
theorem dot16_b {x y z a b c : Int} (hx : -1048576 ≤ x ∧ x ≤ 1048576) (hy : -1048576 ≤ y ∧ y ≤ 1048576) (hz : -1048576 ≤ z ∧ z ≤ 1048576) (ha : -16384 ≤ a ∧ a ≤ 16384) (hb : -16384 ≤ b ∧ b ≤ 16384) (hc : -16384 ≤ c ∧ c ≤ 16384) : -3145728 ≤ (x * a + y * b + z * c) / 16384 ∧ (x * a + y * b + z * c) / 16384 ≤ 3145728 := by
  have := PV.mul_le hx ha; have := PV.mul_le hy hb; have := PV.mul_le hz hc
  omega
end PL
end Go.AW
