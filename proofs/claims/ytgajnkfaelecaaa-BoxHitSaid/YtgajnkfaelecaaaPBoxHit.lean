/- Plain laws of rays and boxes. -/
import Derived.Test.YtgajnkfaelecaaaPBox
namespace Go.AW
open Go
set_option linter.unusedVariables false
/-- is there a time from 0 on, at most mn / md (where this may be), when a ray is in a box? -/
def HitE (l : List (Int × Int × Int × Int)) (mn md : Int) : Prop := ∃ n d : Int, 0 < d ∧ 0 ≤ n ∧ (md > 0 → n * md ≤ mn * d) ∧ ∀ x ∈ l, x.1 * d ≤ x.2.2.1 * d + n * x.2.2.2 ∧ x.2.2.1 * d + n * x.2.2.2 ≤ x.2.1 * d
def szI (d : Int) : Int := if d < 0 then -d else d
def fromX (lo hi o d : Int) : Int := if d < 0 then o - hi else lo - o
def toX (lo hi o d : Int) : Int := if d < 0 then o - lo else hi - o
structure LowR (l : List (Int × Int × Int × Int)) (ln ld : Int) : Prop where
  pos : 0 < ld
  nn : 0 ≤ ln
  up : ∀ x ∈ l, x.2.2.2 ≠ 0 → fromX x.1 x.2.1 x.2.2.1 x.2.2.2 * ld ≤ ln * szI x.2.2.2
  lub : ∀ n d : Int, 0 < d → 0 ≤ n → (∀ x ∈ l, x.2.2.2 ≠ 0 → fromX x.1 x.2.1 x.2.2.1 x.2.2.2 * d ≤ n * szI x.2.2.2) → ln * d ≤ n * ld
structure HighR (l : List (Int × Int × Int × Int)) (mn md hn hd : Int) : Prop where
  none : hd ≤ 0 → md ≤ 0 ∧ ∀ x ∈ l, x.2.2.2 = 0
  most : 0 < hd → md > 0 → hn * md ≤ mn * hd
  down : 0 < hd → ∀ x ∈ l, x.2.2.2 ≠ 0 → hn * szI x.2.2.2 ≤ toX x.1 x.2.1 x.2.2.1 x.2.2.2 * hd
  glb : 0 < hd → ∀ n d : Int, 0 < d → (md > 0 → n * md ≤ mn * d) → (∀ x ∈ l, x.2.2.2 ≠ 0 → n * szI x.2.2.2 ≤ toX x.1 x.2.1 x.2.2.1 x.2.2.2 * d) → n * hd ≤ hn * d
namespace PB
theorem size_pos {d : Int} (h : d ≠ 0) : 0 < szI d := by unfold szI; split <;> omega
theorem le_tr {a b c d e f : Int} (hb : 0 < b) (hd : 0 < d) (hf : 0 < f) (h1 : a * d ≤ c * b) (h2 : c * f ≤ e * d) : a * f ≤ e * b := by
  have a1 := Int.mul_le_mul_of_nonneg_right h1 (Int.le_of_lt hf)
  have a2 := Int.mul_le_mul_of_nonneg_right h2 (Int.le_of_lt hb)
  have e1 : a * d * f = a * f * d := by rw [Int.mul_assoc, Int.mul_comm d f, ← Int.mul_assoc]
  have e2 : c * b * f = c * f * b := by rw [Int.mul_assoc, Int.mul_comm b f, ← Int.mul_assoc]
  have e3 : e * d * b = e * b * d := by rw [Int.mul_assoc, Int.mul_comm d b, ← Int.mul_assoc]
  exact Int.le_of_mul_le_mul_right (a := d) (by omega) hd
theorem low0 : LowR [] 0 1 := ⟨by omega, by omega, by simp, fun n d h1 h2 _ => by omega⟩
theorem high0 (mn md : Int) : HighR [] mn md mn md := ⟨fun h => ⟨h, by simp⟩, fun _ _ => Int.le_refl _, by simp, fun h n d h1 h2 _ => h2 h⟩
theorem low_skip {l : List (Int × Int × Int × Int)} {ln ld lo hi o d : Int} (h : LowR l ln ld) (hd : d = 0) : LowR (l ++ [(lo, hi, o, d)]) ln ld := by
  subst hd
  refine ⟨h.pos, h.nn, fun x hx hd => ?_, fun n d h1 h2 h3 => h.lub n d h1 h2 fun x hx => h3 x (by simp [hx])⟩
  rw [List.mem_append, List.mem_singleton] at hx
  rcases hx with hx | rfl
  · exact h.up x hx hd
  · exact absurd rfl hd
theorem high_skip {l : List (Int × Int × Int × Int)} {mn md hn hd lo hi o d : Int} (h : HighR l mn md hn hd) (hd0 : d = 0) : HighR (l ++ [(lo, hi, o, d)]) mn md hn hd := by
  subst hd0
  refine ⟨fun g => ⟨(h.none g).1, fun x hx => ?_⟩, h.most, fun g x hx hd => ?_, fun g n d h1 h2 h3 => h.glb g n d h1 h2 fun x hx => h3 x (by simp [hx])⟩
  · rw [List.mem_append, List.mem_singleton] at hx
    rcases hx with hx | rfl
    · exact (h.none g).2 x hx
    · rfl
  · rw [List.mem_append, List.mem_singleton] at hx
    rcases hx with hx | rfl
    · exact h.down g x hx hd
    · exact absurd rfl hd
/-- the lower end keeps, or is taken by the axis -/
theorem low_step {l : List (Int × Int × Int × Int)} {ln ld lo hi o d : Int} (h : LowR l ln ld) (hd : d ≠ 0) :
    (¬ ln * szI d < fromX lo hi o d * ld → LowR (l ++ [(lo, hi, o, d)]) ln ld) ∧ (ln * szI d < fromX lo hi o d * ld → LowR (l ++ [(lo, hi, o, d)]) (fromX lo hi o d) (szI d)) := by
  have sp := size_pos hd
  refine ⟨fun g => ⟨h.pos, h.nn, fun x hx hx0 => ?_, fun n e h1 h2 h3 => h.lub n e h1 h2 fun x hx => h3 x (by simp [hx])⟩, fun g => ⟨sp, ?_, fun x hx hx0 => ?_, fun n e h1 h2 h3 => h3 (lo, hi, o, d) (by simp) hd⟩⟩
  · rw [List.mem_append, List.mem_singleton] at hx
    rcases hx with hx | rfl
    · exact h.up x hx hx0
    · show fromX lo hi o d * ld ≤ ln * szI d; omega
  · have := Int.mul_nonneg h.nn (Int.le_of_lt sp)
    rcases Int.lt_or_le (fromX lo hi o d) 0 with q | q
    · have := Int.mul_neg_of_neg_of_pos q h.pos; omega
    · exact q
  · rw [List.mem_append, List.mem_singleton] at hx
    rcases hx with hx | rfl
    · exact le_tr (size_pos hx0) h.pos sp (h.up x hx hx0) (by omega)
    · exact Int.le_refl _
theorem high_step {l : List (Int × Int × Int × Int)} {mn md hn hd lo hi o d : Int} (h : HighR l mn md hn hd) (hd0 : d ≠ 0) :
    (0 < hd → ¬ toX lo hi o d * hd < hn * szI d → HighR (l ++ [(lo, hi, o, d)]) mn md hn hd) ∧ (hd ≤ 0 ∨ toX lo hi o d * hd < hn * szI d → HighR (l ++ [(lo, hi, o, d)]) mn md (toX lo hi o d) (szI d)) := by
  have sp := size_pos hd0
  refine ⟨fun g1 g => ⟨fun q => by omega, h.most, fun q x hx hx0 => ?_, fun q n e h1 h2 h3 => h.glb q n e h1 h2 fun x hx => h3 x (by simp [hx])⟩, fun g => ⟨fun q => by omega, fun q m => ?_, fun q x hx hx0 => ?_, fun q n e h1 h2 h3 => h3 (lo, hi, o, d) (by simp) hd0⟩⟩
  · rw [List.mem_append, List.mem_singleton] at hx
    rcases hx with hx | rfl
    · exact h.down q x hx hx0
    · show hn * szI d ≤ toX lo hi o d * hd; omega
  · rcases Int.lt_or_le 0 hd with p | p
    · exact le_tr sp p m (by omega) (h.most p m)
    · have := (h.none p).1; omega
  · rw [List.mem_append, List.mem_singleton] at hx
    rcases hx with hx | rfl
    · rcases Int.lt_or_le 0 hd with p | p
      · exact le_tr sp p (size_pos hx0) (by omega) (h.down p x hx hx0)
      · exact absurd ((h.none p).2 x hx) hx0
    · exact Int.le_refl _
theorem axis_iff {lo hi o d n e : Int} (hd : d ≠ 0) : (fromX lo hi o d * e ≤ n * szI d ∧ n * szI d ≤ toX lo hi o d * e) ↔ (lo * e ≤ o * e + n * d ∧ o * e + n * d ≤ hi * e) := by
  unfold fromX toX szI
  split
  · rw [Int.sub_mul, Int.sub_mul, Int.mul_neg]; omega
  · rw [Int.sub_mul, Int.sub_mul]; omega
theorem hit_of {l : List (Int × Int × Int × Int)} {mn md ln ld hn hd : Int} (hl : LowR l ln ld) (hh : HighR l mn md hn hd) (hz : ∀ x ∈ l, x.2.2.2 = 0 → x.1 ≤ x.2.2.1 ∧ x.2.2.1 ≤ x.2.1) :
    (¬ (0 < hd ∧ hn * ld < ln * hd)) ↔ HitE l mn md := by
  have z0 : ∀ x ∈ l, x.2.2.2 = 0 → ∀ n d : Int, 0 < d → x.1 * d ≤ x.2.2.1 * d + n * x.2.2.2 ∧ x.2.2.1 * d + n * x.2.2.2 ≤ x.2.1 * d := by
    intro x hx h0 n d hd
    obtain ⟨a, b⟩ := hz x hx h0
    have a1 := Int.mul_le_mul_of_nonneg_right a (Int.le_of_lt hd)
    have b1 := Int.mul_le_mul_of_nonneg_right b (Int.le_of_lt hd)
    rw [h0]; omega
  constructor
  · intro g
    rcases Int.lt_or_le 0 hd with p | p
    · have g : ln * hd ≤ hn * ld := by
        rcases Int.lt_or_le (hn * ld) (ln * hd) with q | q
        · exact absurd ⟨p, q⟩ g
        · exact q
      refine ⟨ln, ld, hl.pos, hl.nn, fun m => le_tr hl.pos p m g (hh.most p m), fun x hx => ?_⟩
      by_cases h0 : x.2.2.2 = 0
      · exact z0 x hx h0 ln ld hl.pos
      · exact (axis_iff h0).1 ⟨hl.up x hx h0, le_tr hl.pos p (size_pos h0) g (hh.down p x hx h0)⟩
    · obtain ⟨m0, all0⟩ := hh.none p
      exact ⟨0, 1, by omega, by omega, fun m => by omega, fun x hx => z0 x hx (all0 x hx) 0 1 (by omega)⟩
  · rintro ⟨n, d, h1, h2, h3, h4⟩ ⟨p, q⟩
    have a := hl.lub n d h1 h2 fun x hx h0 => ((axis_iff h0).2 (h4 x hx)).1
    have b := hh.glb p n d h1 h3 fun x hx h0 => ((axis_iff h0).2 (h4 x hx)).2
    have c := le_tr hl.pos h1 p a b
    omega
theorem hit_zero {l : List (Int × Int × Int × Int)} {mn md lo hi o d : Int} (h : HitE l mn md) (hx : (lo, hi, o, d) ∈ l) (hd : d = 0) : lo ≤ o ∧ o ≤ hi := by
  obtain ⟨n, e, h1, _, _, h4⟩ := h
  have := h4 _ hx
  simp only [hd, Int.mul_zero, Int.add_zero] at this
  exact ⟨Int.le_of_mul_le_mul_right this.1 h1, Int.le_of_mul_le_mul_right this.2 h1⟩
theorem sz_b {d : Int} (h : -1048576 ≤ d ∧ d ≤ 1048576) : 0 ≤ szI d ∧ szI d ≤ 1048576 := by unfold szI; split <;> omega
theorem from_b {lo hi o d : Int} (h1 : -1048576 ≤ lo ∧ lo ≤ 1048576) (h2 : -1048576 ≤ hi ∧ hi ≤ 1048576) (h3 : -1048576 ≤ o ∧ o ≤ 1048576) : (-2097152 ≤ fromX lo hi o d ∧ fromX lo hi o d ≤ 2097152) ∧ (-2097152 ≤ toX lo hi o d ∧ toX lo hi o d ≤ 2097152) := by unfold fromX toX; split <;> omega
theorem less_iff {n d m e : Int} : decide (heldF n d m e < 0) = true ↔ 0 < d ∧ 0 < e ∧ n * e < m * d := by
  rw [decide_eq_true_iff]
  unfold heldF
  split
  · rename_i g
    unfold cmp3
    split <;> (try split) <;> omega
  · omega
end PB
end Go.AW
