/- Part of the proof of a law of the seat: its functions, walked. No condition. -/
import Derived.Test.YtoeafkgnhebbjaaA4Law01
import Derived.Test.YtoeafkgnhebbjaaPTone
namespace Go.AW.A4
open Go Go.AW Go.Proofs
set_option maxRecDepth 100000
set_option linter.unusedVariables false
theorem white {own : Bool} {e : TypeId} {rows : List (List Int)} {i : Nat} {s : List Ob} (hs : s[i]? = some (.row own e K3 rows)) (hl : rows.length ≤ 9223372036854775807) {Q : AV → List Ob → Prop} (h : ∀ v, v = whiteI rows → Q (.int .u64 v) s) : AC Try.prog 28 [.sl i 0 rows.length none] s Q := by
  refine AC_read (args' := [.sl 0 0 rows.length none]) (L := [.row own e K3 rows]) [i] (by simp) rfl rfl (by rintro (_ | i') j ob h1 h2 <;> simp at h1 h2; subst h1 h2; exact hs) ?_
  refine AC_body tok 0 Try.func28 rfl (by kernel_rfl) ?_
  conv => whnf
  refine ALs.invD (ι := Int × Int) tok 4 [true, true, true, true, false, false, false, false, true, true, true] (fun (i, w) => 0 ≤ i ∧ i ≤ rows.length ∧ w = upto whiteS 0 rows i) (fun (i, _) => ((rows.length : Int) - i).toNat)
    (fun (i, w) => [.sl 0 0 rows.length none, .junk, .int .u64 0, .int .u64 w, .junk, .junk, .junk, .junk, .sl 0 0 rows.length none, .int .i64 rows.length, .int .i64 i] ++ junks 13) (fun _ => [.row own e K3 rows]) (fun _ => ()) (0, 0) ⟨by omega, by omega, rfl⟩ (by rfl) ⟨[], rfl⟩ rfl (fun _ => Nat.le_refl _) (fun _ => rfl) ?_
  rintro ⟨i, w⟩ ⟨i1, i2, i3⟩
  conv => whnf
  refine ifP (fun d => ?_) (fun d => ?_)
  · have d : i < rows.length := d
    conv => whnf
    refine andI (by simp [i1, d]) ?_
    conv => whnf
    refine andP (by omega) ?_
    conv => whnf
    rw [show 0 + i.toNat = i.toNat by omega]
    have e1 : Z.add .i64 i 1 = i + 1 := Z.wrap_iid (by omega) (by omega)
    refine ⟨(Z.add .i64 i 1, whiteS w (rows.getD i.toNat [])), [_], rfl, rfl, rfl, ?_, ?_⟩
    · show (rows.length - Z.add .i64 i 1).toNat < (rows.length - i).toNat; rw [e1]; omega
    · show 0 ≤ Z.add .i64 i 1 ∧ Z.add .i64 i 1 ≤ rows.length ∧ _ = upto whiteS 0 rows (Z.add .i64 i 1)
      rw [e1, upto_step whiteS 0 [] rows i1 d, i3]; exact ⟨by omega, by omega, rfl⟩
  · conv => whnf
    have d : ¬ i < rows.length := d
    refine AWs.go tok 0 ?_
    conv => whnf
    exact ⟨rfl, rfl, h _ (by rw [i3, upto_all _ _ _ (by omega)]; rfl)⟩
theorem whiteR {own : Bool} {e : TypeId} {rows : List (List Int)} {i : Nat} {s : List Ob} (hs : s[i]? = some (.row own e K3 rows)) (hl : rows.length ≤ 9223372036854775807) {Q : AV → List Ob → Prop} (h : ∀ v, v = whiteI rows → Q (.int .u64 v) s) : AC Try.prog 32 [.sl i 0 rows.length none] s Q := by
  refine AC_read (args' := [.sl 0 0 rows.length none]) (L := [.row own e K3 rows]) [i] (by simp) rfl rfl (by rintro (_ | i') j ob h1 h2 <;> simp at h1 h2; subst h1 h2; exact hs) ?_
  refine AC_body tok 0 Try.func32 rfl (by kernel_rfl) ?_
  conv => whnf
  refine ALs.invD (ι := Int × Int) tok 4 (keepN 5) (fun (i, w) => 0 ≤ i ∧ i ≤ rows.length ∧ w = upto whiteS 0 rows i) (fun (i, _) => ((rows.length : Int) - i).toNat)
    (fun (i, w) => [.sl 0 0 rows.length none, .junk, .int .u64 0, .int .u64 w, .int .i64 i] ++ junks 24) (fun _ => [.row own e K3 rows]) (fun _ => ()) (0, 0) ⟨by omega, by omega, rfl⟩ (by rfl) ⟨[], rfl⟩ rfl (fun _ => Nat.le_refl _) (fun _ => rfl) ?_
  rintro ⟨i, w⟩ ⟨i1, i2, i3⟩
  conv => whnf
  refine ifP (fun d => ?_) (fun d => ?_)
  · have d : i < rows.length := d
    conv => whnf
    refine AW_draw tok hP ?_
    conv => whnf
    repeat (first | (refine andI (by simp [i1, d]) ?_; conv => whnf) | (refine andP (by omega) ?_; conv => whnf))
    refine ⟨⟨by cases own <;> kernel_rfl⟩, ?_⟩
    conv => whnf
    rw [show 0 + i.toNat = i.toNat by omega]
    have e1 : Z.add .i64 i 1 = i + 1 := Z.wrap_iid (by omega) (by omega)
    refine ⟨(Z.add .i64 i 1, whiteS w (rows.getD i.toNat [])), [], rfl, rfl, rfl, ?_, ?_⟩
    · show (rows.length - Z.add .i64 i 1).toNat < (rows.length - i).toNat; rw [e1]; omega
    · show 0 ≤ Z.add .i64 i 1 ∧ Z.add .i64 i 1 ≤ rows.length ∧ _ = upto whiteS 0 rows (Z.add .i64 i 1)
      rw [e1, upto_step whiteS 0 [] rows i1 d, i3]; exact ⟨by omega, by omega, rfl⟩
  · conv => whnf
    have d : ¬ i < rows.length := d
    refine AWs.go tok 0 ?_
    conv => whnf
    exact ⟨rfl, rfl, h _ (by rw [i3, upto_all _ _ _ (by omega)]; rfl)⟩
theorem total {own : Bool} {e : TypeId} {rows : List (List Int)} {i : Nat} {s : List Ob} (hs : s[i]? = some (.row own e K3 rows)) (hl : rows.length ≤ 1000000) (hf : ∀ r ∈ rows, FitU r) {Q : AV → List Ob → Prop} (h : ∀ a b, a = sumI rows / 18446744073709551616 → b = sumI rows % 18446744073709551616 → Q (.tup [.int .u64 a, .int .u64 b]) s) : AC Try.prog 44 [.sl i 0 rows.length none] s Q := by
  refine AC_read (args' := [.sl 0 0 rows.length none]) (L := [.row own e K3 rows]) [i] (by simp) rfl rfl (by rintro (_ | i') j ob h1 h2 <;> simp at h1 h2; subst h1 h2; exact hs) ?_
  refine AC_body tok 0 Try.func44 rfl (by kernel_rfl) ?_
  conv => whnf
  refine ALs.invD (ι := Int × Int × Int × Int) tok 4 [true, true, true, true, true, true, true, false, false, false, false, true, true, true] (fun (i, hi, lo, c) => 0 ≤ i ∧ i ≤ rows.length ∧ hi * 18446744073709551616 + lo = upto sumS 0 rows i ∧ 0 ≤ lo ∧ lo < 18446744073709551616 ∧ 0 ≤ hi ∧ hi ≤ 3 * i) (fun (i, _) => ((rows.length : Int) - i).toNat)
    (fun (i, hi, lo, c) => [.sl 0 0 rows.length none, .junk, .int .u64 0, .int .u64 0, .int .u64 hi, .int .u64 lo, .int .u64 c, .junk, .junk, .junk, .junk, .sl 0 0 rows.length none, .int .i64 rows.length, .int .i64 i] ++ junks 20) (fun _ => [.row own e K3 rows]) (fun _ => ()) (0, 0, 0, 0) ⟨by omega, by omega, rfl, by omega, by omega, by omega, by omega⟩ (by rfl) ⟨[], rfl⟩ rfl (fun _ => Nat.le_refl _) (fun _ => rfl) ?_
  rintro ⟨i, hi, lo, c⟩ ⟨i1, i2, i3, i4, i5, i6, i7⟩
  conv => whnf
  refine ifP (fun d => ?_) (fun d => ?_)
  · have d : i < rows.length := d
    conv => whnf
    refine andI (by simp [i1, d]) ?_
    conv => whnf
    refine andP (by omega) ?_
    conv => whnf
    rw [show 0 + i.toNat = i.toNat by omega]
    have rr : FitU (rows.getD i.toNat []) := hf _ (getD_mem (by omega) [])
    obtain ⟨a0, a1, b0, b1, d0, d1⟩ := rr
    refine add64 i4 a0 (by omega) (by omega) (fun v1 u1 hv1 hu1 => ?_)
    conv => whnf
    refine add64 (by omega) b0 (by omega) (by omega) (fun v2 u2 hv2 hu2 => ?_)
    conv => whnf
    refine add64 (by omega) d0 (by omega) (by omega) (fun v3 u3 hv3 hu3 => ?_)
    conv => whnf
    have e1 : Z.add .i64 i 1 = i + 1 := Z.wrap_iid (by omega) (by omega)
    have e2 : Z.add .u64 (Z.add .u64 (Z.add .u64 hi u1) u2) u3 = hi + u1 + u2 + u3 := by
      have a1 : Z.add .u64 hi u1 = hi + u1 := Z.wrap_uid (by omega) (by omega)
      have a2 : Z.add .u64 (hi + u1) u2 = hi + u1 + u2 := Z.wrap_uid (by omega) (by omega)
      rw [a1, a2]; exact Z.wrap_uid (by omega) (by omega)
    have e3 := upto_step sumS 0 [] rows i1 d
    rw [← i3] at e3
    have e3 : upto sumS 0 rows (i + 1) = hi * 18446744073709551616 + lo + c0 (rows.getD i.toNat []) + c1 (rows.getD i.toNat []) + c2 (rows.getD i.toNat []) := e3
    refine ⟨(Z.add .i64 i 1, Z.add .u64 (Z.add .u64 (Z.add .u64 hi u1) u2) u3, v3, u3), [_], rfl, rfl, rfl, ?_, ?_⟩
    · show (rows.length - Z.add .i64 i 1).toNat < (rows.length - i).toNat; rw [e1]; omega
    · show 0 ≤ Z.add .i64 i 1 ∧ Z.add .i64 i 1 ≤ rows.length ∧ Z.add .u64 (Z.add .u64 (Z.add .u64 hi u1) u2) u3 * 18446744073709551616 + v3 = upto sumS 0 rows (Z.add .i64 i 1) ∧ 0 ≤ v3 ∧ v3 < 18446744073709551616 ∧ 0 ≤ Z.add .u64 (Z.add .u64 (Z.add .u64 hi u1) u2) u3 ∧ Z.add .u64 (Z.add .u64 (Z.add .u64 hi u1) u2) u3 ≤ 3 * Z.add .i64 i 1
      rw [e1, e2, e3]; omega
  · conv => whnf
    have d : ¬ i < rows.length := d
    refine AWs.go tok 0 ?_
    conv => whnf
    rw [upto_all _ _ _ (by omega)] at i3
    have i3 : hi * 18446744073709551616 + lo = sumI rows := i3
    exact ⟨rfl, rfl, h _ _ (by omega) (by omega)⟩
theorem sum {own : Bool} {e : TypeId} {rows : List (List Int)} {i : Nat} {s : List Ob} (hs : s[i]? = some (.row own e K3 rows)) (hl : rows.length ≤ 1000000) (hf : ∀ r ∈ rows, FitU r) {Q : AV → List Ob → Prop} (h : ∀ a b, a = (if sumI rows < 18446744073709551616 then sumI rows else 0) → b = decide (sumI rows < 18446744073709551616) → Q (.tup [.int .u64 a, .bool b]) s) : AC Try.prog 27 [.sl i 0 rows.length none] s Q := by
  refine AC_read (args' := [.sl 0 0 rows.length none]) (L := [.row own e K3 rows]) [i] (by simp) rfl rfl (by rintro (_ | i') j ob h1 h2 <;> simp at h1 h2; subst h1 h2; exact hs) ?_
  refine AC_body tok 0 Try.func27 rfl (by kernel_rfl) ?_
  conv => whnf
  refine total rfl hl hf (fun a b ha hb => ?_)
  have h0 := sumI_pos hf
  conv => whnf
  refine ifP (fun d => ?_) (fun d => ?_)
  · have d : a > 0 := d
    conv => whnf
    exact ⟨rfl, rfl, h _ _ (by rw [if_neg (by omega)]) (by rw [decide_eq_false (by omega)])⟩
  · have d : ¬ a > 0 := d
    conv => whnf
    exact ⟨rfl, rfl, h _ _ (by rw [if_pos (by omega)]; omega) (by rw [decide_eq_true (by omega)])⟩
theorem mean {own : Bool} {e : TypeId} {rows : List (List Int)} {i : Nat} {s : List Ob} (hs : s[i]? = some (.row own e K3 rows)) (hl : rows.length ≤ 1000000) (hf : ∀ r ∈ rows, FitU r) {Q : AV → List Ob → Prop} (h : ∀ a, a = (if rows.length = 0 then 0 else sumI rows / (3 * rows.length)) → Q (.int .u64 a) s) : AC Try.prog 26 [.sl i 0 rows.length none] s Q := by
  refine AC_read (args' := [.sl 0 0 rows.length none]) (L := [.row own e K3 rows]) [i] (by simp) rfl rfl (by rintro (_ | i') j ob h1 h2 <;> simp at h1 h2; subst h1 h2; exact hs) ?_
  refine AC_body tok 0 Try.func26 rfl (by kernel_rfl) ?_
  conv => whnf
  have e0 : IntKind.u64.wrap (Z.mul .i64 3 (rows.length : Int)) = 3 * rows.length := by
    have : Z.mul .i64 3 (rows.length : Int) = 3 * rows.length := Z.wrap_iid (by omega) (by omega)
    rw [this]; exact Z.wrap_uid (by omega) (by omega)
  by_cases k : rows.length = 0
  · refine ifT (by rw [e0]; simp [k]) ?_
    conv => whnf
    exact ⟨rfl, rfl, h _ (by rw [if_pos k])⟩
  · refine ifF (by rw [e0, beq_eq_false_iff_ne]; omega) ?_
    conv => whnf
    refine total rfl hl hf (fun a b ha hb => ?_)
    have h0 := sumI_pos hf
    have h1 := sumI_hi hf
    conv => whnf
    rw [e0]
    refine div64 (by omega) (by omega) (by omega) (by omega) (by omega) (fun q r hq hr => ?_)
    conv => whnf
    exact ⟨rfl, rfl, h _ (by rw [if_neg k, hq]; congr 1; omega)⟩
theorem sumR {own : Bool} {e : TypeId} {rows : List (List Int)} {i : Nat} {s : List Ob} (hs : s[i]? = some (.row own e K3 rows)) (hl : rows.length ≤ 1000000) (hf : ∀ r ∈ rows, FitU r) {Q : AV → List Ob → Prop} (h : ∀ a b, a = (if sumI rows < 18446744073709551616 then sumI rows else 0) → b = decide (sumI rows < 18446744073709551616) → Q (.tup [.int .u64 a, .bool b]) s) : AC Try.prog 29 [.sl i 0 rows.length none] s Q := by
  refine AC_read (args' := [.sl 0 0 rows.length none]) (L := [.row own e K3 rows]) [i] (by simp) rfl rfl (by rintro (_ | i') j ob h1 h2 <;> simp at h1 h2; subst h1 h2; exact hs) ?_
  refine AC_body tok 0 Try.func29 rfl (by kernel_rfl) ?_
  conv => whnf
  refine ALs.invD (ι := Int × Int) tok 4 (keepN 6) (fun (i, a) => 0 ≤ i ∧ i ≤ rows.length ∧ a = upto sumS 0 rows i ∧ 0 ≤ a ∧ a < 18446744073709551616) (fun (i, _) => ((rows.length : Int) - i).toNat)
    (fun (i, a) => [.sl 0 0 rows.length none, .junk, .int .u64 0, .bool false, .int .u64 a, .int .i64 i] ++ junks 29) (fun _ => [.row own e K3 rows]) (fun _ => ()) (0, 0) ⟨by omega, by omega, rfl, by omega, by omega⟩ (by rfl) ⟨[], rfl⟩ rfl (fun _ => Nat.le_refl _) (fun _ => rfl) ?_
  rintro ⟨i, a⟩ ⟨i1, i2, i3, i4, i5⟩
  conv => whnf
  refine ifP (fun d => ?_) (fun d => ?_)
  · have d : i < rows.length := d
    conv => whnf
    have e1 : Z.add .i64 i 1 = i + 1 := Z.wrap_iid (by omega) (by omega)
    obtain ⟨a0, a1, b0, b1, d0, d1⟩ : FitU (rows.getD i.toNat []) := hf _ (getD_mem (by omega) [])
    have e3 := upto_step sumS 0 [] rows i1 d
    rw [← i3] at e3
    have e3 : upto sumS 0 rows (i + 1) = a + c0 (rows.getD i.toNat []) + c1 (rows.getD i.toNat []) + c2 (rows.getD i.toNat []) := e3
    simp only [c0, c1, c2] at a0 a1 b0 b1 d0 d1 e3
    have e4 := sumI_upto hf (i + 1) (by omega) (by omega)
    repeat (first | (refine andI (by simp [i1, d]) ?_; conv => whnf) | (refine andP (by omega) ?_; conv => whnf))
    rw [show 0 + i.toNat = i.toNat by omega]
    generalize hrw : rows.getD i.toNat [] = rw at *
    have lim : ∀ z, 0 ≤ z → z < 18446744073709551616 → Z.sub .u64 18446744073709551615 z = 18446744073709551615 - z := fun z h1 h2 => Z.wrap_uid (by omega) (by omega)
    rw [lim a i4 i5]
    refine ifP (fun g0 => ?_) (fun g0 => ?_)
    · have g0 : rw.headD 0 > 18446744073709551615 - a := g0
      conv => whnf
      exact ⟨rfl, rfl, h _ _ (by rw [if_neg (show ¬ sumI rows < 18446744073709551616 by omega)]) (by rw [decide_eq_false (show ¬ sumI rows < 18446744073709551616 by omega)])⟩
    · have g0 : ¬ rw.headD 0 > 18446744073709551615 - a := g0
      conv => whnf
      repeat (first | (refine andI (by simp [i1, d]) ?_; conv => whnf) | (refine andP (by omega) ?_; conv => whnf))
      have f0 : Z.add .u64 a (rw.headD 0) = a + rw.headD 0 := Z.wrap_uid (by omega) (by omega)
      rw [show 0 + i.toNat = i.toNat by omega, hrw, f0, lim _ (by omega) (by omega)]
      refine ifP (fun g1 => ?_) (fun g1 => ?_)
      · have g1 : rw.tail.headD 0 > 18446744073709551615 - (a + rw.headD 0) := g1
        conv => whnf
        exact ⟨rfl, rfl, h _ _ (by rw [if_neg (show ¬ sumI rows < 18446744073709551616 by omega)]) (by rw [decide_eq_false (show ¬ sumI rows < 18446744073709551616 by omega)])⟩
      · have g1 : ¬ rw.tail.headD 0 > 18446744073709551615 - (a + rw.headD 0) := g1
        conv => whnf
        repeat (first | (refine andI (by simp [i1, d]) ?_; conv => whnf) | (refine andP (by omega) ?_; conv => whnf))
        have f1 : Z.add .u64 (a + rw.headD 0) (rw.tail.headD 0) = a + rw.headD 0 + rw.tail.headD 0 := Z.wrap_uid (by omega) (by omega)
        rw [show 0 + i.toNat = i.toNat by omega, hrw]
        try rw [f0]
        rw [f1, lim _ (by omega) (by omega)]
        refine ifP (fun g2 => ?_) (fun g2 => ?_)
        · have g2 : rw.tail.tail.headD 0 > 18446744073709551615 - (a + rw.headD 0 + rw.tail.headD 0) := g2
          conv => whnf
          exact ⟨rfl, rfl, h _ _ (by rw [if_neg (show ¬ sumI rows < 18446744073709551616 by omega)]) (by rw [decide_eq_false (show ¬ sumI rows < 18446744073709551616 by omega)])⟩
        · have g2 : ¬ rw.tail.tail.headD 0 > 18446744073709551615 - (a + rw.headD 0 + rw.tail.headD 0) := g2
          conv => whnf
          repeat (first | (refine andI (by simp [i1, d]) ?_; conv => whnf) | (refine andP (by omega) ?_; conv => whnf))
          have f2 : Z.add .u64 (a + rw.headD 0 + rw.tail.headD 0) (rw.tail.tail.headD 0) = a + rw.headD 0 + rw.tail.headD 0 + rw.tail.tail.headD 0 := Z.wrap_uid (by omega) (by omega)
          rw [show 0 + i.toNat = i.toNat by omega, hrw]
          try rw [f0]
          try rw [f1]
          rw [f2]
          refine ⟨(Z.add .i64 i 1, a + rw.headD 0 + rw.tail.headD 0 + rw.tail.tail.headD 0), [], rfl, rfl, rfl, ?_, ?_⟩
          · show (rows.length - Z.add .i64 i 1).toNat < (rows.length - i).toNat; rw [e1]; omega
          · refine ⟨?_, ?_, ?_, ?_, ?_⟩ <;> (try simp only [e1]) <;> omega
  · conv => whnf
    have d : ¬ i < rows.length := d
    refine AWs.go tok 0 ?_
    conv => whnf
    rw [upto_all _ _ _ (by omega)] at i3
    have i3 : a = sumI rows := i3
    exact ⟨rfl, rfl, h _ _ (by rw [if_pos (show sumI rows < 18446744073709551616 by omega), i3]) (by rw [decide_eq_true (show sumI rows < 18446744073709551616 by omega)])⟩
theorem meanR {own : Bool} {e : TypeId} {rows : List (List Int)} {i : Nat} {s : List Ob} (hs : s[i]? = some (.row own e K3 rows)) (hl : rows.length ≤ 1000000) (hf : ∀ r ∈ rows, FitU r) {Q : AV → List Ob → Prop} (h : ∀ a, a = (if rows.length = 0 then 0 else sumI rows / (3 * rows.length)) → Q (.int .u64 a) s) : AC Try.prog 34 [.sl i 0 rows.length none] s Q := by
  refine AC_read (args' := [.sl 0 0 rows.length none]) (L := [.row own e K3 rows]) [i] (by simp) rfl rfl (by rintro (_ | i') j ob h1 h2 <;> simp at h1 h2; subst h1 h2; exact hs) ?_
  refine AC_body tok 0 Try.func34 rfl (by kernel_rfl) ?_
  conv => whnf
  refine ALs.invD (ι := Int × Int × Int) tok 4 (keepN 6) (fun (i, u, l) => 0 ≤ i ∧ i ≤ rows.length ∧ u * 4294967296 + l = upto sumS 0 rows i ∧ 0 ≤ u ∧ 0 ≤ l ∧ u ≤ 3 * i * 4294967295 ∧ l ≤ 3 * i * 4294967296) (fun (i, _) => ((rows.length : Int) - i).toNat)
    (fun (i, u, l) => [.sl 0 0 rows.length none, .junk, .int .u64 0, .int .u64 u, .int .u64 l, .int .i64 i] ++ junks 53) (fun _ => [.row own e K3 rows]) (fun _ => ()) (0, 0, 0) ⟨by omega, by omega, rfl, by omega, by omega, by omega, by omega⟩ (by rfl) ⟨[], rfl⟩ rfl (fun _ => Nat.le_refl _) (fun _ => rfl) ?_
  rintro ⟨i, u, l⟩ ⟨i1, i2, i3, i4, i5, i6, i7⟩
  conv => whnf
  refine ifP (fun d => ?_) (fun d => ?_)
  · have d : i < rows.length := d
    conv => whnf
    have e1 : Z.add .i64 i 1 = i + 1 := Z.wrap_iid (by omega) (by omega)
    obtain ⟨a0, a1, b0, b1, d0, d1⟩ : FitU (rows.getD i.toNat []) := hf _ (getD_mem (by omega) [])
    have e3 := upto_step sumS 0 [] rows i1 d
    rw [← i3] at e3
    have e3 : upto sumS 0 rows (i + 1) = u * 4294967296 + l + c0 (rows.getD i.toNat []) + c1 (rows.getD i.toNat []) + c2 (rows.getD i.toNat []) := e3
    simp only [c0, c1, c2] at a0 a1 b0 b1 d0 d1 e3
    repeat (first | (refine andI (by simp [i1, d]) ?_; conv => whnf) | (refine andP (by omega) ?_; conv => whnf))
    rw [show 0 + i.toNat = i.toNat by omega]
    generalize rows.getD i.toNat [] = rw at *
    have q32 : ∀ a, Z.shr .u64 a 32 = a / 4294967296 := fun a => Z.shr_eq 32 rfl
    rw [Z.mask_u (m := 4294967295) 32 rfl (by omega) a0 a1, Z.mask_u (m := 4294967295) 32 rfl (by omega) b0 b1, Z.mask_u (m := 4294967295) 32 rfl (by omega) d0 d1, q32, q32, q32]
    have f1 : ∀ u x y z : Int, 0 ≤ u → 0 ≤ x → 0 ≤ y → 0 ≤ z → u + x + y + z < 18446744073709551616 → Z.add .u64 (Z.add .u64 (Z.add .u64 u x) y) z = u + x + y + z := by
      intro u x y z h0 h1 h2 h3 h4
      have a1 : Z.add .u64 u x = u + x := Z.wrap_uid (by omega) (by omega)
      have a2 : Z.add .u64 (u + x) y = u + x + y := Z.wrap_uid (by omega) (by omega)
      rw [a1, a2]; exact Z.wrap_uid (by omega) (by omega)
    rw [show (2 : Int) ^ 32 = 4294967296 from rfl]
    have f2 := f1 u (rw.headD 0 / 4294967296) (rw.tail.headD 0 / 4294967296) (rw.tail.tail.headD 0 / 4294967296) (by omega) (by omega) (by omega) (by omega) (by omega)
    have f3 := f1 l (rw.headD 0 % 4294967296) (rw.tail.headD 0 % 4294967296) (rw.tail.tail.headD 0 % 4294967296) (by omega) (by omega) (by omega) (by omega) (by omega)
    rw [f2, f3]
    refine ⟨(Z.add .i64 i 1, u + rw.headD 0 / 4294967296 + rw.tail.headD 0 / 4294967296 + rw.tail.tail.headD 0 / 4294967296, l + rw.headD 0 % 4294967296 + rw.tail.headD 0 % 4294967296 + rw.tail.tail.headD 0 % 4294967296), [], rfl, rfl, rfl, ?_, ?_⟩
    · show (rows.length - Z.add .i64 i 1).toNat < (rows.length - i).toNat; rw [e1]; omega
    · refine ⟨?_, ?_, ?_, ?_, ?_, ?_, ?_⟩ <;> (try simp only [e1]) <;> omega
  · conv => whnf
    have d : ¬ i < rows.length := d
    refine AWs.go tok 0 ?_
    conv => whnf
    have e0 : IntKind.u64.wrap (Z.mul .i64 3 (rows.length : Int)) = 3 * rows.length := by
      have : Z.mul .i64 3 (rows.length : Int) = 3 * rows.length := Z.wrap_iid (by omega) (by omega)
      rw [this]; exact Z.wrap_uid (by omega) (by omega)
    rw [upto_all _ _ _ (by omega)] at i3
    have i3 : u * 4294967296 + l = sumI rows := i3
    rw [e0]
    by_cases k : rows.length = 0
    · rw [show ((3 : Int) * rows.length == 0) = true by rw [beq_iff_eq]; omega]
      conv => whnf
      exact ⟨rfl, rfl, h _ (by rw [if_pos k])⟩
    · rw [show ((3 : Int) * rows.length == 0) = false by rw [beq_eq_false_iff_ne]; omega]
      conv => whnf
      refine AW_draw tok hP ?_
      conv => whnf
      refine nzI (by omega) ?_
      conv => whnf
      refine nzI (by omega) ?_
      conv => whnf
      refine ⟨⟨by kernel_rfl⟩, ?_⟩
      conv => whnf
      refine nzI (by omega) ?_
      conv => whnf
      have hh := sumI_hi hf
      refine ⟨rfl, rfl, h _ ?_⟩
      rw [if_neg k, ← i3]
      exact mean_fin (by omega) (by omega) i4 i5 (by omega) (by omega) (by omega)
theorem byte {x w : Int} {r : Bool} (hx : 0 ≤ x) (hx' : x < 18446744073709551616) (hw : 0 ≤ w) (hw' : w < 18446744073709551616) {s : List Ob} {Q : AV → List Ob → Prop} (h : ∀ v, v = byteI x w r → Q (.int .i64 v) s) : AC Try.prog 24 [.int .u64 x, .int .u64 w, .bool r] s Q := by
  refine AC_pure rfl ?_
  refine AC_body tok 0 Try.func24 rfl (by kernel_rfl) ?_
  have hh := part_held (x := x) (w := w) r hx
  rw [byteI_eq] at h
  have ha := allI_le r
  by_cases w0 : w = 0
  · rw [if_pos w0] at h
    cases r
    all_goals
      conv => whnf
      refine AC_body tok 0 Try.func42 rfl (by kernel_rfl) ?_
      conv => whnf
      refine AC_body tok 0 Try.func43 rfl (by kernel_rfl) ?_
      conv => whnf
      refine ifP (fun g => ?_) (fun g => ?_) <;> conv => whnf
      all_goals
        refine ifP (fun g2 => ?_) (fun g2 => absurd w0 g2)
        conv => whnf
        exact ⟨rfl, h _ rfl⟩
  · rw [if_neg w0] at h
    have hq := qI_range r hx (show 0 < w by omega)
    have hh := hh (by omega)
    have key : ∀ y, y = (if x ≥ w then w else x) → 0 ≤ y ∧ y < 18446744073709551616 ∧ PN.partI y (allI r) w = qI x w r := by
      intro y hy
      rw [hy]; exact ⟨by split <;> omega, by split <;> omega, hh⟩
    cases r
    · conv => whnf
      refine AC_body tok 0 Try.func42 rfl (by kernel_rfl) ?_
      conv => whnf
      refine AC_body tok 0 Try.func43 rfl (by kernel_rfl) ?_
      conv => whnf
      refine ifP (fun g => ?_) (fun g => ?_) <;> conv => whnf
      all_goals
        have g : (x ≥ w) ∨ ¬ (x ≥ w) := by first | exact .inl g | exact .inr g
        obtain ⟨k1, k2, k3⟩ := key _ (by first | (rw [if_pos (by assumption)]) | (rw [if_neg (by assumption)]))
        refine ifP (fun g2 => absurd g2 w0) (fun g2 => ?_)
        conv => whnf
        refine numPart k1 k2 (by omega) (by omega) hw hw' (fun v ok hv _ => ?_)
        have hv : v = qI x w false := hv.trans k3
        have ha : v ≤ 65025 ∧ 0 ≤ v := by rw [hv]; omega
        conv => whnf
        refine AC_body tok 0 Try.func46 rfl (by kernel_rfl) ?_
        conv => whnf
        refine ⟨rfl, h _ ?_⟩
        rw [show IntKind.i64.wrap v = v from Z.wrap_iid (by omega) (by omega)]
        exact hv
    · conv => whnf
      refine AC_body tok 0 Try.func42 rfl (by kernel_rfl) ?_
      conv => whnf
      refine AC_body tok 0 Try.func43 rfl (by kernel_rfl) ?_
      conv => whnf
      refine ifP (fun g => ?_) (fun g => ?_) <;> conv => whnf
      all_goals
        have g : (x ≥ w) ∨ ¬ (x ≥ w) := by first | exact .inl g | exact .inr g
        obtain ⟨k1, k2, k3⟩ := key _ (by first | (rw [if_pos (by assumption)]) | (rw [if_neg (by assumption)]))
        refine ifP (fun g2 => absurd g2 w0) (fun g2 => ?_)
        conv => whnf
        refine numPart k1 k2 (by omega) (by omega) hw hw' (fun v ok hv _ => ?_)
        have hv : v = qI x w true := hv.trans k3
        have ha : v ≤ 65025 ∧ 0 ≤ v := by rw [hv]; omega
        conv => whnf
        refine numRoot (by omega) (by omega) (fun u hu => ?_)
        conv => whnf
        exact ⟨rfl, h _ (by rw [hu, hv]; rfl)⟩
theorem byteR {x w : Int} {r : Bool} (hx : 0 ≤ x) (hx' : x < 18446744073709551616) (hw : 0 ≤ w) (hw' : w < 18446744073709551616) {s : List Ob} {Q : AV → List Ob → Prop} (h : ∀ v, v = byteI x w r → Q (.int .i64 v) s) : AC Try.prog 33 [.int .u64 x, .int .u64 w, .bool r] s Q := by
  refine AC_pure rfl ?_
  refine AC_body tok 0 Try.func33 rfl (by kernel_rfl) ?_
  have hh := part_ref (x := x) (w := w) r hx
  rw [byteI_eq] at h
  have ha := allI_le r
  conv => whnf
  refine ifP (fun g => ?_) (fun g => ?_)
  · have g : w = 0 := g
    conv => whnf
    exact ⟨rfl, h _ (by rw [if_pos g])⟩
  · have g : ¬ w = 0 := g
    rw [if_neg g] at h
    have hh := hh (by omega)
    have hq := qI_range r hx (show 0 < w by omega)
    cases r
    · conv => whnf
      refine refPart hx hx' (by omega) (by omega) hw hw' (fun v ok hv hok => ?_)
      rw [← show v = PN.partI x (allI false) w from hv, ← show ok = PN.partOk x (allI false) w from hok] at hh
      cases ok
      · rw [if_pos (.inl (by simp))] at hh
        conv => whnf
        exact ⟨rfl, h _ (by rw [← hh]; rfl)⟩
      · by_cases k : v > 255
        · rw [if_pos (.inr k)] at hh
          conv => whnf
          rw [decide_eq_true k]
          conv => whnf
          exact ⟨rfl, h _ (by rw [← hh]; rfl)⟩
        · rw [if_neg (by rintro (q | q); exact q rfl; exact k q)] at hh
          conv => whnf
          rw [decide_eq_false k]
          conv => whnf
          exact ⟨rfl, h _ (by rw [show IntKind.i64.wrap v = v from Z.wrap_iid (by omega) (by omega)]; exact hh)⟩
    · conv => whnf
      refine refPart hx hx' (by omega) (by omega) hw hw' (fun v ok hv hok => ?_)
      rw [← show v = PN.partI x (allI true) w from hv, ← show ok = PN.partOk x (allI true) w from hok] at hh
      cases ok
      · rw [if_pos (.inl (by simp))] at hh
        conv => whnf
        refine refRoot (by omega) (by omega) (fun u hu => ?_)
        conv => whnf
        exact ⟨rfl, h _ (by rw [hu, ← hh]; rfl)⟩
      · by_cases k : v > 65025
        · rw [if_pos (.inr k)] at hh
          conv => whnf
          rw [decide_eq_true k]
          conv => whnf
          refine refRoot (by omega) (by omega) (fun u hu => ?_)
          conv => whnf
          exact ⟨rfl, h _ (by rw [hu, ← hh]; rfl)⟩
        · rw [if_neg (by rintro (q | q); exact q rfl; exact k q)] at hh
          conv => whnf
          rw [decide_eq_false k]
          conv => whnf
          refine refRoot (by omega) (by omega) (fun u hu => ?_)
          conv => whnf
          exact ⟨rfl, h _ (by rw [hu, hh]; rfl)⟩
theorem sbyteF {x w : Int} (hx : 0 ≤ x) (hx' : x < 18446744073709551616) (hw : 0 ≤ w) (hw' : w < 18446744073709551616) {s : List Ob} {Q : AV → List Ob → Prop} (h : ∀ v, v = byteI x w false → Q (.int .i64 v) s) : AC Try.prog 43 [.agg [.int .u64 255, .fn 46 [] []], .int .u64 x, .int .u64 w] s Q := by
  refine AC_free (fun _ => rfl) ?_
  refine AC_body tok 0 Try.func43 rfl (by kernel_rfl) ?_
  have hh := part_held (x := x) (w := w) false hx
  rw [byteI_eq] at h
  have key : 0 < w → ∀ y, y = (if x ≥ w then w else x) → 0 ≤ y ∧ y < 18446744073709551616 ∧ PN.partI y 255 w = qI x w false := by
    intro h0 y hy
    rw [hy]; exact ⟨by split <;> omega, by split <;> omega, hh h0⟩
  conv => whnf
  refine ifP (fun g => ?_) (fun g => ?_) <;> conv => whnf
  all_goals
    refine ifP (fun w0 => ?_) (fun w0 => ?_)
    · have w0 : w = 0 := w0
      conv => whnf
      exact ⟨rfl, h _ (by rw [if_pos w0])⟩
    · have w0 : ¬ w = 0 := w0
      rw [if_neg w0] at h
      have hq := qI_range false hx (show 0 < w by omega)
      have ha : allI false = 255 := rfl
      obtain ⟨k1, k2, k3⟩ := key (by omega) _ (by first | (rw [if_pos (by assumption)]) | (rw [if_neg (by assumption)]))
      conv => whnf
      refine numPart k1 k2 (by omega) (by omega) hw hw' (fun v ok hv _ => ?_)
      have hv : v = qI x w false := hv.trans k3
      conv => whnf
      refine AC_body tok 0 Try.func46 rfl (by kernel_rfl) ?_
      conv => whnf
      refine ⟨rfl, h _ ?_⟩
      rw [show IntKind.i64.wrap v = v from Z.wrap_iid (by omega) (by omega)]
      exact hv
theorem sbyteT {x w : Int} (hx : 0 ≤ x) (hx' : x < 18446744073709551616) (hw : 0 ≤ w) (hw' : w < 18446744073709551616) {s : List Ob} {Q : AV → List Ob → Prop} (h : ∀ v, v = byteI x w true → Q (.int .i64 v) s) : AC Try.prog 43 [.agg [.int .u64 65025, .fn 9 [] []], .int .u64 x, .int .u64 w] s Q := by
  refine AC_free (fun _ => rfl) ?_
  refine AC_body tok 0 Try.func43 rfl (by kernel_rfl) ?_
  have hh := part_held (x := x) (w := w) true hx
  rw [byteI_eq] at h
  have key : 0 < w → ∀ y, y = (if x ≥ w then w else x) → 0 ≤ y ∧ y < 18446744073709551616 ∧ PN.partI y 65025 w = qI x w true := by
    intro h0 y hy
    rw [hy]; exact ⟨by split <;> omega, by split <;> omega, hh h0⟩
  conv => whnf
  refine ifP (fun g => ?_) (fun g => ?_) <;> conv => whnf
  all_goals
    refine ifP (fun w0 => ?_) (fun w0 => ?_)
    · have w0 : w = 0 := w0
      conv => whnf
      exact ⟨rfl, h _ (by rw [if_pos w0])⟩
    · have w0 : ¬ w = 0 := w0
      rw [if_neg w0] at h
      have hq := qI_range true hx (show 0 < w by omega)
      have ha : allI true = 65025 := rfl
      obtain ⟨k1, k2, k3⟩ := key (by omega) _ (by first | (rw [if_pos (by assumption)]) | (rw [if_neg (by assumption)]))
      conv => whnf
      refine numPart k1 k2 (by omega) (by omega) hw hw' (fun v ok hv _ => ?_)
      have hv : v = qI x w true := hv.trans k3
      conv => whnf
      refine numRoot (by omega) (by omega) (fun u hu => ?_)
      conv => whnf
      exact ⟨rfl, h _ (by rw [hu, hv]; rfl)⟩
theorem ofF {s : List Ob} {Q : AV → List Ob → Prop} (h : Q (.agg [.int .u64 255, .fn 46 [] []]) s) : AC Try.prog 42 [.bool false] s Q := by
  refine AC_fn (.agg [.int .u64 255, .fn 46 [] []]) (fun _ => rfl) (fun _ => rfl) ?_
  refine AC_body tok 0 Try.func42 rfl (by kernel_rfl) ?_
  conv => whnf
  exact ⟨rfl, h⟩
theorem ofT {s : List Ob} {Q : AV → List Ob → Prop} (h : Q (.agg [.int .u64 65025, .fn 9 [] []]) s) : AC Try.prog 42 [.bool true] s Q := by
  refine AC_fn (.agg [.int .u64 65025, .fn 9 [] []]) (fun _ => rfl) (fun _ => rfl) ?_
  refine AC_body tok 0 Try.func42 rfl (by kernel_rfl) ?_
  conv => whnf
  exact ⟨rfl, h⟩
theorem mapF {own : Bool} {e : TypeId} {rows : List (List Int)} {i : Nat} {w : Int} {s : List Ob} (hs : s[i]? = some (.row own e K3 rows)) (hl : rows.length ≤ 1000000) (hf : ∀ r ∈ rows, FitU r) (hw : 0 ≤ w) (hw' : w < 18446744073709551616) {Q : AV → List Ob → Prop}
    (h : Q (.sl s.length 0 rows.length none) (s ++ [.row true 42 [.ik .i64, .ik .i64, .ik .i64] (mapI rows w false)])) : AC Try.prog 30 [.sl i 0 rows.length none, .int .u64 w, .bool false] s Q := by
  refine AC_mk1 (args' := [.sl 0 0 rows.length none, .int .u64 w, .bool false]) (L := [.row own e K3 rows]) [i] (by simp) rfl rfl (by rintro (_ | i') j ob h1 h2 <;> simp at h1 h2; subst h1 h2; exact hs) (.sl 1 0 rows.length none) 1 (by simp) ?_
  refine AC_body tok 0 Try.func30 rfl (by kernel_rfl) ?_
  have hwr := whiteI_range hf
  have hwo : 0 ≤ whiteOr rows w ∧ whiteOr rows w < 18446744073709551616 := by unfold whiteOr; split <;> omega
  conv => whnf
  by_cases w0 : w = 0
  case' pos =>
    refine ifT (decide_eq_true w0) ?_
    conv => whnf
    refine white rfl (by omega) (fun u hu => ?_)
    have hu' : u = whiteOr rows w := by rw [hu, whiteOr, if_pos w0]
    conv => whnf
  case' neg =>
    refine ifF (decide_eq_false w0) ?_
    obtain ⟨u, hu⟩ : ∃ u, u = w := ⟨_, rfl⟩
    have hu' : u = whiteOr rows w := by rw [hu, whiteOr, if_neg w0]
    conv => whnf
    rw [← hu]
  all_goals
    rw [← hu'] at hwo
    unfold mapI at h
    rw [← hu'] at h
    refine AW_draw tok hP ?_
    conv => whnf
    refine AQ_pure (fun s Q h => ofF h) ?_
    conv => whnf
    refine andI (by simp; omega) ?_
    conv => whnf
    refine ⟨⟨by cases own <;> kernel_rfl⟩, ?_⟩
    conv => whnf
    refine ALs.invD (ι := Int) tok 4 [true, true, true, false, false, false, false, true, true, false, false, false, false, false, false, false, false, false, false, false, false, false, true, true, true] (fun i => 0 ≤ i ∧ i ≤ rows.length) (fun i => ((rows.length : Int) - i).toNat)
      (fun i => [.sl 0 0 rows.length none, .int .u64 u, .bool false, .junk, .junk, .junk, .junk, .ptr 2 0 0, .sl 1 0 rows.length none] ++ (junks 13 ++ ([.sl 0 0 rows.length none, .int .i64 rows.length, .int .i64 i] ++ junks 21)))
      (fun i => [.row own e K3 rows, .row true 42 [.ik .i64, .ik .i64, .ik .i64] (mapTo (mapRow u false) rows i.toNat), .cells 0 [.int .u64 255, .fn 46 [] []]]) (fun _ => ()) 0 ⟨by omega, by omega⟩ (by rfl) ⟨[], by simp [mapTo_zero]; rfl⟩ rfl (fun _ => Nat.le_add_left 1 2) (fun _ => rfl) ?_
    rintro i ⟨i1, i2⟩
    conv => whnf
    refine ifP (fun d => ?_) (fun d => ?_)
    · have d : i < rows.length := d
      conv => whnf
      refine ixI i1 d ?_
      conv => whnf
      refine andP (by omega) ?_
      conv => whnf
      obtain ⟨a0, a1, b0, b1, d0, d1⟩ := hf _ (getD_mem (rows := rows) (i := 0 + i.toNat) (by omega) [])
      have ml := mapTo_length (mapRow u false) rows i.toNat (by omega)
      refine AW_draw tok hP ?_
      conv => whnf
      refine AQ_pure (fun s Q h => sbyteF a0 a1 hwo.1 hwo.2 (fun v hv => by rw [hv]; exact h)) ?_
      conv => whnf
      refine ixI i1 d ?_
      conv => whnf
      refine andP (by (try simp only [List.length_set]); omega) ?_
      conv => whnf
      refine ⟨⟨by cases own <;> kernel_rfl⟩, ?_⟩
      conv => whnf
      refine AW_draw tok hP ?_
      conv => whnf
      refine AQ_pure (fun s Q h => sbyteF b0 b1 hwo.1 hwo.2 (fun v hv => by rw [hv]; exact h)) ?_
      conv => whnf
      refine ixI i1 d ?_
      conv => whnf
      refine andP (by (try simp only [List.length_set]); omega) ?_
      conv => whnf
      refine ⟨⟨by cases own <;> kernel_rfl⟩, ?_⟩
      conv => whnf
      refine AW_draw tok hP ?_
      conv => whnf
      refine AQ_pure (fun s Q h => sbyteF d0 d1 hwo.1 hwo.2 (fun v hv => by rw [hv]; exact h)) ?_
      conv => whnf
      refine ixI i1 d ?_
      conv => whnf
      refine andP (by (try simp only [List.length_set]); omega) ?_
      conv => whnf
      refine ⟨⟨by cases own <;> kernel_rfl⟩, ?_⟩
      conv => whnf
      have e1 : Z.add .i64 i 1 = i + 1 := Z.wrap_iid (by omega) (by omega)
      refine ⟨Z.add .i64 i 1, [_], rfl, row2_eq ?_, rfl, ?_, ?_⟩
      · have hlt : i.toNat < (mapTo (mapRow u false) rows i.toNat).length := by omega
        rw [e1, show (i + 1).toNat = i.toNat + 1 by omega, ← mapTo_set _ _ _ (by omega), show 0 + i.toNat = i.toNat by omega]
        simp only [set_set', getD_set _ _ _ _ hlt, List.headD_cons, List.tail_cons]
        rfl
      · show (rows.length - Z.add .i64 i 1).toNat < (rows.length - i).toNat; rw [e1]; omega
      · rw [e1]; omega
    · conv => whnf
      have d : ¬ i < rows.length := d
      refine AWs.go tok 0 ?_
      conv => whnf
      refine ⟨rfl, rfl, rfl, ?_⟩
      have e : mapTo (mapRow u false) rows i.toNat = rows.map (mapRow u false) := by rw [show i.toNat = rows.length by omega]; exact mapTo_all _ _
      rw [e]; exact h
theorem mapT {own : Bool} {e : TypeId} {rows : List (List Int)} {i : Nat} {w : Int} {s : List Ob} (hs : s[i]? = some (.row own e K3 rows)) (hl : rows.length ≤ 1000000) (hf : ∀ r ∈ rows, FitU r) (hw : 0 ≤ w) (hw' : w < 18446744073709551616) {Q : AV → List Ob → Prop}
    (h : Q (.sl s.length 0 rows.length none) (s ++ [.row true 42 [.ik .i64, .ik .i64, .ik .i64] (mapI rows w true)])) : AC Try.prog 30 [.sl i 0 rows.length none, .int .u64 w, .bool true] s Q := by
  refine AC_mk1 (args' := [.sl 0 0 rows.length none, .int .u64 w, .bool true]) (L := [.row own e K3 rows]) [i] (by simp) rfl rfl (by rintro (_ | i') j ob h1 h2 <;> simp at h1 h2; subst h1 h2; exact hs) (.sl 1 0 rows.length none) 1 (by simp) ?_
  refine AC_body tok 0 Try.func30 rfl (by kernel_rfl) ?_
  have hwr := whiteI_range hf
  have hwo : 0 ≤ whiteOr rows w ∧ whiteOr rows w < 18446744073709551616 := by unfold whiteOr; split <;> omega
  conv => whnf
  by_cases w0 : w = 0
  case' pos =>
    refine ifT (decide_eq_true w0) ?_
    conv => whnf
    refine white rfl (by omega) (fun u hu => ?_)
    have hu' : u = whiteOr rows w := by rw [hu, whiteOr, if_pos w0]
    conv => whnf
  case' neg =>
    refine ifF (decide_eq_false w0) ?_
    obtain ⟨u, hu⟩ : ∃ u, u = w := ⟨_, rfl⟩
    have hu' : u = whiteOr rows w := by rw [hu, whiteOr, if_neg w0]
    conv => whnf
    rw [← hu]
  all_goals
    rw [← hu'] at hwo
    unfold mapI at h
    rw [← hu'] at h
    refine AW_draw tok hP ?_
    conv => whnf
    refine AQ_pure (fun s Q h => ofT h) ?_
    conv => whnf
    refine andI (by simp; omega) ?_
    conv => whnf
    refine ⟨⟨by cases own <;> kernel_rfl⟩, ?_⟩
    conv => whnf
    refine ALs.invD (ι := Int) tok 4 [true, true, true, false, false, false, false, true, true, false, false, false, false, false, false, false, false, false, false, false, false, false, true, true, true] (fun i => 0 ≤ i ∧ i ≤ rows.length) (fun i => ((rows.length : Int) - i).toNat)
      (fun i => [.sl 0 0 rows.length none, .int .u64 u, .bool true, .junk, .junk, .junk, .junk, .ptr 2 0 0, .sl 1 0 rows.length none] ++ (junks 13 ++ ([.sl 0 0 rows.length none, .int .i64 rows.length, .int .i64 i] ++ junks 21)))
      (fun i => [.row own e K3 rows, .row true 42 [.ik .i64, .ik .i64, .ik .i64] (mapTo (mapRow u true) rows i.toNat), .cells 0 [.int .u64 65025, .fn 9 [] []]]) (fun _ => ()) 0 ⟨by omega, by omega⟩ (by rfl) ⟨[], by simp [mapTo_zero]; rfl⟩ rfl (fun _ => Nat.le_add_left 1 2) (fun _ => rfl) ?_
    rintro i ⟨i1, i2⟩
    conv => whnf
    refine ifP (fun d => ?_) (fun d => ?_)
    · have d : i < rows.length := d
      conv => whnf
      refine ixI i1 d ?_
      conv => whnf
      refine andP (by omega) ?_
      conv => whnf
      obtain ⟨a0, a1, b0, b1, d0, d1⟩ := hf _ (getD_mem (rows := rows) (i := 0 + i.toNat) (by omega) [])
      have ml := mapTo_length (mapRow u true) rows i.toNat (by omega)
      refine AW_draw tok hP ?_
      conv => whnf
      refine AQ_pure (fun s Q h => sbyteT a0 a1 hwo.1 hwo.2 (fun v hv => by rw [hv]; exact h)) ?_
      conv => whnf
      refine ixI i1 d ?_
      conv => whnf
      refine andP (by (try simp only [List.length_set]); omega) ?_
      conv => whnf
      refine ⟨⟨by cases own <;> kernel_rfl⟩, ?_⟩
      conv => whnf
      refine AW_draw tok hP ?_
      conv => whnf
      refine AQ_pure (fun s Q h => sbyteT b0 b1 hwo.1 hwo.2 (fun v hv => by rw [hv]; exact h)) ?_
      conv => whnf
      refine ixI i1 d ?_
      conv => whnf
      refine andP (by (try simp only [List.length_set]); omega) ?_
      conv => whnf
      refine ⟨⟨by cases own <;> kernel_rfl⟩, ?_⟩
      conv => whnf
      refine AW_draw tok hP ?_
      conv => whnf
      refine AQ_pure (fun s Q h => sbyteT d0 d1 hwo.1 hwo.2 (fun v hv => by rw [hv]; exact h)) ?_
      conv => whnf
      refine ixI i1 d ?_
      conv => whnf
      refine andP (by (try simp only [List.length_set]); omega) ?_
      conv => whnf
      refine ⟨⟨by cases own <;> kernel_rfl⟩, ?_⟩
      conv => whnf
      have e1 : Z.add .i64 i 1 = i + 1 := Z.wrap_iid (by omega) (by omega)
      refine ⟨Z.add .i64 i 1, [_], rfl, row2_eq ?_, rfl, ?_, ?_⟩
      · have hlt : i.toNat < (mapTo (mapRow u true) rows i.toNat).length := by omega
        rw [e1, show (i + 1).toNat = i.toNat + 1 by omega, ← mapTo_set _ _ _ (by omega), show 0 + i.toNat = i.toNat by omega]
        simp only [set_set', getD_set _ _ _ _ hlt, List.headD_cons, List.tail_cons]
        rfl
      · show (rows.length - Z.add .i64 i 1).toNat < (rows.length - i).toNat; rw [e1]; omega
      · rw [e1]; omega
    · conv => whnf
      have d : ¬ i < rows.length := d
      refine AWs.go tok 0 ?_
      conv => whnf
      refine ⟨rfl, rfl, rfl, ?_⟩
      have e : mapTo (mapRow u true) rows i.toNat = rows.map (mapRow u true) := by rw [show i.toNat = rows.length by omega]; exact mapTo_all _ _
      rw [e]; exact h
theorem mapR {own : Bool} {e : TypeId} {rows : List (List Int)} {i : Nat} {w : Int} {r : Bool} {s : List Ob} (hs : s[i]? = some (.row own e K3 rows)) (hl : rows.length ≤ 1000000) (h0 : 0 < rows.length) (hf : ∀ r ∈ rows, FitU r) (hw : 0 ≤ w) (hw' : w < 18446744073709551616) {Q : AV → List Ob → Prop}
    (h : Q (.sl s.length 0 rows.length none) (s ++ [.row true 42 [.ik .i64, .ik .i64, .ik .i64] (mapI rows w r)])) : AC Try.prog 31 [.sl i 0 rows.length none, .int .u64 w, .bool r] s Q := by
  refine AC_mk1 (args' := [.sl 0 0 rows.length none, .int .u64 w, .bool r]) (L := [.row own e K3 rows]) [i] (by simp) rfl rfl (by rintro (_ | i') j ob h1 h2 <;> simp at h1 h2; subst h1 h2; exact hs) (.sl 1 0 rows.length none) 2 (by simp) ?_
  refine AC_body tok 0 Try.func31 rfl (by kernel_rfl) ?_
  have hwr := whiteI_range hf
  have hwo : 0 ≤ whiteOr rows w ∧ whiteOr rows w < 18446744073709551616 := by unfold whiteOr; split <;> omega
  conv => whnf
  by_cases w0 : w = 0
  case' pos =>
    refine ifT (decide_eq_true w0) ?_
    conv => whnf
    refine whiteR rfl (by omega) (fun u hu => ?_)
    have hu' : u = whiteOr rows w := by rw [hu, whiteOr, if_pos w0]
    conv => whnf
  case' neg =>
    refine ifF (decide_eq_false w0) ?_
    obtain ⟨u, hu⟩ : ∃ u, u = w := ⟨_, rfl⟩
    have hu' : u = whiteOr rows w := by rw [hu, whiteOr, if_neg w0]
    conv => whnf
    rw [← hu]
  all_goals
    rw [← hu'] at hwo
    unfold mapI at h
    rw [← hu'] at h
    obtain ⟨a0, a1, b0, b1, d0, d1⟩ := hf _ (getD_mem (rows := rows) (i := 0) (by omega) [])
    refine ALs.round tok 0 ?_
    conv => whnf
    refine ifT (decide_eq_true (show (0 : Int) < rows.length by omega)) ?_
    conv => whnf
    refine AW_drawT tok hP ?_
    conv => whnf
    refine ixI (by omega) (show (0 : Int) < rows.length by omega) ?_
    conv => whnf
    refine andP (by simpa using h0) ?_
    conv => whnf
    refine AQ_pure (fun s Q h => byteR a0 a1 hwo.1 hwo.2 (fun v hv => by rw [hv]; exact h)) ?_
    conv => whnf
    refine ixI (by omega) (show (0 : Int) < rows.length by omega) ?_
    conv => whnf
    refine andP (by simpa using h0) ?_
    conv => whnf
    refine AQ_pure (fun s Q h => byteR b0 b1 hwo.1 hwo.2 (fun v hv => by rw [hv]; exact h)) ?_
    conv => whnf
    refine ixI (by omega) (show (0 : Int) < rows.length by omega) ?_
    conv => whnf
    refine andP (by simpa using h0) ?_
    conv => whnf
    refine AQ_pure (fun s Q h => byteR d0 d1 hwo.1 hwo.2 (fun v hv => by rw [hv]; exact h)) ?_
    conv => whnf
    refine ⟨⟨by cases own <;> kernel_rfl⟩, ?_⟩
    conv => whnf
    refine ALs.invD (ι := Int) tok 0 [true, true, true, false, false, false, false, true, true] (fun i => 1 ≤ i ∧ i ≤ rows.length) (fun i => ((rows.length : Int) - i).toNat)
      (fun i => [.sl 0 0 rows.length none, .int .u64 u, .bool r, .junk, .junk, .junk, .junk, .sl 2 0 i.toNat none, .int .i64 i] ++ junks 39)
      (fun i => [.row own e K3 rows, .row true 42 [.ik .i64, .ik .i64, .ik .i64] [mapRow u r (rows.getD 0 [])], .row true 42 [.ik .i64, .ik .i64, .ik .i64] (mapPre (mapRow u r) rows i)]) (fun _ => ()) 1 ⟨by omega, by omega⟩ (by rfl) ⟨[], by rw [mapPre_one _ _ h0]; rfl⟩ rfl (fun _ => Nat.le_add_left 1 2) (fun _ => rfl) ?_
    rintro i ⟨i1, i2⟩
    conv => whnf
    refine ifP (fun d => ?_) (fun d => ?_)
    · have d : i < rows.length := d
      clear a0 a1 b0 b1 d0 d1
      obtain ⟨a0, a1, b0, b1, d0, d1⟩ := hf _ (getD_mem (rows := rows) (i := 0 + i.toNat) (by omega) [])
      have ml := mapPre_length (mapRow u r) rows (i := i) (by omega) (by omega)
      conv => whnf
      refine AW_drawT tok hP ?_
      conv => whnf
      refine ixI (by omega) d ?_
      conv => whnf
      refine andP (by omega) ?_
      conv => whnf
      refine AQ_pure (fun s Q h => byteR a0 a1 hwo.1 hwo.2 (fun v hv => by rw [hv]; exact h)) ?_
      conv => whnf
      refine ixI (by omega) d ?_
      conv => whnf
      refine andP (by omega) ?_
      conv => whnf
      refine AQ_pure (fun s Q h => byteR b0 b1 hwo.1 hwo.2 (fun v hv => by rw [hv]; exact h)) ?_
      conv => whnf
      refine ixI (by omega) d ?_
      conv => whnf
      refine andP (by omega) ?_
      conv => whnf
      refine AQ_pure (fun s Q h => byteR d0 d1 hwo.1 hwo.2 (fun v hv => by rw [hv]; exact h)) ?_
      conv => whnf
      refine ⟨⟨by cases own <;> kernel_rfl⟩, ?_⟩
      conv => whnf
      refine andI (by simp; omega) ?_
      conv => whnf
      have e1 : Z.add .i64 i 1 = i + 1 := Z.wrap_iid (by omega) (by omega)
      have e2 : (Z.add .i64 i 1).toNat = i.toNat + 1 := by rw [e1]; omega
      refine ⟨Z.add .i64 i 1, [_, _], ?_, row3_eq ?_, rfl, ?_, ?_⟩
      · show _ = [.sl 0 0 rows.length none, .int .u64 u, .bool r, .junk, .junk, .junk, .junk, .sl 2 0 (Z.add .i64 i 1).toNat none, .int .i64 (Z.add .i64 i 1)] ++ junks 39
        rw [e2]; rfl
      · rw [e1, mapPre_step _ _ (by omega) d, show 0 + i.toNat = i.toNat by omega]; rfl
      · show (rows.length - Z.add .i64 i 1).toNat < (rows.length - i).toNat; rw [e1]; omega
      · rw [e1]; omega
    · conv => whnf
      have d : ¬ i < rows.length := d
      refine AWs.go tok 0 ?_
      conv => whnf
      have e : i.toNat = rows.length := by omega
      rw [e, mapPre_all _ _ (by omega)]
      exact ⟨rfl, rfl, rfl, h⟩
end Go.AW.A4
