/- Part of the proof of a law of the seat: its functions, walked. No condition. -/
import Derived.Test.YthhhgdefejogoaaA3Num
import Derived.Test.YthhhgdefejogoaaPDither
import Derived.Test.YthhhgdefejogoaaEngC
import Derived.Test.YthhhgdefejogoaaA3DitC
namespace Go.AW.A3
open Go Go.AW Go.Proofs
set_option maxRecDepth 100000
set_option linter.unusedVariables false
theorem ditGiven {n : Int} {s : List Ob} {Q : AV → List Ob → Prop} (h : ∀ v, v = decide (2 ≤ n ∧ n ≤ 16) → Q (.bool v) s) : AC Try.prog 36 [.int .i64 n] s Q := by
  refine AC_pure rfl ?_
  refine AC_body tok 3 Try.func36 rfl (by kernel_rfl) ?_
  conv => whnf
  by_cases g : 2 ≤ n
  · rw [decide_eq_true g]
    conv => whnf
    exact ⟨rfl, h _ (decide_eq_decide.2 (by omega))⟩
  · rw [decide_eq_false g]
    conv => whnf
    exact ⟨rfl, h _ (decide_eq_false (by omega)).symm⟩
theorem ditByte {n k : Int} (hn : 2 ≤ n ∧ n ≤ 16) (hk : 0 ≤ k ∧ k ≤ 16) {s : List Ob} {Q : AV → List Ob → Prop} (h : ∀ v, v = lvI n k → Q (.int .i64 v) s) : AC Try.prog 38 [.int .i64 n, .int .i64 k] s Q := by
  refine AC_pure rfl ?_
  refine AC_body tok 3 Try.func38 rfl (by kernel_rfl) ?_
  conv => whnf
  have e1 : Z.mul .i64 k 255 = k * 255 := Z.wrap_iid (by omega) (by omega)
  have e2 : Z.sub .i64 n 1 = n - 1 := Z.wrap_iid (by omega) (by omega)
  refine nzI (by rw [e2]; omega) ?_
  conv => whnf
  exact ⟨rfl, h _ (by rw [e1, e2, quo_pos (by omega) (by omega) (by omega)]; rfl)⟩
theorem ditLevel {n k : Int} {s : List Ob} {Q : AV → List Ob → Prop} (h : ∀ v, v = levelI k n → Q (.int .i64 v) s) : AC Try.prog 10 [.int .i64 k, .int .i64 n] s Q := by
  refine AC_pure rfl ?_
  refine AC_body tok 3 Try.func10 rfl (by kernel_rfl) ?_
  conv => whnf
  unfold levelI at h
  refine ditGiven (fun v hv => ?_)
  conv => whnf
  cases v
  · conv => whnf
    have g := of_decide_eq_false hv.symm
    exact ⟨rfl, h _ (by rw [if_neg (fun q => g q.1)])⟩
  conv => whnf
  have g := of_decide_eq_true hv.symm
  generalize hB : decide ((_ : Int) < 0) = bB
  replace hB : decide (k < 0) = bB := hB
  by_cases g1 : k < 0
  · rw [decide_eq_true g1] at hB; subst hB
    conv => whnf
    exact ⟨rfl, h _ (by rw [if_neg (by omega)])⟩
  rw [decide_eq_false g1] at hB; subst hB
  conv => whnf
  generalize hB : decide ((_ : Int) ≥ _) = bB
  replace hB : decide (k ≥ n) = bB := hB
  by_cases g2 : k ≥ n
  · rw [decide_eq_true g2] at hB; subst hB
    conv => whnf
    exact ⟨rfl, h _ (by rw [if_neg (by omega)])⟩
  rw [decide_eq_false g2] at hB; subst hB
  conv => whnf
  rw [if_pos ⟨g, by omega, by omega⟩] at h
  refine ditByte g (by omega) (fun v hv => ?_)
  conv => whnf
  exact ⟨rfl, h _ hv⟩
theorem ditNear1 {n x : Int} (hn : 2 ≤ n ∧ n ≤ 16) (hx : -4294967296 ≤ x ∧ x ≤ 4294967296) {s : List Ob} {Q : AV → List Ob → Prop} (h : ∀ v, NearP n x v → Q (.int .i64 v) s) : AC Try.prog 37 [.int .i64 n, .int .i64 x] s Q := by
  refine AC_pure rfl ?_
  refine AC_body tok 0 Try.func37 rfl (by kernel_rfl) ?_
  conv => whnf
  refine ALs.invD (ι := Int) tok 0 [true, true, false, false, false, true] (fun k => 0 ≤ k ∧ k < n ∧ (k = 0 ∨ lvI n k ≤ x)) (fun k => (n - k).toNat)
    (fun k => [.int .i64 n, .int .i64 x, .junk, .junk, .junk, .int .i64 k] ++ junks 35) (fun _ => []) (fun _ => ()) 0 ⟨by omega, by omega, .inl rfl⟩ rfl ⟨[], rfl⟩ rfl (fun _ => Nat.zero_le _) (fun _ => rfl) ?_
  rintro k ⟨k0, k1, k2⟩
  conv => whnf
  have e1 : Z.add .i64 k 1 = k + 1 := Z.wrap_iid (by omega) (by omega)
  have fin : (k + 1 = n ∨ x < lvI n (k + 1)) → (k + 1 < n ∧ x - lvI n k > lvI n (k + 1) - x → Q (.int .i64 (k + 1)) s) ∧ (¬ (k + 1 < n ∧ x - lvI n k > lvI n (k + 1) - x) → Q (.int .i64 k) s) := fun hi => by
    have := PD.near_of hn.1 hn.2 k0 k1 k2 hi
    exact ⟨fun g => h _ (this.1 g), fun g => h _ (this.2 g)⟩
  have bk := PD.lv_b hn.1 hn.2 k0 k1
  rw [e1]
  by_cases g : k + 1 < n
  · rw [decide_eq_true g]
    conv => whnf
    have bk1 := PD.lv_b hn.1 hn.2 (show 0 ≤ k + 1 by omega) g
    rw [e1]
    refine ditByte hn (by omega) (fun v hv => ?_)
    conv => whnf
    by_cases g2 : v ≤ x
    · rw [decide_eq_true g2]
      conv => whnf
      exact ⟨Z.add .i64 k 1, [], rfl, rfl, rfl, by show (n - Z.add .i64 k 1).toNat < (n - k).toNat; rw [e1]; omega, by show 0 ≤ Z.add .i64 k 1 ∧ Z.add .i64 k 1 < n ∧ (Z.add .i64 k 1 = 0 ∨ lvI n (Z.add .i64 k 1) ≤ x); rw [e1]; exact ⟨by omega, g, .inr (by omega)⟩⟩
    · rw [decide_eq_false g2]
      conv => whnf
      refine AWs.go tok 0 ?_
      conv => whnf
      rw [e1, decide_eq_true g]
      conv => whnf
      try (refine AW_draw tok hP ?_; conv => whnf)
      first | refine AQ_int (fun sK QK hK => ditByte hn (by omega) hK) (fun a ha => ?_) | refine ditByte hn (by omega) (fun a ha => ?_)
      conv => whnf
      try (refine And.intro (OkD.mk (by kernel_rfl)) ?_; conv => whnf)
      try (refine AW_draw tok hP ?_; conv => whnf)
      first | refine AQ_int (fun sK QK hK => ditByte (k := Z.add .i64 k 1) hn (by rw [e1]; omega) hK) (fun b hb => ?_) | refine ditByte (k := Z.add .i64 k 1) hn (by rw [e1]; omega) (fun b hb => ?_)
      conv => whnf
      try (refine And.intro (OkD.mk (by kernel_rfl)) ?_; conv => whnf)
      rw [e1] at hb
      have s1 : Z.sub .i64 x a = x - a := Z.wrap_iid (by omega) (by omega)
      have s2 : Z.sub .i64 b x = b - x := Z.wrap_iid (by omega) (by omega)
      obtain ⟨f1, f2⟩ := fin (.inr (by omega))
      rw [s1, s2, ha, hb]
      generalize hB : decide ((_ : Int) > _) = bB
      replace hB : decide (x - lvI n k > lvI n (k + 1) - x) = bB := hB
      by_cases gg : x - lvI n k > lvI n (k + 1) - x
      · rw [decide_eq_true gg] at hB; subst hB
        conv => whnf
        rw [e1]
        exact ⟨rfl, f1 ⟨g, gg⟩⟩
      · rw [decide_eq_false gg] at hB; subst hB
        conv => whnf
        exact ⟨rfl, f2 (fun q => gg q.2)⟩
  · rw [decide_eq_false g]
    conv => whnf
    refine AWs.go tok 0 ?_
    conv => whnf
    rw [e1, decide_eq_false g]
    conv => whnf
    exact ⟨rfl, (fin (.inl (by omega))).2 (by omega)⟩
theorem ditNear {n x : Int} {s : List Ob} {Q : AV → List Ob → Prop} (h0 : ¬ ((2 ≤ n ∧ n ≤ 16) ∧ -1048576 ≤ x ∧ x ≤ 1048576) → Q (.int .i64 0) s) (h : (2 ≤ n ∧ n ≤ 16) → (-1048576 ≤ x ∧ x ≤ 1048576) → ∀ v, NearP n x v → Q (.int .i64 v) s) : AC Try.prog 9 [.int .i64 x, .int .i64 n] s Q := by
  refine AC_pure rfl ?_
  refine AC_body tok 3 Try.func9 rfl (by kernel_rfl) ?_
  conv => whnf
  refine ditGiven (fun v hv => ?_)
  conv => whnf
  cases v
  · conv => whnf
    have g := of_decide_eq_false hv.symm
    exact ⟨rfl, h0 (fun q => g q.1)⟩
  conv => whnf
  have g := of_decide_eq_true hv.symm
  generalize hB : decide ((_ : Int) < -1048576) = bB
  replace hB : decide (x < -1048576) = bB := hB
  by_cases g1 : x < -1048576
  · rw [decide_eq_true g1] at hB; subst hB
    conv => whnf
    exact ⟨rfl, h0 (by omega)⟩
  rw [decide_eq_false g1] at hB; subst hB
  conv => whnf
  generalize hB : decide ((_ : Int) > 1048576) = bB
  replace hB : decide (x > 1048576) = bB := hB
  by_cases g2 : x > 1048576
  · rw [decide_eq_true g2] at hB; subst hB
    conv => whnf
    exact ⟨rfl, h0 (by omega)⟩
  rw [decide_eq_false g2] at hB; subst hB
  conv => whnf
  refine ditNear1 g (by omega) (fun v hv => ?_)
  conv => whnf
  exact ⟨rfl, h g ⟨by omega, by omega⟩ _ hv⟩
theorem ditAt {n x k : Int} (hn : 2 ≤ n ∧ n ≤ 16) (hx : -4294967296 ≤ x ∧ x ≤ 4294967296) (hk : NearP n x k) {s : List Ob} {Q : AV → List Ob → Prop} (h : Q (.int .i64 (lvI n k)) s) : AC Try.prog 43 [.int .i64 n, .int .i64 x] s Q := by
  refine AC_pure rfl ?_
  refine AC_body tok 3 Try.func43 rfl (by kernel_rfl) ?_
  conv => whnf
  refine ditNear1 hn hx (fun v hv => ?_)
  conv => whnf
  obtain rfl := PD.near_uniq hv hk
  refine ditByte hn (by have := hk.k0; have := hk.k1; omega) (fun w hw => ?_)
  conv => whnf
  exact ⟨rfl, (by rw [hw]; exact h)⟩
theorem ditHands {s : List Ob} {Q : AV → List Ob → Prop} (h : Q (.agg [.int .i64 1, .int .i64 0, .int .i64 7, .int .i64 (-1), .int .i64 1, .int .i64 3, .int .i64 0, .int .i64 1, .int .i64 5, .int .i64 1, .int .i64 1, .int .i64 1]) s) : AC Try.prog 47 [] s Q := by
  refine AC_pure rfl ?_
  refine AC_body tok 3 Try.func47 rfl (by kernel_rfl) ?_
  conv => whnf
  exact ⟨rfl, h⟩
theorem spreadStep00 {s : List Ob} {Q : AV → List Ob → Prop} (h0 : s[0]? = some (.row true 38 [.ik .i64, .ik .i64, .ik .i64] [[100, 0, 255], [100, 0, 255]])) (h3 : s[3]? = some (.cells 0 [.int .i64 2, .int .i64 1, .sl 0 0 2 none])) (h5 : s[5]? = some (.row true 38 [.ik .i64, .ik .i64, .ik .i64] [[0, 0, 0], [0, 0, 0]])) (h6 : s[6]? = some (.cells 0 [.sl 5 0 2 none]))
    (h : Q (.int .i64 0) (s.set 5 (.row true 38 [.ik .i64, .ik .i64, .ik .i64] [[0, 0, 0], [43, 0, 0]]))) : AC Try.prog 46 [.int .i64 2, .int .i64 0, .int .i64 0, .ptr 3 0 0, .ptr 6 0 0] s Q := by
  refine AC_upd (args' := [.int .i64 2, .int .i64 0, .int .i64 0, .ptr 1 0 0, .ptr 3 0 0]) (L := [.row true 38 [.ik .i64, .ik .i64, .ik .i64] [[100, 0, 255], [100, 0, 255]], .cells 0 [.int .i64 2, .int .i64 1, .sl 0 0 2 none], .row true 38 [.ik .i64, .ik .i64, .ik .i64] [[0, 0, 0], [0, 0, 0]], .cells 0 [.sl 2 0 2 none]]) [0, 3, 5, 6] (by decide) rfl (fun _ => rfl) (by rintro (_ | _ | _ | _ | i') a ob k1 k2 <;> simp at k1 k2 <;> subst k1 k2 <;> assumption) 2 5 rfl ?_
  refine AC_body tok 12 Try.func46 rfl (by kernel_rfl) ?_
  conv => whnf
  repeat' first
    | (refine AW_draw tok hP ?_; conv => whnf)
    | (refine And.intro (OkD.mk (by kernel_rfl)) ?_; conv => whnf)
    | (refine ditHands ?_; conv => whnf)
    | (refine AQ_pure (fun s Q h => ditHands h) ?_; conv => whnf)
    | (refine AQ_pure (fun s Q h => ditAt (n := 2) (x := 100) (k := 0) (by decide) (by decide) (PD.near2 100) h) ?_; conv => whnf)
    | (refine ditAt (n := 2) (x := 100) (k := 0) (by decide) (by decide) (PD.near2 100) ?_; conv => whnf)
    | (refine AQ_pure (r := .int .i64 43) (fun s Q h => numDiv (by decide) (by decide) (fun v hv => by obtain rfl : v = 43 := by { rw [hv]; decide }; exact h)) ?_; conv => whnf)
    | fail
  exact ⟨rfl, .row true 38 [.ik .i64, .ik .i64, .ik .i64] [[0, 0, 0], [43, 0, 0]], rfl, rfl, h⟩
theorem spreadStep01 {s : List Ob} {Q : AV → List Ob → Prop} (h0 : s[0]? = some (.row true 38 [.ik .i64, .ik .i64, .ik .i64] [[100, 0, 255], [100, 0, 255]])) (h3 : s[3]? = some (.cells 0 [.int .i64 2, .int .i64 1, .sl 0 0 2 none])) (h5 : s[5]? = some (.row true 38 [.ik .i64, .ik .i64, .ik .i64] [[0, 0, 0], [43, 0, 0]])) (h6 : s[6]? = some (.cells 0 [.sl 5 0 2 none]))
    (h : Q (.int .i64 0) (s.set 5 (.row true 38 [.ik .i64, .ik .i64, .ik .i64] [[0, 0, 0], [43, 0, 0]]))) : AC Try.prog 46 [.int .i64 2, .int .i64 0, .int .i64 1, .ptr 3 0 0, .ptr 6 0 0] s Q := by
  refine AC_upd (args' := [.int .i64 2, .int .i64 0, .int .i64 1, .ptr 1 0 0, .ptr 3 0 0]) (L := [.row true 38 [.ik .i64, .ik .i64, .ik .i64] [[100, 0, 255], [100, 0, 255]], .cells 0 [.int .i64 2, .int .i64 1, .sl 0 0 2 none], .row true 38 [.ik .i64, .ik .i64, .ik .i64] [[0, 0, 0], [43, 0, 0]], .cells 0 [.sl 2 0 2 none]]) [0, 3, 5, 6] (by decide) rfl (fun _ => rfl) (by rintro (_ | _ | _ | _ | i') a ob k1 k2 <;> simp at k1 k2 <;> subst k1 k2 <;> assumption) 2 5 rfl ?_
  refine AC_body tok 12 Try.func46 rfl (by kernel_rfl) ?_
  conv => whnf
  repeat' first
    | (refine AW_draw tok hP ?_; conv => whnf)
    | (refine And.intro (OkD.mk (by kernel_rfl)) ?_; conv => whnf)
    | (refine ditHands ?_; conv => whnf)
    | (refine AQ_pure (fun s Q h => ditHands h) ?_; conv => whnf)
    | (refine AQ_pure (fun s Q h => ditAt (n := 2) (x := 0) (k := 0) (by decide) (by decide) (PD.near2 0) h) ?_; conv => whnf)
    | (refine ditAt (n := 2) (x := 0) (k := 0) (by decide) (by decide) (PD.near2 0) ?_; conv => whnf)
    | (refine AQ_pure (r := .int .i64 0) (fun s Q h => numDiv (by decide) (by decide) (fun v hv => by obtain rfl : v = 0 := by { rw [hv]; decide }; exact h)) ?_; conv => whnf)
    | fail
  exact ⟨rfl, .row true 38 [.ik .i64, .ik .i64, .ik .i64] [[0, 0, 0], [43, 0, 0]], rfl, rfl, h⟩
theorem spreadStep02 {s : List Ob} {Q : AV → List Ob → Prop} (h0 : s[0]? = some (.row true 38 [.ik .i64, .ik .i64, .ik .i64] [[100, 0, 255], [100, 0, 255]])) (h3 : s[3]? = some (.cells 0 [.int .i64 2, .int .i64 1, .sl 0 0 2 none])) (h5 : s[5]? = some (.row true 38 [.ik .i64, .ik .i64, .ik .i64] [[0, 0, 0], [43, 0, 0]])) (h6 : s[6]? = some (.cells 0 [.sl 5 0 2 none]))
    (h : Q (.int .i64 255) (s.set 5 (.row true 38 [.ik .i64, .ik .i64, .ik .i64] [[0, 0, 0], [43, 0, 0]]))) : AC Try.prog 46 [.int .i64 2, .int .i64 0, .int .i64 2, .ptr 3 0 0, .ptr 6 0 0] s Q := by
  refine AC_upd (args' := [.int .i64 2, .int .i64 0, .int .i64 2, .ptr 1 0 0, .ptr 3 0 0]) (L := [.row true 38 [.ik .i64, .ik .i64, .ik .i64] [[100, 0, 255], [100, 0, 255]], .cells 0 [.int .i64 2, .int .i64 1, .sl 0 0 2 none], .row true 38 [.ik .i64, .ik .i64, .ik .i64] [[0, 0, 0], [43, 0, 0]], .cells 0 [.sl 2 0 2 none]]) [0, 3, 5, 6] (by decide) rfl (fun _ => rfl) (by rintro (_ | _ | _ | _ | i') a ob k1 k2 <;> simp at k1 k2 <;> subst k1 k2 <;> assumption) 2 5 rfl ?_
  refine AC_body tok 12 Try.func46 rfl (by kernel_rfl) ?_
  conv => whnf
  repeat' first
    | (refine AW_draw tok hP ?_; conv => whnf)
    | (refine And.intro (OkD.mk (by kernel_rfl)) ?_; conv => whnf)
    | (refine ditHands ?_; conv => whnf)
    | (refine AQ_pure (fun s Q h => ditHands h) ?_; conv => whnf)
    | (refine AQ_pure (fun s Q h => ditAt (n := 2) (x := 255) (k := 1) (by decide) (by decide) (PD.near2 255) h) ?_; conv => whnf)
    | (refine ditAt (n := 2) (x := 255) (k := 1) (by decide) (by decide) (PD.near2 255) ?_; conv => whnf)
    | (refine AQ_pure (r := .int .i64 0) (fun s Q h => numDiv (by decide) (by decide) (fun v hv => by obtain rfl : v = 0 := by { rw [hv]; decide }; exact h)) ?_; conv => whnf)
    | fail
  exact ⟨rfl, .row true 38 [.ik .i64, .ik .i64, .ik .i64] [[0, 0, 0], [43, 0, 0]], rfl, rfl, h⟩
theorem spreadStep10 {s : List Ob} {Q : AV → List Ob → Prop} (h0 : s[0]? = some (.row true 38 [.ik .i64, .ik .i64, .ik .i64] [[100, 0, 255], [100, 0, 255]])) (h3 : s[3]? = some (.cells 0 [.int .i64 2, .int .i64 1, .sl 0 0 2 none])) (h5 : s[5]? = some (.row true 38 [.ik .i64, .ik .i64, .ik .i64] [[0, 0, 0], [43, 0, 0]])) (h6 : s[6]? = some (.cells 0 [.sl 5 0 2 none]))
    (h : Q (.int .i64 255) (s.set 5 (.row true 38 [.ik .i64, .ik .i64, .ik .i64] [[0, 0, 0], [43, 0, 0]]))) : AC Try.prog 46 [.int .i64 2, .int .i64 1, .int .i64 0, .ptr 3 0 0, .ptr 6 0 0] s Q := by
  refine AC_upd (args' := [.int .i64 2, .int .i64 1, .int .i64 0, .ptr 1 0 0, .ptr 3 0 0]) (L := [.row true 38 [.ik .i64, .ik .i64, .ik .i64] [[100, 0, 255], [100, 0, 255]], .cells 0 [.int .i64 2, .int .i64 1, .sl 0 0 2 none], .row true 38 [.ik .i64, .ik .i64, .ik .i64] [[0, 0, 0], [43, 0, 0]], .cells 0 [.sl 2 0 2 none]]) [0, 3, 5, 6] (by decide) rfl (fun _ => rfl) (by rintro (_ | _ | _ | _ | i') a ob k1 k2 <;> simp at k1 k2 <;> subst k1 k2 <;> assumption) 2 5 rfl ?_
  refine AC_body tok 12 Try.func46 rfl (by kernel_rfl) ?_
  conv => whnf
  repeat' first
    | (refine AW_draw tok hP ?_; conv => whnf)
    | (refine And.intro (OkD.mk (by kernel_rfl)) ?_; conv => whnf)
    | (refine ditHands ?_; conv => whnf)
    | (refine AQ_pure (fun s Q h => ditHands h) ?_; conv => whnf)
    | (refine AQ_pure (fun s Q h => ditAt (n := 2) (x := 143) (k := 1) (by decide) (by decide) (PD.near2 143) h) ?_; conv => whnf)
    | (refine ditAt (n := 2) (x := 143) (k := 1) (by decide) (by decide) (PD.near2 143) ?_; conv => whnf)
    | fail
  exact ⟨rfl, .row true 38 [.ik .i64, .ik .i64, .ik .i64] [[0, 0, 0], [43, 0, 0]], rfl, rfl, h⟩
theorem spreadStep11 {s : List Ob} {Q : AV → List Ob → Prop} (h0 : s[0]? = some (.row true 38 [.ik .i64, .ik .i64, .ik .i64] [[100, 0, 255], [100, 0, 255]])) (h3 : s[3]? = some (.cells 0 [.int .i64 2, .int .i64 1, .sl 0 0 2 none])) (h5 : s[5]? = some (.row true 38 [.ik .i64, .ik .i64, .ik .i64] [[0, 0, 0], [43, 0, 0]])) (h6 : s[6]? = some (.cells 0 [.sl 5 0 2 none]))
    (h : Q (.int .i64 0) (s.set 5 (.row true 38 [.ik .i64, .ik .i64, .ik .i64] [[0, 0, 0], [43, 0, 0]]))) : AC Try.prog 46 [.int .i64 2, .int .i64 1, .int .i64 1, .ptr 3 0 0, .ptr 6 0 0] s Q := by
  refine AC_upd (args' := [.int .i64 2, .int .i64 1, .int .i64 1, .ptr 1 0 0, .ptr 3 0 0]) (L := [.row true 38 [.ik .i64, .ik .i64, .ik .i64] [[100, 0, 255], [100, 0, 255]], .cells 0 [.int .i64 2, .int .i64 1, .sl 0 0 2 none], .row true 38 [.ik .i64, .ik .i64, .ik .i64] [[0, 0, 0], [43, 0, 0]], .cells 0 [.sl 2 0 2 none]]) [0, 3, 5, 6] (by decide) rfl (fun _ => rfl) (by rintro (_ | _ | _ | _ | i') a ob k1 k2 <;> simp at k1 k2 <;> subst k1 k2 <;> assumption) 2 5 rfl ?_
  refine AC_body tok 12 Try.func46 rfl (by kernel_rfl) ?_
  conv => whnf
  repeat' first
    | (refine AW_draw tok hP ?_; conv => whnf)
    | (refine And.intro (OkD.mk (by kernel_rfl)) ?_; conv => whnf)
    | (refine ditHands ?_; conv => whnf)
    | (refine AQ_pure (fun s Q h => ditHands h) ?_; conv => whnf)
    | (refine AQ_pure (fun s Q h => ditAt (n := 2) (x := 0) (k := 0) (by decide) (by decide) (PD.near2 0) h) ?_; conv => whnf)
    | (refine ditAt (n := 2) (x := 0) (k := 0) (by decide) (by decide) (PD.near2 0) ?_; conv => whnf)
    | fail
  exact ⟨rfl, .row true 38 [.ik .i64, .ik .i64, .ik .i64] [[0, 0, 0], [43, 0, 0]], rfl, rfl, h⟩
theorem spreadStep12 {s : List Ob} {Q : AV → List Ob → Prop} (h0 : s[0]? = some (.row true 38 [.ik .i64, .ik .i64, .ik .i64] [[100, 0, 255], [100, 0, 255]])) (h3 : s[3]? = some (.cells 0 [.int .i64 2, .int .i64 1, .sl 0 0 2 none])) (h5 : s[5]? = some (.row true 38 [.ik .i64, .ik .i64, .ik .i64] [[0, 0, 0], [43, 0, 0]])) (h6 : s[6]? = some (.cells 0 [.sl 5 0 2 none]))
    (h : Q (.int .i64 255) (s.set 5 (.row true 38 [.ik .i64, .ik .i64, .ik .i64] [[0, 0, 0], [43, 0, 0]]))) : AC Try.prog 46 [.int .i64 2, .int .i64 1, .int .i64 2, .ptr 3 0 0, .ptr 6 0 0] s Q := by
  refine AC_upd (args' := [.int .i64 2, .int .i64 1, .int .i64 2, .ptr 1 0 0, .ptr 3 0 0]) (L := [.row true 38 [.ik .i64, .ik .i64, .ik .i64] [[100, 0, 255], [100, 0, 255]], .cells 0 [.int .i64 2, .int .i64 1, .sl 0 0 2 none], .row true 38 [.ik .i64, .ik .i64, .ik .i64] [[0, 0, 0], [43, 0, 0]], .cells 0 [.sl 2 0 2 none]]) [0, 3, 5, 6] (by decide) rfl (fun _ => rfl) (by rintro (_ | _ | _ | _ | i') a ob k1 k2 <;> simp at k1 k2 <;> subst k1 k2 <;> assumption) 2 5 rfl ?_
  refine AC_body tok 12 Try.func46 rfl (by kernel_rfl) ?_
  conv => whnf
  repeat' first
    | (refine AW_draw tok hP ?_; conv => whnf)
    | (refine And.intro (OkD.mk (by kernel_rfl)) ?_; conv => whnf)
    | (refine ditHands ?_; conv => whnf)
    | (refine AQ_pure (fun s Q h => ditHands h) ?_; conv => whnf)
    | (refine AQ_pure (fun s Q h => ditAt (n := 2) (x := 255) (k := 1) (by decide) (by decide) (PD.near2 255) h) ?_; conv => whnf)
    | (refine ditAt (n := 2) (x := 255) (k := 1) (by decide) (by decide) (PD.near2 255) ?_; conv => whnf)
    | fail
  exact ⟨rfl, .row true 38 [.ik .i64, .ik .i64, .ik .i64] [[0, 0, 0], [43, 0, 0]], rfl, rfl, h⟩
theorem awake52 {s : List Ob} {Q : AV → List Ob → Prop} (hq : Q (.bool true) s) : AC Try.prog 11 [] s Q := by
  refine AC_pure rfl ?_
  refine AC_body tok 0 Try.func11 rfl (by kernel_rfl) ?_
  conv => whnf
  refine AC_body tok 12 Try.func19 rfl (by kernel_rfl) ?_
  conv => whnf
  refine AC_body tok 12 Try.func41 rfl (by kernel_rfl) ?_
  conv => whnf
  refine ditGiven (fun v hv => ?_)
  conv => whnf
  obtain rfl : v = true := by rw [hv]; decide
  conv => whnf
  refine AC_body tok 12 Try.func53 rfl (by kernel_rfl) ?_
  conv => whnf
  repeat' first
    | (refine AW_draw tok hP ?_; conv => whnf)
    | (refine And.intro (OkD.mk (by kernel_rfl)) ?_; conv => whnf)
    | (refine AC_body tok 12 Try.func57 rfl (by kernel_rfl) ?_; conv => whnf)
    | (refine AC_body tok 12 Try.func58 rfl (by kernel_rfl) ?_; conv => whnf)
    | fail
  try (refine AW_draw tok hP ?_; conv => whnf)
  refine AQ_upd [0, 3, 5, 6] (r := .int .i64 0) 5 (.row true 38 [.ik .i64, .ik .i64, .ik .i64] [[0, 0, 0], [43, 0, 0]]) (fun s' Q hl hC h => spreadStep00 ((hC 0 (by decide)).trans rfl) ((hC 3 (by decide)).trans rfl) ((hC 5 (by decide)).trans rfl) ((hC 6 (by decide)).trans rfl) h) ?_
  conv => whnf
  try (refine And.intro (OkD.mk (by kernel_rfl)) ?_; conv => whnf)
  try (refine AW_draw tok hP ?_; conv => whnf)
  refine AQ_upd [0, 3, 5, 6] (r := .int .i64 0) 5 (.row true 38 [.ik .i64, .ik .i64, .ik .i64] [[0, 0, 0], [43, 0, 0]]) (fun s' Q hl hC h => spreadStep01 ((hC 0 (by decide)).trans rfl) ((hC 3 (by decide)).trans rfl) ((hC 5 (by decide)).trans rfl) ((hC 6 (by decide)).trans rfl) h) ?_
  conv => whnf
  try (refine And.intro (OkD.mk (by kernel_rfl)) ?_; conv => whnf)
  try (refine AW_draw tok hP ?_; conv => whnf)
  refine AQ_upd [0, 3, 5, 6] (r := .int .i64 255) 5 (.row true 38 [.ik .i64, .ik .i64, .ik .i64] [[0, 0, 0], [43, 0, 0]]) (fun s' Q hl hC h => spreadStep02 ((hC 0 (by decide)).trans rfl) ((hC 3 (by decide)).trans rfl) ((hC 5 (by decide)).trans rfl) ((hC 6 (by decide)).trans rfl) h) ?_
  conv => whnf
  try (refine And.intro (OkD.mk (by kernel_rfl)) ?_; conv => whnf)
  try (refine AW_draw tok hP ?_; conv => whnf)
  refine AQ_upd [0, 3, 5, 6] (r := .int .i64 255) 5 (.row true 38 [.ik .i64, .ik .i64, .ik .i64] [[0, 0, 0], [43, 0, 0]]) (fun s' Q hl hC h => spreadStep10 ((hC 0 (by decide)).trans rfl) ((hC 3 (by decide)).trans rfl) ((hC 5 (by decide)).trans rfl) ((hC 6 (by decide)).trans rfl) h) ?_
  conv => whnf
  try (refine And.intro (OkD.mk (by kernel_rfl)) ?_; conv => whnf)
  try (refine AW_draw tok hP ?_; conv => whnf)
  refine AQ_upd [0, 3, 5, 6] (r := .int .i64 0) 5 (.row true 38 [.ik .i64, .ik .i64, .ik .i64] [[0, 0, 0], [43, 0, 0]]) (fun s' Q hl hC h => spreadStep11 ((hC 0 (by decide)).trans rfl) ((hC 3 (by decide)).trans rfl) ((hC 5 (by decide)).trans rfl) ((hC 6 (by decide)).trans rfl) h) ?_
  conv => whnf
  try (refine And.intro (OkD.mk (by kernel_rfl)) ?_; conv => whnf)
  try (refine AW_draw tok hP ?_; conv => whnf)
  refine AQ_upd [0, 3, 5, 6] (r := .int .i64 255) 5 (.row true 38 [.ik .i64, .ik .i64, .ik .i64] [[0, 0, 0], [43, 0, 0]]) (fun s' Q hl hC h => spreadStep12 ((hC 0 (by decide)).trans rfl) ((hC 3 (by decide)).trans rfl) ((hC 5 (by decide)).trans rfl) ((hC 6 (by decide)).trans rfl) h) ?_
  conv => whnf
  try (refine And.intro (OkD.mk (by kernel_rfl)) ?_; conv => whnf)
  try (refine AW_draw tok hP ?_; conv => whnf)
  first | refine AQ_int (fun sK QK hK => ditLevel hK) (fun v1 hv1 => ?_) | refine ditLevel (fun v1 hv1 => ?_)
  conv => whnf
  try (refine And.intro (OkD.mk (by kernel_rfl)) ?_; conv => whnf)
  obtain rfl : v1 = 127 := by rw [hv1]; decide
  conv => whnf
  try (refine AW_draw tok hP ?_; conv => whnf)
  first | refine AQ_pure (r := .int .i64 1) (fun sK QK hK => ditNear (n := 3) (x := 64) (fun g => absurd (by decide) g) (fun _ _ v hv => by obtain rfl := PD.near_uniq hv PD.near3a; exact hK)) ?_ | refine AC_pureR (r := .int .i64 1) (fun sK QK hK => ditNear (n := 3) (x := 64) (fun g => absurd (by decide) g) (fun _ _ v hv => by obtain rfl := PD.near_uniq hv PD.near3a; exact hK)) ?_
  conv => whnf
  try (refine And.intro (OkD.mk (by kernel_rfl)) ?_; conv => whnf)
  try (refine AW_draw tok hP ?_; conv => whnf)
  first | refine AQ_pure (r := .int .i64 0) (fun sK QK hK => ditNear (n := 3) (x := 63) (fun g => absurd (by decide) g) (fun _ _ v hv => by obtain rfl := PD.near_uniq hv PD.near3b; exact hK)) ?_ | refine AC_pureR (r := .int .i64 0) (fun sK QK hK => ditNear (n := 3) (x := 63) (fun g => absurd (by decide) g) (fun _ _ v hv => by obtain rfl := PD.near_uniq hv PD.near3b; exact hK)) ?_
  conv => whnf
  try (refine And.intro (OkD.mk (by kernel_rfl)) ?_; conv => whnf)
  refine ditCount2 (by rfl) ?_
  conv => whnf
  try (refine AW_draw tok hP ?_; conv => whnf)
  first | refine AQ_int (fun sK QK hK => ditLevel hK) (fun v2 hv2 => ?_) | refine ditLevel (fun v2 hv2 => ?_)
  conv => whnf
  try (refine And.intro (OkD.mk (by kernel_rfl)) ?_; conv => whnf)
  obtain rfl : v2 = 0 := by rw [hv2]; decide
  conv => whnf
  exact ⟨rfl, hq⟩
