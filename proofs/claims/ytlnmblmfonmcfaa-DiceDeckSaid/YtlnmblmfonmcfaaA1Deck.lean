/- Part of the proof of a law of the seat: its functions, walked. No condition. -/
import Derived.Test.YtlnmblmfonmcfaaA1Dice
import Derived.Test.YtlnmblmfonmcfaaEngC
namespace Go.AW.A1
open Go Go.AW Go.Proofs
set_option maxRecDepth 100000
set_option linter.unusedVariables false

theorem deckTurn {b c : Int} {s : List Ob} {i : Nat} (hb : 0 ≤ b) (hs : s[i]? = some (.cells 0 [.bool true, .int .u64 b, .int .i64 c])) {Q : AV → List Ob → Prop}
    (h : ∀ v u, v = belowI (linkI b c) 65536 → u = Z.add .i64 c 1 → Q (.int .i64 v) (s.set i (.cells 0 [.bool true, .int .u64 b, .int .i64 u]))) : AC Try.prog 28 [.ptr i 0 0] s Q := by
  refine AC_one (args' := [.ptr 0 0 0]) i hs rfl ?_
  refine AC_body tok 0 Try.func28 rfl (by kernel_rfl) ?_
  conv => whnf
  refine AC_body tok 0 Try.func41 rfl (by kernel_rfl) ?_
  conv => whnf
  refine deckNext rfl (fun v u hv hu => ?_)
  conv => whnf
  refine below (by rw [hv]; exact xor_lo _ _) (by rw [hv]; exact xor_hi _ _) (fun v2 hv2 => ?_)
  conv => whnf
  exact ⟨rfl, rfl, h _ _ (by rw [hv2, hv]) hu⟩

theorem deckPick {b c n : Int} {s : List Ob} {i : Nat} (hs : s[i]? = some (.cells 0 [.bool true, .int .u64 b, .int .i64 c])) {Q : AV → List Ob → Prop}
    (h : ∀ v u, v = belowI (linkI b c) n → u = Z.add .i64 c 1 → Q (.int .i64 v) (s.set i (.cells 0 [.bool true, .int .u64 b, .int .i64 u]))) : AC Try.prog 29 [.ptr i 0 0, .int .i64 n] s Q := by
  refine AC_one (args' := [.ptr 0 0 0, .int .i64 n]) i hs rfl ?_
  refine AC_body tok 0 Try.func29 rfl (by kernel_rfl) ?_
  conv => whnf
  refine AC_body tok 0 Try.func41 rfl (by kernel_rfl) ?_
  conv => whnf
  refine deckNext rfl (fun v u hv hu => ?_)
  conv => whnf
  refine below (by rw [hv]; exact xor_lo _ _) (by rw [hv]; exact xor_hi _ _) (fun v2 hv2 => ?_)
  conv => whnf
  exact ⟨rfl, rfl, h _ _ (by rw [hv2, hv]) hu⟩

theorem deckCount {m b c : AV} {s : List Ob} {i : Nat} {n : Int} {x : Int} {q : Bool} (hs : s[i]? = some (.cells 0 [.bool q, .int .u64 x, .int .i64 n])) {Q : AV → List Ob → Prop}
    (h : Q (.int .i64 n) s) : AC Try.prog 30 [.ptr i 0 0] s Q := by
  refine AC_read (args' := [.ptr 0 0 0]) (L := [.cells 0 [.bool q, .int .u64 x, .int .i64 n]]) [i] (by simp) rfl rfl (by rintro (_ | i') j ob h1 h2 <;> simp at h1 h2; subst h1 h2; exact hs) ?_
  refine AC_body tok 0 Try.func30 rfl (by kernel_rfl) ?_
  conv => whnf
  exact ⟨rfl, rfl, h⟩


theorem nextNil {s : List Ob} {Q : AV → List Ob → Prop} (h : Q (.int .u64 0) s) : AC Try.prog 27 [.nilp] s Q := by
  refine AC_pure rfl ?_
  refine AC_body tok 0 Try.func27 rfl (by kernel_rfl) ?_
  conv => whnf
  exact ⟨rfl, h⟩
theorem turnNil {s : List Ob} {Q : AV → List Ob → Prop} (h : Q (.int .i64 0) s) : AC Try.prog 28 [.nilp] s Q := by
  refine AC_pure rfl ?_
  refine AC_body tok 0 Try.func28 rfl (by kernel_rfl) ?_
  conv => whnf
  refine AC_body tok 0 Try.func41 rfl (by kernel_rfl) ?_
  conv => whnf
  refine nextNil ?_
  conv => whnf
  refine below (by omega) (by omega) (fun v hv => ?_)
  obtain rfl : v = 0 := hv.trans (by decide +kernel)
  conv => whnf
  exact ⟨rfl, h⟩
theorem countNil {s : List Ob} {Q : AV → List Ob → Prop} (h : Q (.int .i64 0) s) : AC Try.prog 30 [.nilp] s Q := by
  refine AC_pure rfl ?_
  refine AC_body tok 0 Try.func30 rfl (by kernel_rfl) ?_
  conv => whnf
  exact ⟨rfl, h⟩
def plainOb : Ob := .cells 0 [.bool false, .int .u64 0, .int .i64 0]
theorem nextPlain {s : List Ob} {i : Nat} (hs : s[i]? = some plainOb) {Q : AV → List Ob → Prop} (h : Q (.int .u64 0) s) : AC Try.prog 27 [.ptr i 0 0] s Q := by
  refine AC_read (args' := [.ptr 0 0 0]) (L := [plainOb]) [i] (by simp) rfl rfl (by rintro (_ | i') j ob h1 h2 <;> simp at h1 h2; subst h1 h2; exact hs) ?_
  refine AC_body tok 0 Try.func27 rfl (by kernel_rfl) ?_
  conv => whnf
  exact ⟨rfl, rfl, h⟩
theorem pickPlain {s : List Ob} {i : Nat} (hs : s[i]? = some plainOb) {Q : AV → List Ob → Prop} (h : Q (.int .i64 0) s) : AC Try.prog 29 [.ptr i 0 0, .int .i64 9] s Q := by
  refine AC_read (args' := [.ptr 0 0 0, .int .i64 9]) (L := [plainOb]) [i] (by simp) rfl rfl (by rintro (_ | i') j ob h1 h2 <;> simp at h1 h2; subst h1 h2; exact hs) ?_
  refine AC_body tok 0 Try.func29 rfl (by kernel_rfl) ?_
  conv => whnf
  refine AC_body tok 0 Try.func41 rfl (by kernel_rfl) ?_
  conv => whnf
  refine nextPlain rfl ?_
  conv => whnf
  refine below (by omega) (by omega) (fun v hv => ?_)
  obtain rfl : v = 0 := hv.trans (by decide +kernel)
  conv => whnf
  exact ⟨rfl, rfl, h⟩
theorem bne_s {α : Type} [BEq α] [LawfulBEq α] (a : α) : (a != a) = false := by simp
theorem belowI_range {x n : Int} (hx : 0 ≤ x) (hx' : x < 18446744073709551616) : 0 ≤ belowI x n ∧ (0 < n → belowI x n < n) ∧ (n ≤ 0 → belowI x n = 0) := by
  unfold belowI
  split
  · exact ⟨by omega, fun h => h, fun _ => rfl⟩
  · rename_i h
    have h3 : 0 ≤ x * n := Int.mul_nonneg hx (by omega)
    have h4 : x * n < 18446744073709551616 * n := Int.mul_lt_mul_of_pos_right hx' (by omega)
    refine ⟨by omega, fun _ => ?_, fun h' => by omega⟩
    exact Int.ediv_lt_of_lt_mul (by omega) (by rw [Int.mul_comm n]; exact h4)

theorem law8 (avs : List AV) (obs : List Ob) (ha : ArgC 0 [.flat (.ik .u64), .flat (.ik .i64), .sl 3 [.ik .i64]] avs obs) : AC Try.prog 8 (groupK [none, none, none] avs) obs fun r _ => r = .bool true := by
  cases ha with
  | int w0 ha => cases ha with
    | int w1 ha => cases ha with
      | nils ha =>
        cases ha
        refine AC_body tok 1 Try.func8 rfl (by kernel_rfl) ?_
        conv => whnf
        refine deckNew (fun v1 h1 => ?_)
        conv => whnf
        refine nextNil ?_
        conv => whnf
        refine nextPlain rfl ?_
        conv => whnf
        refine turnNil ?_
        conv => whnf
        refine pickPlain rfl ?_
        conv => whnf
        refine countNil ?_
        conv => whnf
        refine deckCount (m := .junk) (b := .junk) (c := .junk) rfl ?_
        conv => whnf
        refine awake ?_
        conv => whnf
      | sl0 ha =>
        cases ha
        refine AC_body tok 1 Try.func8 rfl (by kernel_rfl) ?_
        conv => whnf
        refine deckNew (fun v1 h1 => ?_)
        conv => whnf
        refine nextNil ?_
        conv => whnf
        refine nextPlain rfl ?_
        conv => whnf
        refine turnNil ?_
        conv => whnf
        refine pickPlain rfl ?_
        conv => whnf
        refine countNil ?_
        conv => whnf
        refine deckCount (m := .junk) (b := .junk) (c := .junk) rfl ?_
        conv => whnf
        refine awake ?_
        conv => whnf
      | sl hl hf ha =>
        cases ha
        rename_i seed par rows
        refine AC_body tok 0 Try.func8 rfl (by kernel_rfl) ?_
        conv => whnf
        refine ifP (fun h => ?_) (fun h => ?_)
        · conv => whnf
          refine awake ?_
          conv => whnf
        · conv => whnf
          refine deckNew (fun v1 h1 => ?_)
          conv => whnf
          refine ALs.inv (ι := Int) tok 0 (keepN 9) (fun i => 0 ≤ i ∧ i ≤ rows.length) (fun i => ((rows.length : Int) - i).toNat)
            (fun i => [.int .u64 seed, .int .i64 par, .sl 0 0 rows.length none, .junk, .junk, .junk, .bool false, .ptr 1 0 0, .int .i64 i] ++ junks 110)
            (fun i => [.row false 3 [.ik .i64] rows, .cells 0 [.bool true, .int .u64 v1, .int .i64 i]]) (fun _ => ()) 0 ⟨by omega, by omega⟩ rfl rfl rfl ?_
          rintro i ⟨g1, g2⟩
          conv => whnf
          refine ifP (fun g3 => ?_) (fun g3 => ?_)
          · conv => whnf
            refine draw (fun x hx => ?_)
            have hx : x = linkI v1 i := by rw [hx, h1]; rfl
            conv => whnf
            refine andI (by simp [g1, g3]) ?_
            conv => whnf
            refine andP (by omega) ?_
            conv => whnf
            generalize hn : (rows.getD (0 + i.toNat) []).headD 0 = n
            have x0 : 0 ≤ x := by rw [hx]; exact xor_lo _ _
            have x1 : x < 18446744073709551616 := by rw [hx]; exact xor_hi _ _
            have e1 : Z.add .i64 i 1 = i + 1 := Z.wrap_iid (by omega) (by omega)
            refine ifI (fun q => ?_) (fun q => ?_)
            · conv => whnf
              refine deckNext rfl (fun v u hv hu => ?_)
              subst hu
              obtain rfl : v = x := hv.trans hx.symm
              conv => whnf
              first | rw [beq_self_eq_true] | rw [bne_s]
              conv => whnf
              refine deckCount (m := .junk) (b := .junk) (c := .junk) rfl ?_
              conv => whnf
              first | rw [beq_self_eq_true] | rw [bne_s]
              conv => whnf
              refine ⟨Z.add .i64 i 1, rfl, rfl, rfl, by omega, by omega, by omega⟩
            · conv => whnf
              refine ifI (fun q1 => ?_) (fun q1 => ?_)
              · conv => whnf
                refine deckTurn (by rw [h1]; exact xor_lo _ _) rfl (fun v u hv hu => ?_)
                subst hu
                rw [← hx] at hv
                conv => whnf
                refine below x0 x1 (fun v2 hv2 => ?_)
                obtain rfl : v2 = v := hv2.trans hv.symm
                have rg := belowI_range (n := 65536) x0 x1
                rw [← hv] at rg
                conv => whnf
                first | rw [beq_self_eq_true] | rw [bne_s]
                conv => whnf
                rw [decide_eq_false (show ¬ v2 < 0 by omega)]
                conv => whnf
                rw [decide_eq_false (show ¬ v2 > 65535 by omega)]
                conv => whnf
                refine deckCount (m := .junk) (b := .junk) (c := .junk) rfl ?_
                conv => whnf
                first | rw [beq_self_eq_true] | rw [bne_s]
                conv => whnf
                refine ⟨Z.add .i64 i 1, rfl, rfl, rfl, by omega, by omega, by omega⟩
              · conv => whnf
                refine andI (by simp [g1, g3]) ?_
                conv => whnf
                refine andP (by omega) ?_
                conv => whnf
                rw [hn]
                refine deckPick rfl (fun v u hv hu => ?_)
                subst hu
                rw [← hx] at hv
                conv => whnf
                refine andI (by simp [g1, g3]) ?_
                conv => whnf
                refine andP (by omega) ?_
                conv => whnf
                rw [hn]
                refine below x0 x1 (fun v2 hv2 => ?_)
                obtain rfl : v2 = v := hv2.trans hv.symm
                have rg := belowI_range (n := n) x0 x1
                rw [← hv] at rg
                conv => whnf
                first | rw [beq_self_eq_true] | rw [bne_s]
                conv => whnf
                rw [decide_eq_false (show ¬ v2 < 0 by omega)]
                conv => whnf
                by_cases p : v2 > 0
                · rw [decide_eq_true p]
                  conv => whnf
                  refine andI (by simp [g1, g3]) ?_
                  conv => whnf
                  refine andP (by omega) ?_
                  conv => whnf
                  rw [hn, decide_eq_false (show ¬ v2 ≥ n by omega)]
                  conv => whnf
                  refine deckCount (m := .junk) (b := .junk) (c := .junk) rfl ?_
                  conv => whnf
                  first | rw [beq_self_eq_true] | rw [bne_s]
                  conv => whnf
                  refine ⟨Z.add .i64 i 1, rfl, rfl, rfl, by omega, by omega, by omega⟩
                · rw [decide_eq_false p]
                  conv => whnf
                  refine deckCount (m := .junk) (b := .junk) (c := .junk) rfl ?_
                  conv => whnf
                  first | rw [beq_self_eq_true] | rw [bne_s]
                  conv => whnf
                  refine ⟨Z.add .i64 i 1, rfl, rfl, rfl, by omega, by omega, by omega⟩
          · conv => whnf
            refine nextNil ?_
            conv => whnf
            refine nextPlain rfl ?_
            conv => whnf
            refine turnNil ?_
            conv => whnf
            refine pickPlain rfl ?_
            conv => whnf
            refine countNil ?_
            conv => whnf
            refine deckCount (m := .junk) (b := .junk) (c := .junk) rfl ?_
            conv => whnf
            refine awake ?_
            conv => whnf
end Go.AW.A1
