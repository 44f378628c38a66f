/- Part of the proof of a law of the seat: its functions, walked. No condition. -/
import Derived.Test.YtoeafkgnhebbjaaA4ToneLaw
namespace Go.AW.A4
open Go Go.AW Go.Proofs
set_option maxRecDepth 100000
set_option linter.unusedVariables false
theorem mapB {own : Bool} {e : TypeId} {rows : List (List Int)} {i : Nat} {w : Int} {r : Bool} {s : List Ob} (hs : s[i]? = some (.row own e K3 rows)) (hl : rows.length ≤ 1000000) (hf : ∀ r ∈ rows, FitU r) (hw : 0 ≤ w) (hw' : w < 18446744073709551616) {Q : AV → List Ob → Prop}
    (h : Q (.sl s.length 0 rows.length none) (s ++ [.row true 42 [.ik .i64, .ik .i64, .ik .i64] (mapI rows w r)])) : AC Try.prog 30 [.sl i 0 rows.length none, .int .u64 w, .bool r] s Q := by
  cases r
  · exact mapF hs hl hf hw hw' h
  · exact mapT hs hl hf hw hw' h
theorem mapR0 {own : Bool} {e : TypeId} {i : Nat} {w : Int} {r : Bool} {s : List Ob} (hs : s[i]? = some (.row own e K3 [])) {Q : AV → List Ob → Prop} (h : Q .nils s) : AC Try.prog 31 [.sl i 0 0 none, .int .u64 w, .bool r] s Q := by
  refine AC_read (args' := [.sl 0 0 0 none, .int .u64 w, .bool r]) (L := [.row own e K3 []]) [i] (by simp) rfl rfl (by rintro (_ | i') j ob h1 h2 <;> simp at h1 h2; subst h1 h2; exact hs) ?_
  refine AC_body tok 1 Try.func31 rfl (by kernel_rfl) ?_
  conv => whnf
  refine ifP (fun g => ?_) (fun g => ?_)
  · conv => whnf
    refine whiteR (rows := []) rfl (by simp) (fun v hv => ?_)
    conv => whnf
    exact ⟨rfl, rfl, h⟩
  · conv => whnf
    exact ⟨rfl, rfl, h⟩
set_option maxHeartbeats 2000000 in
theorem lawToneTells (avs : List AV) (obs : List Ob) (ha : ArgC 0 [.sl 36 [.ik .u64, .ik .u64, .ik .u64], .flat (.ik .u64), .flat (.ik .u64), .flat .bl] avs obs) : AC Try.prog 8 (groupK [none, none, none, none] avs) obs fun r _ => r = .bool true := by
  cases ha with
  | nils ha =>
    cases ha with | int wx ha => cases ha with | int ww ha => cases ha with | bool ha =>
    cases ha
    rename_i x w r
    have x0 := wf_u64 wx; have w0 := wf_u64 ww
    refine AC_body tok 1 Try.func8 rfl (by kernel_rfl) ?_
    conv => whnf
    refine sum_nils ?_
    conv => whnf
    refine sumR_nils ?_
    conv => whnf
    refine map_nils ?_
    conv => whnf
    refine mapR_nils ?_
    conv => whnf
    refine white_nils ?_
    conv => whnf
    refine whiteR_nils ?_
    conv => whnf
    refine byte x0.1 x0.2 w0.1 w0.2 (fun a ha => ?_)
    conv => whnf
    refine byteR x0.1 x0.2 w0.1 w0.2 (fun b hb => ?_)
    obtain rfl : b = a := hb.trans ha.symm
    conv => whnf
    rw [beq_self_eq_true b]
    conv => whnf
    refine meanNil ?_
    conv => whnf
    refine meanR_nils ?_
    conv => whnf
    exact awake40 rfl
  | sl0 ha =>
    cases ha with | int wx ha => cases ha with | int ww ha => cases ha with | bool ha =>
    cases ha
    rename_i x w r
    have x0 := wf_u64 wx; have w0 := wf_u64 ww
    refine AC_body tok 1 Try.func8 rfl (by kernel_rfl) ?_
    conv => whnf
    refine sum_sl0 ?_
    conv => whnf
    refine sumR_sl0 ?_
    conv => whnf
    refine map_sl0 ?_
    conv => whnf
    refine mapR_sl0 ?_
    conv => whnf
    refine white_sl0 ?_
    conv => whnf
    refine whiteR_sl0 ?_
    conv => whnf
    refine byte x0.1 x0.2 w0.1 w0.2 (fun a ha => ?_)
    conv => whnf
    refine byteR x0.1 x0.2 w0.1 w0.2 (fun b hb => ?_)
    obtain rfl : b = a := hb.trans ha.symm
    conv => whnf
    rw [beq_self_eq_true b]
    conv => whnf
    refine mean_sl0 ?_
    conv => whnf
    refine meanR_sl0 ?_
    conv => whnf
    exact awake40 rfl
  | sl hl hf ha =>
    cases ha with | int wx ha => cases ha with | int ww ha => cases ha with | bool ha =>
    cases ha
    rename_i rows x w r
    have x0 := wf_u64 wx; have w0 := wf_u64 ww
    have hf : ∀ r ∈ rows, FitU r := fun r hr => fitU_of (hf r hr)
    refine AC_body tok 0 Try.func8 rfl (by kernel_rfl) ?_
    conv => whnf
    by_cases k1 : (rows.length : Int) > 30
    · rw [decide_eq_true k1]
      conv => whnf
      exact awake40 rfl
    · rw [decide_eq_false k1]
      conv => whnf
      refine sum rfl (by omega) hf (fun a p ha hp => ?_)
      conv => whnf
      refine sumR rfl (by omega) hf (fun b q hb hq => ?_)
      obtain rfl : b = a := hb.trans ha.symm
      obtain rfl : q = p := hq.trans hp.symm
      conv => whnf
      refine mapB rfl (by omega) hf w0.1 w0.2 ?_
      conv => whnf
      by_cases k2 : rows.length = 0
      · obtain rfl : rows = [] := List.length_eq_zero_iff.1 k2
        refine mapR0 rfl ?_
        conv => whnf
        refine ALs.round tok 0 ?_
        conv => whnf
        refine AWs.go tok 0 ?_
        conv => whnf
        refine white (rows := []) rfl (by simp) (fun u hu => ?_)
        conv => whnf
        refine whiteR (rows := []) rfl (by simp) (fun v hv => ?_)
        obtain rfl : v = u := hv.trans hu.symm
        conv => whnf
        rw [beq_self_eq_true v]
        conv => whnf
        refine byte x0.1 x0.2 w0.1 w0.2 (fun c hc => ?_)
        conv => whnf
        refine byteR x0.1 x0.2 w0.1 w0.2 (fun d hd => ?_)
        obtain rfl : d = c := hd.trans hc.symm
        conv => whnf
        rw [beq_self_eq_true d]
        conv => whnf
        rw [beq_self_eq_true b]
        conv => whnf
        rw [beq_self_eq_true q]
        conv => whnf
        refine mean (rows := []) rfl (by simp) hf (fun m hm => ?_)
        conv => whnf
        refine meanR (rows := []) rfl (by simp) hf (fun n hn => ?_)
        obtain rfl : n = m := hn.trans hm.symm
        conv => whnf
        rw [beq_self_eq_true n]
        conv => whnf
        exact awake40 rfl
      · refine mapR rfl (by omega) (by omega) hf w0.1 w0.2 ?_
        conv => whnf
        rw [bne_s (rows.length : Int)]
        conv => whnf
        refine ALs.invD (ι := Int) tok 0 [true, true, true, true, false, false, false, false, true, true, true, true, true, true, true, true] (fun i => 0 ≤ i ∧ i ≤ rows.length) (fun i => ((rows.length : Int) - i).toNat)
          (fun i => [.sl 0 0 rows.length none, .int .u64 x, .int .u64 w, .bool r, .junk, .junk, .junk, .junk, .bool false, .int .u64 b, .bool q, .int .u64 b, .bool q, .sl 1 0 rows.length none, .sl 2 0 rows.length none, .int .i64 i] ++ junks 78)
          (fun _ => [.row false 36 K3 rows, .row true 42 [.ik .i64, .ik .i64, .ik .i64] (mapI rows w r), .row true 42 [.ik .i64, .ik .i64, .ik .i64] (mapI rows w r)]) (fun _ => ()) 0 ⟨by omega, by omega⟩ (by rfl) ⟨[], rfl⟩ rfl (fun _ => Nat.le_add_left 1 2) (fun _ => rfl) ?_
        have ml : (mapI rows w r).length = rows.length := by simp [mapI]
        rintro i ⟨i1, i2⟩
        conv => whnf
        refine ifP (fun d => ?_) (fun d => ?_)
        · have d : i < rows.length := d
          have e1 : Z.add .i64 i 1 = i + 1 := Z.wrap_iid (by omega) (by omega)
          conv => whnf
          refine AW_draw tok hP ?_
          conv => whnf
          repeat (first | (refine ixI i1 d ?_; conv => whnf) | (refine andP (by omega) ?_; conv => whnf))
          refine ⟨⟨by kernel_rfl⟩, ?_⟩
          conv => whnf
          refine ifF (by simp) ?_
          conv => whnf
          refine ⟨Z.add .i64 i 1, [], rfl, rfl, rfl, ?_, ?_⟩
          · show (rows.length - Z.add .i64 i 1).toNat < (rows.length - i).toNat; rw [e1]; omega
          · rw [e1]; omega
        · conv => whnf
          have d : ¬ i < rows.length := d
          refine AWs.go tok 0 ?_
          conv => whnf
          refine white rfl (by omega) (fun u hu => ?_)
          conv => whnf
          refine whiteR rfl (by omega) (fun v hv => ?_)
          obtain rfl : v = u := hv.trans hu.symm
          conv => whnf
          rw [beq_self_eq_true v]
          conv => whnf
          refine byte x0.1 x0.2 w0.1 w0.2 (fun c hc => ?_)
          conv => whnf
          refine byteR x0.1 x0.2 w0.1 w0.2 (fun d hd => ?_)
          obtain rfl : d = c := hd.trans hc.symm
          conv => whnf
          rw [beq_self_eq_true d]
          conv => whnf
          rw [beq_self_eq_true b]
          conv => whnf
          rw [beq_self_eq_true q]
          conv => whnf
          refine mean rfl (by omega) hf (fun m hm => ?_)
          conv => whnf
          refine meanR rfl (by omega) hf (fun n hn => ?_)
          obtain rfl : n = m := hn.trans hm.symm
          conv => whnf
          rw [beq_self_eq_true n]
          conv => whnf
          exact awake40 rfl
end Go.AW.A4
