/- Part of the proof of a law of the seat: its functions, walked. No condition. -/
import Derived.Test.YthhhgdefejogoaaA3Law52T
namespace Go.AW.A3
open Go Go.AW Go.Proofs
set_option maxRecDepth 100000
set_option maxHeartbeats 8000000
set_option linter.unusedVariables false
theorem ditCountL {W H : Int} {len : Nat} {rows : List (List Int)} (hlen : len = rows.length) (hp : picB W H rows = true) (hl : rows.length ≤ 1000000) (hfit : Fit3 rows) {e : TypeId} {own : Bool} {i : Nat} {s : List Ob} (hs : s[i]? = some (.row own e [.ik .i64, .ik .i64, .ik .i64] rows)) {Q : AV → List Ob → Prop}
    (h : ∀ v, v = countL rows.flatten → Q (.int .i64 v) s) : AC Try.prog 23 [.agg [.int .i64 W, .int .i64 H, .sl i 0 len none]] s Q := by subst hlen; exact ditCount hp hl hfit hs h
theorem refRightL {W H : Int} {len : Nat} {rows : List (List Int)} {e : TypeId} {own : Bool} (hlen : len = rows.length) (hl : rows.length ≤ 1000000) (hfit : Fit3 rows) (hp : picB W H rows = true) {i : Nat} {s : List Ob} (hs : s[i]? = some (.row own e [.ik .i64, .ik .i64, .ik .i64] rows)) {Q : AV → List Ob → Prop} (h : Q (.bool true) s) : AC Try.prog 25 [.agg [.int .i64 W, .int .i64 H, .sl i 0 len none]] s Q := by
  subst hlen
  exact refRight41 (by omega) hfit hs (fun v hv => by rw [hp] at hv; subst hv; exact h)
theorem ditPlainL {W H n : Int} {len : Nat} {rows : List (List Int)} {e : TypeId} {own : Bool} (hlen : len = rows.length) (hl : rows.length ≤ 64) (hfit : Fit3 rows) (hn : 2 ≤ n ∧ n ≤ 16) (hp : picB W H rows = true) {i : Nat} {s : List Ob} (hs : s[i]? = some (.row own e [.ik .i64, .ik .i64, .ik .i64] rows)) {Q : AV → List Ob → Prop}
    (h : Q (.agg [.int .i64 W, .int .i64 H, .sl s.length 0 len none]) (s ++ [.row true 38 [.ik .i64, .ik .i64, .ik .i64] (plainR n rows)])) : AC Try.prog 16 [.agg [.int .i64 W, .int .i64 H, .sl i 0 len none], .int .i64 n] s Q := by subst hlen; exact ditPlain (by omega) hfit hn hp hs h
theorem ditSpreadL {W H n : Int} {len : Nat} {rows : List (List Int)} {e : TypeId} {own : Bool} (hlen : len = rows.length) (hl : rows.length ≤ 64) (hfit : Fit3 rows) (hn : 2 ≤ n ∧ n ≤ 16) (hp : picB W H rows = true) {i : Nat} {s : List Ob} (hs : s[i]? = some (.row own e [.ik .i64, .ik .i64, .ik .i64] rows)) {Q : AV → List Ob → Prop}
    (h : Q (.agg [.int .i64 W, .int .i64 H, .sl s.length 0 len none]) (s ++ [.row true 38 [.ik .i64, .ik .i64, .ik .i64] (sprR n W.toNat H.toNat rows)])) : AC Try.prog 19 [.agg [.int .i64 W, .int .i64 H, .sl i 0 len none], .int .i64 n] s Q := by subst hlen; exact ditSpread (by omega) hfit hn hp hs h
theorem lawDitherLevels (avs : List AV) (obs : List Ob) (ha : ArgC 0 [.flat (.ik .i64), .flat (.ik .i64), .sl 38 [.ik .i64, .ik .i64, .ik .i64], .flat (.ik .u8)] avs obs) : AC Try.prog 5 (groupK [some 3, none] avs) obs fun r _ => r = .bool true := by
  cases ha with | int w1 ha => cases ha with | int w2 ha =>
  cases ha with
  | nils ha =>
    cases ha with | int w3 ha =>
    cases ha
    refine AC_body tok 3 Try.func5 rfl (by kernel_rfl) ?_
    conv => whnf
    refine refRight_n ?_
    conv => whnf
    exact awake52 rfl
  | sl0 ha =>
    cases ha with | int w3 ha =>
    cases ha
    refine AC_body tok 3 Try.func5 rfl (by kernel_rfl) ?_
    conv => whnf
    refine refRight_z ?_
    conv => whnf
    exact awake52 rfl
  | sl hl hf ha =>
    cases ha with | int w3 ha =>
    cases ha
    rename_i W H rows lv
    have ft := fit3_of hf
    replace w3 := wf_u8 w3
    refine AC_body tok 0 Try.func5 rfl (by kernel_rfl) ?_
    conv => whnf
    refine refRight41 hl ft (by rfl) (fun v hv => ?_)
    conv => whnf
    cases v
    · conv => whnf
      exact awake52 rfl
    conv => whnf
    by_cases g40 : (rows.length : Int) > 40
    · rw [decide_eq_true g40]
      conv => whnf
      exact awake52 rfl
    rw [decide_eq_false g40]
    conv => whnf
    have hp := hv.symm
    obtain ⟨n, en, hn⟩ : ∃ n, Z.add .i64 2 (Z.rem .i64 (IntKind.i64.wrap lv) 15) = n ∧ 2 ≤ n ∧ n ≤ 16 := by
      refine ⟨_, rfl, ?_⟩
      rw [show IntKind.i64.wrap lv = lv from Z.wrap_iid (by omega) (by omega)]
      have e : Z.rem .i64 lv 15 = lv % 15 := by unfold Z.rem; exact Int.tmod_eq_emod_of_nonneg (by omega)
      rw [e, show Z.add .i64 2 (lv % 15) = 2 + lv % 15 from Z.wrap_iid (by omega) (by omega)]; omega
    rw [en]
    try (refine AW_draw tok hP ?_; conv => whnf)
    refine AQ_read [0] (r := .agg [.int .i64 W, .int .i64 H, .sl 0 0 rows.length none]) (fun s' Q hl' hC h => of52 ((hC 0 (by decide)).trans rfl) h) ?_
    conv => whnf
    refine AQ_new [0] (r := .agg [.int .i64 W, .int .i64 H, .sl 5 0 rows.length none]) [.row true 38 [.ik .i64, .ik .i64, .ik .i64] (plainR n rows)] (fun s' Q hl' hC h => ditPlain (by omega) ft hn hp ((hC 0 (by decide)).trans rfl) (by rw [hl']; exact h)) ?_
    conv => whnf
    refine AQ_read [0] (r := .agg [.int .i64 W, .int .i64 H, .sl 0 0 rows.length none]) (fun s' Q hl' hC h => of52 ((hC 0 (by decide)).trans rfl) h) ?_
    conv => whnf
    refine AQ_new [0] (r := .agg [.int .i64 W, .int .i64 H, .sl 6 0 rows.length none]) [.row true 38 [.ik .i64, .ik .i64, .ik .i64] (sprR n W.toNat H.toNat rows)] (fun s' Q hl' hC h => ditSpread (by omega) ft hn hp ((hC 0 (by decide)).trans rfl) (by rw [hl']; exact h)) ?_
    conv => whnf
    refine AQ_read [0] (r := .agg [.int .i64 W, .int .i64 H, .sl 0 0 rows.length none]) (fun s' Q hl' hC h => of52 ((hC 0 (by decide)).trans rfl) h) ?_
    conv => whnf
    refine AQ_new [0] (r := .agg [.int .i64 W, .int .i64 H, .sl 7 0 rows.length none]) [.row true 38 [.ik .i64, .ik .i64, .ik .i64] (ordR n W rows)] (fun s' Q hl' hC h => ditOrdered (by omega) ft hn hp ((hC 0 (by decide)).trans rfl) (by rw [hl']; exact h)) ?_
    conv => whnf
    refine ⟨⟨by kernel_rfl⟩, ?_⟩
    conv => whnf
    have hWn : 0 < W.toNat := by have := PPi.pic_sides hp; omega
    have la := PS.plain_len n rows
    have lb := PS.spr_len n W.toNat H.toNat rows
    have lc := PD.ord_len n W rows
    have va := PS.plain_lev (n := n) ft
    have vb := PS.spr_lev (n := n) (H := H.toNat) (rows := rows) hWn
    have vc := PS.ord_lev (n := n) (W := W) ft
    have pa := PS.lev_pic hn hp va la
    have pb := PS.lev_pic hn hp vb lb
    have pc := PS.lev_pic hn hp vc lc
    have sides := PPi.pic_sides hp
    have hlen : 0 < (rows.length : Int) := by have := Int.mul_pos (show 0 < W by omega) (show 0 < H by omega); omega
    refine ditCountL la.symm pa (by omega) (PS.lev_fit hn va) (by rfl) (fun ca hca => ?_)
    conv => whnf
    rw [decide_eq_false (show ¬ ca > n by have := PS.lev_count hn va; omega)]
    conv => whnf
    refine ditCountL lb.symm pb (by omega) (PS.lev_fit hn vb) (by rfl) (fun cb hcb => ?_)
    conv => whnf
    rw [decide_eq_false (show ¬ cb > n by have := PS.lev_count hn vb; omega)]
    conv => whnf
    refine ditCountL lc.symm pc (by omega) (PS.lev_fit hn vc) (by rfl) (fun cc hcc => ?_)
    conv => whnf
    rw [decide_eq_false (show ¬ cc > n by have := PS.lev_count hn vc; omega)]
    conv => whnf
    refine ditCountL la.symm pa (by omega) (PS.lev_fit hn va) (by rfl) (fun cd hcd => ?_)
    conv => whnf
    rw [decide_eq_false (show ¬ cd < 1 by have := PS.lev_pos hn va (by omega); omega)]
    conv => whnf
    rw [show ((rows.length : Int) != rows.length) = false by simp]
    conv => whnf
    refine ALs.lp (ι := Nat) tok 4 [9] (fun k => [.int .i64 (k : Int)]) [] (fun k => []) (fun _ => ()) (fun k => k ≤ rows.length) (fun k => rows.length - k) (0) (Nat.zero_le _) (by rfl) (by rfl) rfl (Nat.le_of_ble_eq_true rfl) (fun _ => rfl) ?_
    rintro k k1
    conv => whnf
    by_cases dk : (k : Int) < rows.length
    · refine ifT (decide_eq_true dk) ?_
      conv => whnf
      replace dk : k < rows.length := by omega
      have kk : (0 : Int) ≤ (k : Int) ∧ (k : Int) < rows.length := ⟨by omega, by omega⟩
      have kt : 0 + ((k : Nat) : Int).toNat = k := by omega
      obtain ⟨x, y, z, er, hx, hy, hz⟩ := ft k dk
      have hb := PPi.pic_at hp dk
      rw [er] at hb
      simp only [bytesB, byteB, List.all_cons, List.all_nil, Bool.and_true, Bool.and_eq_true, decide_eq_true_eq] at hb
      have et : (plainR n rows).getD k [] = [atN n x, atN n y, atN n z] := by unfold plainR; rw [PR.map_getD _ _ [] [] dk, er]; rfl
      try (refine AW_draw tok hP ?_; conv => whnf)
      refine ixI kk.1 kk.2 ?_
      conv => whnf
      refine andP (by rw [kt, la]; omega) ?_
      conv => whnf
      refine ixI kk.1 kk.2 ?_
      conv => whnf
      refine andP (by rw [kt]; omega) ?_
      conv => whnf
      refine ⟨⟨by kernel_rfl⟩, ?_⟩
      conv => whnf
      rw [kt, et, er]
      have en1 : Z.sub .i64 n 1 = n - 1 := Z.wrap_iid (by omega) (by omega)
      refine nzI (by rw [en1]; omega) ?_
      conv => whnf
      have st : ∀ t : Int, 0 ≤ t ∧ t ≤ 255 → decide (Z.mul .i64 2 (mmI true (Z.sub .i64 (atN n t) t) (Z.neg .i64 (Z.sub .i64 (atN n t) t))) > Z.quo .i64 (Z.sub .i64 (Z.add .i64 255 n) 2) (Z.sub .i64 n 1)) = false := fun t ht => by
        have hs := PS.half_step hn ht
        have ab := PD.atN_b hn.1 hn.2 t
        have s1 : Z.sub .i64 (atN n t) t = atN n t - t := Z.wrap_iid (by omega) (by omega)
        have s2 : Z.neg .i64 (atN n t - t) = 0 - (atN n t - t) := Z.wrap_iid (by omega) (by omega)
        have m := mx_spec (atN n t - t) (0 - (atN n t - t))
        have s3 : Z.mul .i64 2 (mmI true (atN n t - t) (0 - (atN n t - t))) = 2 * mmI true (atN n t - t) (0 - (atN n t - t)) := Z.wrap_iid (by omega) (by omega)
        have s4 : Z.sub .i64 (Z.add .i64 255 n) 2 = 255 + n - 2 := by rw [show Z.add .i64 255 n = 255 + n from Z.wrap_iid (by omega) (by omega)]; exact Z.wrap_iid (by omega) (by omega)
        have s5 : Z.quo .i64 (255 + n - 2) (n - 1) = (255 + n - 2) / (n - 1) := quo_pos (by omega) (by omega) (by omega)
        rw [s1, s2, s3, s4, en1, s5]
        unfold absD at hs
        exact decide_eq_false (by omega)
      generalize hB : decide ((_ : Int) > _) = bB
      obtain rfl : bB = false := hB.symm.trans (st x hb.1)
      clear hB
      conv => whnf
      try (refine AW_draw tok hP ?_; conv => whnf)
      refine ixI kk.1 kk.2 ?_
      conv => whnf
      refine andP (by rw [kt, la]; omega) ?_
      conv => whnf
      refine ixI kk.1 kk.2 ?_
      conv => whnf
      refine andP (by rw [kt]; omega) ?_
      conv => whnf
      refine ⟨⟨by kernel_rfl⟩, ?_⟩
      conv => whnf
      rw [kt, et, er]
      refine nzI (by rw [en1]; omega) ?_
      conv => whnf
      generalize hB : decide ((_ : Int) > _) = bB
      obtain rfl : bB = false := hB.symm.trans (st y hb.2.1)
      clear hB
      conv => whnf
      try (refine AW_draw tok hP ?_; conv => whnf)
      refine ixI kk.1 kk.2 ?_
      conv => whnf
      refine andP (by rw [kt, la]; omega) ?_
      conv => whnf
      refine ixI kk.1 kk.2 ?_
      conv => whnf
      refine andP (by rw [kt]; omega) ?_
      conv => whnf
      refine ⟨⟨by kernel_rfl⟩, ?_⟩
      conv => whnf
      rw [kt, et, er]
      refine nzI (by rw [en1]; omega) ?_
      conv => whnf
      generalize hB : decide ((_ : Int) > _) = bB
      obtain rfl : bB = false := hB.symm.trans (st z hb.2.2)
      clear hB
      conv => whnf
      have ek : Z.add .i64 (k : Int) 1 = ((k + 1 : Nat) : Int) := Z.wrap_iid (by omega) (by omega)
      refine ⟨k + 1, [.int .i64 (Z.add .i64 (k : Int) 1)], [], _, rfl, rfl, rfl, ?_, ?_, ?_⟩
      · exact (by rw [ek])
      · exact (rfl)
      · exact ⟨by omega, by omega⟩
    · refine ifF (decide_eq_false dk) ?_
      conv => whnf
      refine AWs.go tok 0 ?_
      conv => whnf
      try (refine AW_draw tok hP ?_; conv => whnf)
      refine AQ_new [5] (r := .agg [.int .i64 W, .int .i64 H, .sl 8 0 rows.length none]) [.row true 38 [.ik .i64, .ik .i64, .ik .i64] (plainR n (plainR n rows))] (fun s' Q hl' hC h => ditPlainL la.symm (by omega) (PS.lev_fit hn va) hn pa ((hC 5 (by decide)).trans rfl) (by rw [hl']; exact h)) ?_
      conv => whnf
      rw [PS.plain_self hn va]
      refine AQ_read [8] (r := .agg [.int .i64 W, .int .i64 H, .sl 8 0 rows.length none]) (fun s' Q hl' hC h => back52 ((hC 8 (by decide)).trans rfl) h) ?_
      conv => whnf
      refine AQ_read [5] (r := .agg [.int .i64 W, .int .i64 H, .sl 5 0 rows.length none]) (fun s' Q hl' hC h => back52 ((hC 5 (by decide)).trans rfl) h) ?_
      conv => whnf
      refine AQ_read [8, 5] (r := .bool true) (fun s' Q hl' hC h => same41 (rows := plainR n rows) la.symm (by omega) (PS.lev_fit hn va) (by decide) ((hC 8 (by decide)).trans rfl) ((hC 5 (by decide)).trans rfl) h) ?_
      conv => whnf
      refine AQ_new [5] (r := .agg [.int .i64 W, .int .i64 H, .sl 9 0 rows.length none]) [.row true 38 [.ik .i64, .ik .i64, .ik .i64] (sprR n W.toNat H.toNat (plainR n rows))] (fun s' Q hl' hC h => ditSpreadL la.symm (by omega) (PS.lev_fit hn va) hn pa ((hC 5 (by decide)).trans rfl) (by rw [hl']; exact h)) ?_
      conv => whnf
      rw [PS.spr_self hn _ _ va]
      refine AQ_read [9] (r := .agg [.int .i64 W, .int .i64 H, .sl 9 0 rows.length none]) (fun s' Q hl' hC h => back52 ((hC 9 (by decide)).trans rfl) h) ?_
      conv => whnf
      refine AQ_read [5] (r := .agg [.int .i64 W, .int .i64 H, .sl 5 0 rows.length none]) (fun s' Q hl' hC h => back52 ((hC 5 (by decide)).trans rfl) h) ?_
      conv => whnf
      refine AQ_read [9, 5] (r := .bool true) (fun s' Q hl' hC h => same41 (rows := plainR n rows) la.symm (by omega) (PS.lev_fit hn va) (by decide) ((hC 9 (by decide)).trans rfl) ((hC 5 (by decide)).trans rfl) h) ?_
      conv => whnf
      refine AQ_new [6] (r := .agg [.int .i64 W, .int .i64 H, .sl 10 0 rows.length none]) [.row true 38 [.ik .i64, .ik .i64, .ik .i64] (plainR n (sprR n W.toNat H.toNat rows))] (fun s' Q hl' hC h => ditPlainL lb.symm (by omega) (PS.lev_fit hn vb) hn pb ((hC 6 (by decide)).trans rfl) (by rw [hl']; exact h)) ?_
      conv => whnf
      rw [PS.plain_self hn vb]
      refine AQ_read [10] (r := .agg [.int .i64 W, .int .i64 H, .sl 10 0 rows.length none]) (fun s' Q hl' hC h => back52 ((hC 10 (by decide)).trans rfl) h) ?_
      conv => whnf
      refine AQ_read [6] (r := .agg [.int .i64 W, .int .i64 H, .sl 6 0 rows.length none]) (fun s' Q hl' hC h => back52 ((hC 6 (by decide)).trans rfl) h) ?_
      conv => whnf
      refine AQ_read [10, 6] (r := .bool true) (fun s' Q hl' hC h => same41 (rows := sprR n W.toNat H.toNat rows) lb.symm (by omega) (PS.lev_fit hn vb) (by decide) ((hC 10 (by decide)).trans rfl) ((hC 6 (by decide)).trans rfl) h) ?_
      conv => whnf
      refine AQ_read [6] (r := .agg [.int .i64 W, .int .i64 H, .sl 6 0 rows.length none]) (fun s' Q hl' hC h => back52 ((hC 6 (by decide)).trans rfl) h) ?_
      conv => whnf
      refine AQ_read [6] (r := .bool true) (fun s' Q hl' hC h => refRightL lb.symm (by omega) (PS.lev_fit hn vb) pb ((hC 6 (by decide)).trans rfl) h) ?_
      conv => whnf
      refine AQ_read [7] (r := .agg [.int .i64 W, .int .i64 H, .sl 7 0 rows.length none]) (fun s' Q hl' hC h => back52 ((hC 7 (by decide)).trans rfl) h) ?_
      conv => whnf
      refine AQ_read [7] (r := .bool true) (fun s' Q hl' hC h => refRightL lc.symm (by omega) (PS.lev_fit hn vc) pc ((hC 7 (by decide)).trans rfl) h) ?_
      conv => whnf
      try (refine AW_draw tok hP ?_; conv => whnf)
      first | refine AQ_pure (fun sK QK hK => awake52 hK) ?_ | refine awake52 ?_
      conv => whnf
      try (refine And.intro (OkD.mk (by kernel_rfl)) ?_; conv => whnf)
