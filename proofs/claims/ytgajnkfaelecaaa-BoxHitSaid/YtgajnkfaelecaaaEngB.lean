/- Part of the proof of a law of the seat: the engine (states without addresses, and what they say of a run). No condition. -/
import Derived.Test.YtgajnkfaelecaaaEngA
import Derived.Scope
/- The engine, 9: makes, addresses, parts, slices, built-ins; all operations together. -/
namespace Go.AW
open Go
set_option linter.unusedVariables false
set_option linter.unusedSimpArgs false

section
variable {P : Program} {T : TT} {μ : MM} {s : List Ob} {w : World} {t : List AV} {a : Act} {id : Nat} {o : Oper} {k : AV → Eff → FP → Prop}

theorem flatV_made (ks : List CK) (z : Array Value) (hz : z.toList = rowV ks (ks.map fun _ => 0)) (len cap : Nat) (h : len ≤ cap) : (madeCells z (cap * ks.length)).toList.take (len * ks.length) = flatV ks (List.replicate len (ks.map fun _ => 0)) := by
  have hzs : z.size = ks.length := by have := congrArg List.length hz; simpa [length_rowV] using this
  have hb : (List.replicate len (ks.map fun _ => (0 : Int))).length * ks.length ≤ (madeCells z (cap * ks.length)).toList.length := by
    simp [size_madeCells]; exact Nat.mul_le_mul_right _ h
  have key := (take_flatV_iff (ks := ks) hb).2 (by
    intro i j hi hj
    simp only [List.length_replicate] at hi
    have hx : i * ks.length + j < cap * ks.length := by
      calc i * ks.length + j < i * ks.length + ks.length := by omega
        _ = (i + 1) * ks.length := (Nat.succ_mul _ _).symm
        _ ≤ cap * ks.length := Nat.mul_le_mul_right _ (by omega)
    have hm : (i * ks.length + j) % ks.length = j := by rw [Nat.mul_comm, Nat.mul_add_mod, Nat.mod_eq_of_lt hj]
    have h1 : (List.replicate len (ks.map fun _ => (0 : Int))).getD i [] = ks.map fun _ => 0 := by simp [hi]
    rw [h1, ← hz]
    simp only [madeCells, Array.toList_map, Array.toList_range, List.getElem?_map, List.getElem?_range hx, Option.map_some, hzs, hm]
    rw [getElem!_pos z j (by omega)]
    simp [hzs, hj])
  simpa using key

theorem aval_makeSlice (hT : TOk P T) (hr : Rel μ s w) (ht : VRL (Live s) μ t a.tmps.toList) (hid : s[id]? = some .dead) {ty : TypeId} {lx cx : Operand} (ho : o.op = .makeSlice ty lx cx)
    (h : aval T id (.makeSlice ty lx cx) t s k) : Out P o a id μ s w k := by
  simp only [aval] at h
  obtain ⟨ti, hti, h⟩ := (tyK_at _ _ _).1 h
  obtain ⟨info, d, hok⟩ := hT _ _ hti
  split at h
  case h_2 => exact h.elim
  case h_1 e hk =>
  have hd := slice_elem hok hk
  obtain ⟨te, hte, h⟩ := (tyK_at _ _ _).1 h
  obtain ⟨ie, de, hoke⟩ := hT _ _ hte
  split at h
  case h_2 => exact h.elim
  case h_1 ks hks =>
  obtain ⟨v1, h, hv1⟩ := evK_sound ht h
  obtain ⟨q1, len, rfl, h, hlx⟩ := intK_sound hv1 h
  obtain ⟨v2, h, hv2⟩ := evK_sound ht h
  obtain ⟨q2, cap, rfl, h, hcx⟩ := intK_sound hv2 h
  obtain ⟨hc, h⟩ := (andK_iff _ _).1 h
  simp only [Bool.and_eq_true, decide_eq_true_eq] at hc
  obtain ⟨⟨⟨h0, hlc⟩, hby⟩, h63⟩ := hc
  obtain ⟨hksl, z, hz, hzr⟩ := hoke.ks _ hks
  have hrun := run_make (P := P) w ty e ie z (by rw [hok.und, hd]) hoke.inf hz q1 q2 len cap h0 hlc (by rw [hoke.bytes]; omega) h63
  refine ⟨_, _, _, h, OpOK.made hr hid (by simp) rfl (cv := .slice (some ⟨w.heap.size, 0, none⟩) len.toNat cap.toNat) (e := e) (cs := madeCells z.cells (cap.toNat * ie.size)) (by simp [execOp, ho, hlx, hcx, hrun])
    (OR.newRow (cap := cap.toNat) (by simp; omega) (by unfold maxLen; omega) (by rw [size_madeCells, hoke.size, hksl]) ?_) (sl_new hid (by simp) _ (by omega))⟩
  rw [List.length_replicate, hoke.size, ← hksl]
  exact flatV_made ks z.cells hzr _ _ (by omega)

theorem addr_add (b o n : Nat) : (⟨b, o, none⟩ : Addr).add n = ⟨b, o + n, none⟩ := Addr.add_mid b o n

theorem aval_fieldAddr (hT : TOk P T) (hr : Rel μ s w) (ht : VRL (Live s) μ t a.tmps.toList) {ty : TypeId} {x : Operand} {f : Nat} (ho : o.op = .fieldAddr ty x f)
    (h : aval T id (.fieldAddr ty x f) t s k) : Out P o a id μ s w k := by
  simp only [aval] at h
  obtain ⟨ti, hti, h⟩ := (tyK_at _ _ _).1 h
  obtain ⟨info, d, hok⟩ := hT _ _ hti
  obtain ⟨v, h, hv⟩ := evK_sound ht h
  obtain ⟨i, r, j, rfl, h, hlive, hx⟩ := ptrK_sound hv h
  split at h
  case h_2 => exact h.elim
  case h_1 fs hk =>
  obtain ⟨F, hd, hF⟩ := struct_field hok hk
  obtain ⟨fd, hfd, h⟩ := (nthK_iff _ _ _).1 h
  obtain ⟨tf, htf, h⟩ := (tyK_at _ _ _).1 h
  obtain ⟨hne, h⟩ := (andK_iff _ _).1 h
  obtain ⟨inf, hi1, hi2⟩ := info_size hT htf
  rw [hF] at hfd
  simp only [List.getElem?_map, Option.map_eq_some_iff] at hfd
  obtain ⟨fl, hfl, rfl⟩ := hfd
  simp only at hi1 hne h
  have hfl' : F[f]? = some fl := by simpa using hfl
  simp only [Bool.not_eq_true', beq_eq_false_iff_ne] at hne
  refine ⟨_, _, _, h, OpOK.pure hr (cv := .pointer (some ⟨(μ i).blk, (μ i).off + (r * (μ i).sz + j) + fl.offset, none⟩)) ?_ (by simp only [VR]; exact ⟨hlive, by rw [Nat.add_assoc, Nat.add_assoc]⟩)⟩
  have hs : (sizeOf fl.type).run P w = .ok inf.size w := by simp [sizeOf, typeInfo, hi1]
  simp [execOp, ho, hx, Instr.fieldAt, run_underlying hok.und, hd, hfl', Instr.sureAddr, fieldPlace, hs, hi2, hne, addr_add]

theorem run_part_gen {ty : Nat} {ti : TI} (hT : TOk P T) (hti : T.at ty = some ti) {cs : List Value} {off : Nat} {l : List AV} (hl : VRL (Live s) μ l cs) {K : AV → Prop}
    (h : dropK l off fun l' => cond ti.k.isAgg (takeK l' ti.size fun r => K (.agg r)) (nthK l' 0 K)) : ∃ v cv, K v ∧ VR (Live s) μ v cv ∧ (part ty cs.toArray off).run P w = .ok cv w := by
  obtain ⟨info, d, hok⟩ := hT _ _ hti
  obtain ⟨hle, h⟩ := (dropK_iff _ _ _).1 h
  have hs : (sizeOf ty).run P w = .ok info.size w := by simp [sizeOf, typeInfo, hok.inf]
  have hagg : (isAgg ty).run P w = .ok ti.k.isAgg w := by
    unfold isAgg
    rw [Sem.run_bind, run_underlying hok.und w, hok.isAgg]
    cases d <;> simp [TypeDesc.isRow]
  rcases (cond_iff _ _ _).1 h with ⟨hg, h⟩ | ⟨hg, h⟩
  · obtain ⟨hle2, h⟩ := (takeK_iff _ _ _).1 h
    refine ⟨_, .agg ((cs.drop off).take ti.size).toArray, h, by simp only [VR]; exact ⟨_, rfl, (hl.drop off).take ti.size⟩, ?_⟩
    simp [part, hagg, hg, hs, hok.size, List.extract_toArray, List.take_drop]
  · obtain ⟨u, hu, h⟩ := (nthK_iff _ _ _).1 h
    obtain ⟨cv, hcv, hv⟩ := (hl.drop off).get hu
    refine ⟨u, cv, h, hv, ?_⟩
    simp at hcv
    simp [part, hagg, hg, hcv]

theorem aval_field (hT : TOk P T) (hr : Rel μ s w) (ht : VRL (Live s) μ t a.tmps.toList) {ty : TypeId} {x : Operand} {f : Nat} (ho : o.op = .field ty x f)
    (h : aval T id (.field ty x f) t s k) : Out P o a id μ s w k := by
  simp only [aval] at h
  obtain ⟨ti, hti, h⟩ := (tyK_at _ _ _).1 h
  obtain ⟨info, d, hok⟩ := hT _ _ hti
  obtain ⟨v, h, hv⟩ := evK_sound ht h
  split at h
  case h_2 => exact h.elim
  case h_1 fs l hk =>
  obtain ⟨F, hd, hF⟩ := struct_field hok hk
  obtain ⟨fd, hfd, h⟩ := (nthK_iff _ _ _).1 h
  obtain ⟨tf, htf, h⟩ := (tyK_at _ _ _).1 h
  rw [hF] at hfd
  simp only [List.getElem?_map, Option.map_eq_some_iff] at hfd
  obtain ⟨fl, hfl, rfl⟩ := hfd
  have hfl' : F[f]? = some fl := by simpa using hfl
  simp only [VR] at hv
  obtain ⟨cs, hx, hl⟩ := hv
  obtain ⟨v, cv, hK, hv, hrun⟩ := run_part_gen (w := w) hT htf hl (K := fun v => k v .none none) h
  exact ⟨_, _, _, hK, OpOK.pure hr (by simp [execOp, ho, hx, Instr.field, run_underlying hok.und, hd, hfl', asAgg, hrun]) hv⟩

theorem obsz (hr : Rel μ s w) {i : Nat} {ob : Ob} (hi : s[i]? = some ob) {K : Nat → Prop} (h : szK ob K) : K (μ i).sz ∧ ob ≠ .dead := by
  have := hr.ob i ob hi
  cases ob with
  | dead => exact h.elim
  | cells sz c => simp only [OR] at this; exact ⟨by rw [this.2.1]; exact h, by simp⟩
  | row own e ks l => exact ⟨by rw [(row_sz this).1]; exact h, by simp⟩

theorem aval_indexAddr (hT : TOk P T) (hr : Rel μ s w) (ht : VRL (Live s) μ t a.tmps.toList) {ty : TypeId} {x ix : Operand} (ho : o.op = .indexAddr ty x ix)
    (h : aval T id (.indexAddr ty x ix) t s k) : Out P o a id μ s w k := by
  simp only [aval] at h
  obtain ⟨ti, hti, h⟩ := (tyK_at _ _ _).1 h
  obtain ⟨info, d, hok⟩ := hT _ _ hti
  obtain ⟨iv, h, hiv⟩ := evK_sound ht h
  obtain ⟨q, n, rfl, h, hix⟩ := intK_sound hiv h
  obtain ⟨v, h, hv⟩ := evK_sound ht h
  split at h
  case h_3 => exact h.elim
  case h_1 len e i r j hk =>
    have hd := array_elem hok hk
    obtain ⟨hc, h⟩ := (andK_iff _ _).1 h
    simp only [Bool.and_eq_true, decide_eq_true_eq] at hc
    simp only [VR] at hv
    obtain ⟨hlive, hx⟩ := hv
    have fin : ∀ sz (info' : TypeInfo), P.info? e = some info' → info'.size = sz → (execOp a.eval o).run P w = .ok (.value (.pointer (some ⟨(μ i).blk, (μ i).off + (r * (μ i).sz + j) + n.toNat * sz, none⟩))) w := by
      intro sz info' hi hs
      simp [execOp, ho, hx, hix, Instr.indexAt, run_underlying hok.und, hd, asIntOf, Instr.sureAddr, hc.1, hc.2, sizeOf, typeInfo, hi, hs, addr_add]
    split at h
    case h_1 q' n' ks hb =>
      obtain ⟨hd', hn, hsize, _, z, hz, hzc, ie, hie, hies⟩ := hok.big _ _ _ hb
      rw [hd] at hd'
      obtain ⟨rfl, rfl⟩ : len = n' ∧ e = q' := by simpa using hd'
      obtain ⟨hc2, h⟩ := (andK_iff _ _).1 h
      simp only [Bool.and_eq_true, decide_eq_true_eq] at hc2
      obtain ⟨hr0, hj0⟩ := hc2
      obtain ⟨ob, hob, h⟩ := (nthK_iff _ _ _).1 h
      split at h
      case h_2 => exact h.elim
      case h_1 own e' ks' l =>
      obtain ⟨hks, hkk⟩ := (andK_iff _ _).1 h
      simp only [decide_eq_true_eq] at hks
      have hsz := (row_sz (hr.ob i _ hob)).1
      subst hks hr0 hj0
      exact ⟨_, _, _, hkk, OpOK.pure hr (fin _ ie hie hies) (by simp only [VR]; exact ⟨hlive, by rw [hsz]; simp⟩)⟩
    case h_2 =>
      obtain ⟨te, hte, h⟩ := (tyK_at _ _ _).1 h
      obtain ⟨ie, hie, hies⟩ := info_size hT hte
      exact ⟨_, _, _, h, OpOK.pure hr (fin _ ie hie hies) (by simp only [VR]; exact ⟨hlive, by rw [Nat.add_assoc, Nat.add_assoc]⟩)⟩
  case h_2 e i off len lim hk =>
    have hd := slice_elem hok hk
    obtain ⟨hc, h⟩ := (andK_iff _ _).1 h
    simp only [Bool.and_eq_true, decide_eq_true_eq] at hc
    obtain ⟨te, hte, h⟩ := (tyK_at _ _ _).1 h
    obtain ⟨ie, hie, hies⟩ := info_size hT hte
    obtain ⟨ob, hob, h⟩ := (nthK_iff _ _ _).1 h
    obtain ⟨h, hnd⟩ := obsz hr hob h
    obtain ⟨hsz, h⟩ := (andK_iff _ _).1 h
    simp only [beq_iff_eq] at hsz
    simp only [VR] at hv
    obtain ⟨hlive, cap, ad, hx, had, hlc, hcap, _⟩ := hv
    have had := had (by omega)
    subst had
    refine ⟨_, _, _, h, OpOK.pure hr (cv := .pointer (some ⟨(μ i).blk, (μ i).off + off * (μ i).sz + n.toNat * te.size, none⟩)) ?_ (by simp only [VR]; exact ⟨hlive, by rw [Nat.add_mul, hsz, Nat.add_zero, Nat.add_assoc]⟩)⟩
    simp [execOp, ho, hx, hix, Instr.indexAt, run_underlying hok.und, hd, asIntOf, hc.1, hc.2, sizeOf, typeInfo, hie, hies, addr_add]

theorem flatV_row (ks : List CK) (l : List (List Int)) (i : Nat) (h : i < l.length) : ((flatV ks l).drop (i * ks.length)).take ks.length = rowV ks (l.getD i []) := by
  apply List.ext_getElem?
  intro j
  rw [List.getElem?_take]
  split
  · rename_i hj
    rw [List.getElem?_drop, flatV_get ks l i j h hj]
  · rename_i hj
    rw [List.getElem?_eq_none (by rw [length_rowV]; omega)]

theorem aval_index (hT : TOk P T) (hr : Rel μ s w) (ht : VRL (Live s) μ t a.tmps.toList) {ty : TypeId} {x ix : Operand} (ho : o.op = .index ty x ix)
    (h : aval T id (.index ty x ix) t s k) : Out P o a id μ s w k := by
  simp only [aval] at h
  obtain ⟨ti, hti, h⟩ := (tyK_at _ _ _).1 h
  obtain ⟨info, d, hok⟩ := hT _ _ hti
  obtain ⟨iv, h, hiv⟩ := evK_sound ht h
  obtain ⟨q, n, rfl, h, hix⟩ := intK_sound hiv h
  obtain ⟨v, h, hv⟩ := evK_sound ht h
  split at h
  case h_4 => exact h.elim
  case h_3 b hk =>
    obtain ⟨hc, h⟩ := (andK_iff _ _).1 h
    simp only [Bool.and_eq_true, decide_eq_true_eq] at hc
    have hd : d = .string := by
      have := hok.kok
      rw [hk] at this
      cases d <;> simp [kokB] at this
      rfl
    simp only [VR] at hv
    have hlt : n.toNat < b.size := by omega
    have hlt' : n.toNat < b.data.size := hlt
    have hget : b[n.toNat]? = some b.data[n.toNat] := by
      rw [getElem?_pos b n.toNat hlt]; rfl
    have hd0 : b.data.getD n.toNat 0 = b.data[n.toNat] := by unfold Array.getD; rw [dif_pos hlt']; rfl
    rw [hd0] at h
    exact ⟨_, _, _, h, OpOK.pure hr (cv := .int .u8 (b.data[n.toNat].toNat : Int)) (by simp [execOp, ho, hv, hix, Instr.index, run_underlying hok.und, hd, asIntOf, hc.1, hget]) (by simp only [VR])⟩
  case h_1 len e l hk =>
    have hd := array_elem hok hk
    obtain ⟨hc, h⟩ := (andK_iff _ _).1 h
    simp only [Bool.and_eq_true, decide_eq_true_eq] at hc
    obtain ⟨te, hte, h⟩ := (tyK_at _ _ _).1 h
    obtain ⟨ie, hie, hies⟩ := info_size hT hte
    simp only [VR] at hv
    obtain ⟨cs, hx, hl⟩ := hv
    obtain ⟨v, cv, hK, hv, hrun⟩ := run_part_gen (w := w) hT hte hl (K := fun v => k v .none none) h
    exact ⟨_, _, _, hK, OpOK.pure hr (by simp [execOp, ho, hx, hix, Instr.index, run_underlying hok.und, hd, asIntOf, hc.1, hc.2, sizeOf, typeInfo, hie, hies, hrun]) hv⟩
  case h_2 len e ks l hk =>
    have hd := array_elem hok hk
    obtain ⟨hc, h⟩ := (andK_iff _ _).1 h
    simp only [Bool.and_eq_true, decide_eq_true_eq] at hc
    obtain ⟨te, hte, h⟩ := (tyK_at _ _ _).1 h
    obtain ⟨ie, de, hoke⟩ := hT _ _ hte
    obtain ⟨hsz, h⟩ := (andK_iff _ _).1 h
    simp only [decide_eq_true_eq] at hsz
    simp only [VR] at hv
    have hs : (sizeOf e).run P w = .ok ie.size w := by simp [sizeOf, typeInfo, hoke.inf]
    have hagg : (isAgg e).run P w = .ok te.k.isAgg w := by
      unfold isAgg
      rw [Sem.run_bind, run_underlying hoke.und w, hoke.isAgg]
      cases de <;> simp [TypeDesc.isRow]
    have hnl : n.toNat < l.length := by rw [hc.2]; omega
    have hfr := flatV_row ks l n.toNat hnl
    have hrow : VRL (Live s) μ (rowCells ks l n.toNat) (rowV ks (l.getD n.toNat [])) := VRL_row _ _
    have fin : ∀ cv, (part e (flatV ks l).toArray (n.toNat * ks.length)).run P w = .ok cv w → (execOp a.eval o).run P w = .ok (.value cv) w := by
      intro cv hcv
      simp [execOp, ho, hv, hix, Instr.index, run_underlying hok.und, hd, asIntOf, hc.1.1, hc.1.2, sizeOf, typeInfo, hoke.inf, hoke.size, hsz, hcv]
    rcases (cond_iff _ _ _).1 h with ⟨hg, h⟩ | ⟨hg, h⟩
    · refine ⟨_, _, _, h, OpOK.pure hr (fin (.agg (rowV ks (l.getD n.toNat [])).toArray) ?_) (by simp only [VR]; exact ⟨_, rfl, hrow⟩)⟩
      simp only [part, Sem.run_bind, hagg, hg, Result.andThen_ok, if_true, hs, hoke.size, hsz, Sem.run_pure]
      rw [← hfr]
      simp [List.extract_toArray, List.take_drop]
    · obtain ⟨u, hu, h⟩ := (nthK_iff _ _ _).1 h
      obtain ⟨cv, hcv, hvu⟩ := hrow.get hu
      refine ⟨_, _, _, h, OpOK.pure hr (fin cv ?_) hvu⟩
      have hks : 0 < ks.length := by have := (List.getElem?_eq_some_iff.1 hcv).1; rw [length_rowV] at this; exact this
      have h1 := flatV_get ks l n.toNat 0 hnl hks
      rw [hcv, Nat.add_zero] at h1
      simp [part, hagg, hg, h1]

theorem boundK_sound {D : Nat → Prop} (ht : VRL D μ t a.tmps.toList) {ox : Option Operand} {dflt : Nat} {K : Int → Prop} (h : boundK t ox dflt K) :
    ∃ n, K n ∧ ((ox = none ∧ n = dflt) ∨ ∃ x q, ox = some x ∧ a.eval x = .int q n) := by
  cases ox with
  | none => exact ⟨_, h, .inl ⟨rfl, rfl⟩⟩
  | some x =>
    simp only [boundK] at h
    obtain ⟨v, h, hv⟩ := evK_sound ht h
    obtain ⟨q, n, rfl, h, hx⟩ := intK_sound hv h
    exact ⟨n, h, .inr ⟨x, q, rfl, hx⟩⟩

theorem run_bounds (len cap : Nat) (hlc : len ≤ cap) (lo hi : Option Operand) (l h : Int) (hl : (lo = none ∧ l = 0) ∨ ∃ x q, lo = some x ∧ a.eval x = .int q l) (hh : (hi = none ∧ h = len) ∨ ∃ x q, hi = some x ∧ a.eval x = .int q h)
    (h0 : 0 ≤ h) (h1 : h ≤ len) (l0 : 0 ≤ l) (l1 : l ≤ h) : (Instr.sliceBounds true len cap (lo.map a.eval) (hi.map a.eval) none).run P w = .ok (l.toNat, h.toNat, cap) w := by
  have e1 : h ≤ (cap : Int) := by omega
  rcases hh with ⟨rfl, rfl⟩ | ⟨x, q, rfl, hx⟩
  · rcases hl with ⟨rfl, rfl⟩ | ⟨y, q', rfl, hy⟩
    · simp [Instr.sliceBounds]
    · simp [Instr.sliceBounds, Instr.sliceBound, hy, asIntOf, l0, l1]
  · rcases hl with ⟨rfl, rfl⟩ | ⟨y, q', rfl, hy⟩
    · simp [Instr.sliceBounds, Instr.sliceBound, hx, asIntOf, h0, e1]
    · have e2 : l ≤ ((h.toNat : Nat) : Int) := by omega
      simp [Instr.sliceBounds, Instr.sliceBound, hx, hy, asIntOf, h0, e1, l0, e2]
      intro hlt; omega

theorem aval_slice (hT : TOk P T) (hr : Rel μ s w) (ht : VRL (Live s) μ t a.tmps.toList) {ty : TypeId} {x : Operand} {lo hi : Option Operand} (ho : o.op = .slice ty x lo hi none)
    (h : aval T id (.slice ty x lo hi none) t s k) : Out P o a id μ s w k := by
  simp only [aval] at h
  obtain ⟨ti, hti, h⟩ := (tyK_at _ _ _).1 h
  obtain ⟨info, d, hok⟩ := hT _ _ hti
  obtain ⟨v, h, hv⟩ := evK_sound ht h
  split at h
  case h_4 => exact h.elim
  case h_1 e i off len lim hk =>
    have hd := slice_elem hok hk
    obtain ⟨te, hte, h⟩ := (tyK_at _ _ _).1 h
    obtain ⟨ie, hie, hies⟩ := info_size hT hte
    obtain ⟨ob, hob, h⟩ := (nthK_iff _ _ _).1 h
    obtain ⟨h, hnd⟩ := obsz hr hob h
    obtain ⟨hsz, h⟩ := (andK_iff _ _).1 h
    simp only [beq_iff_eq] at hsz
    simp only [VR] at hv
    obtain ⟨hlive, cap, ad, hx, had, hlc, hcap, hlim⟩ := hv
    obtain ⟨hv, h, hhv⟩ := boundK_sound ht h
    obtain ⟨hc1, h⟩ := (andK_iff _ _).1 h
    obtain ⟨lv, h, hlv⟩ := boundK_sound ht h
    obtain ⟨hc2, h⟩ := (andK_iff _ _).1 h
    simp only [Bool.and_eq_true, decide_eq_true_eq] at hc1 hc2
    have hb := run_bounds (P := P) (w := w) (a := a) len cap hlc lo hi lv hv (by simpa using hlv) hhv hc1.1 hc1.2 hc2.1 hc2.2
    refine ⟨_, _, _, h, OpOK.pure hr (cv := .slice (some (if cap = lv.toNat then ad else ad.add (lv.toNat * te.size))) (hv.toNat - lv.toNat) (cap - lv.toNat)) ?_ ?_⟩
    · simp only [execOp, ho, Instr.sliceAt, hx, Sem.run_bind, run_underlying hok.und, hd, Result.andThen_ok, Instr.slice, hb, sizeOf, typeInfo]
      simp only [Option.map_none, Sem.run_bind, hb, Result.andThen_ok]
      simp [hie, hies, typeInfo]
      split <;> rfl
    · simp only [VR]
      refine ⟨hlive, cap - lv.toNat, _, rfl, fun hne => ?_, by omega, by omega, ?_⟩
      · rw [if_neg (by omega), had (by omega), addr_add]
        congr 1
        rw [Nat.add_mul, hsz, Nat.add_assoc]
      · cases lim with
        | none => simp only [Option.map_none] at hlim ⊢; omega
        | some c => simp only [Option.map_some] at hlim ⊢; omega
  case h_2 e hk =>
    have hd := slice_elem hok hk
    simp only [VR] at hv
    obtain ⟨hv', h, hhv⟩ := boundK_sound ht h
    obtain ⟨hc1, h⟩ := (andK_iff _ _).1 h
    obtain ⟨lv, h, hlv⟩ := boundK_sound ht h
    obtain ⟨hc2, h⟩ := (andK_iff _ _).1 h
    simp only [Bool.and_eq_true, decide_eq_true_eq] at hc1 hc2
    have hb := run_bounds (P := P) (w := w) (a := a) 0 0 (Nat.le_refl _) lo hi lv hv' (by simpa using hlv) (by simpa using hhv) hc1.1 (by simpa using hc1.2) hc2.1 hc2.2
    have hl0 : lv.toNat = 0 := by omega
    have hh0 : hv'.toNat = 0 := by omega
    have hp := hok.parts
    rw [hk] at hp
    obtain ⟨ie, hie⟩ := Option.isSome_iff_exists.1 hp
    refine ⟨_, _, _, h, OpOK.pure hr (cv := .slice none 0 0) ?_ (by simp [VR])⟩
    simp only [execOp, ho, Instr.sliceAt, hv, Sem.run_bind, run_underlying hok.und, hd, Result.andThen_ok, Instr.slice, sizeOf, typeInfo]
    simp only [Option.map_none, Sem.run_bind, hb, Result.andThen_ok, hl0, hh0]
    simp [hie, typeInfo]
  case h_3 e hk =>
    have hd := slice_elem hok hk
    simp only [VR] at hv
    obtain ⟨ad, hv⟩ := hv
    obtain ⟨hv', h, hhv⟩ := boundK_sound ht h
    obtain ⟨hc1, h⟩ := (andK_iff _ _).1 h
    obtain ⟨lv, h, hlv⟩ := boundK_sound ht h
    obtain ⟨hc2, h⟩ := (andK_iff _ _).1 h
    simp only [Bool.and_eq_true, decide_eq_true_eq] at hc1 hc2
    have hb := run_bounds (P := P) (w := w) (a := a) 0 0 (Nat.le_refl _) lo hi lv hv' (by simpa using hlv) (by simpa using hhv) hc1.1 (by simpa using hc1.2) hc2.1 hc2.2
    have hl0 : lv.toNat = 0 := by omega
    have hh0 : hv'.toNat = 0 := by omega
    have hp := hok.parts
    rw [hk] at hp
    obtain ⟨ie, hie⟩ := Option.isSome_iff_exists.1 hp
    refine ⟨_, _, _, h, OpOK.pure hr (cv := .slice (some ad) 0 0) ?_ (by simp [VR])⟩
    simp only [execOp, ho, Instr.sliceAt, hv, Sem.run_bind, run_underlying hok.und, hd, Result.andThen_ok, Instr.slice, sizeOf, typeInfo]
    simp only [Option.map_none, Sem.run_bind, hb, Result.andThen_ok, hl0, hh0]
    simp [hie, typeInfo]

theorem VR_int {D : Nat → Prop} (q : IntKind) (n : Int) : VR D μ (.int q n) (.int q n) := by simp [VR]

theorem aBuiltin_sound (hT : TOk P T) {b : Builtin} {ats : Array TypeId} {vs : List AV} {cs : Array Value} (hl : VRL (Live s) μ vs cs.toList) {K : AV → Prop} (h : aBuiltin T ats.toList b vs K) (ty : TypeId) (con : Array Bool) :
    ∃ r cr, K r ∧ VR (Live s) μ r cr ∧ (builtin b ats ty con cs).run P w = .ok (.value cr) w := by
  unfold aBuiltin at h
  split at h
  case h_4 => exact h.elim
  case h_1 =>
    split at h
    case h_2 => exact h.elim
    case h_1 ty0 r hts =>
    have hat : ats[0]? = some ty0 := by rw [← Array.getElem?_toList, hts]; rfl
    obtain ⟨ti, hti, h2⟩ := (tyK_at _ _ _).1 h
    clear h
    obtain ⟨info, d, hok⟩ := hT _ _ hti
    split at h2
    case h_5 => exact h2.elim
    case h_3 =>
      rename_i hk
      have hd := slice_elem hok hk
      simp only [VRL] at hl
      obtain ⟨c, r', hc, hv, rfl⟩ := hl
      have hc0 : cs[0]? = some c := by rw [← Array.getElem?_toList, hc]; rfl
      simp only [VR] at hv
      obtain ⟨ad, rfl⟩ := hv
      exact ⟨_, .int .i64 0, h2, by simp [VR], by simp [builtin, Builtin.len_, hat, hc0, run_underlying hok.und, hd, goInt]⟩
    case h_1 =>
      rename_i hk
      have hd := slice_elem hok hk
      simp only [VRL] at hl
      obtain ⟨c, r', hc, hv, rfl⟩ := hl
      have hc0 : cs[0]? = some c := by rw [← Array.getElem?_toList, hc]; rfl
      simp only [VR] at hv
      obtain ⟨_, cap, ad, rfl, _⟩ := hv
      refine ⟨_, _, h2, (VR_int _ _), ?_⟩; simp [builtin, Builtin.len_, hat, hc0, run_underlying hok.und, hd, goInt]
    case h_2 =>
      rename_i hk
      have hd := slice_elem hok hk
      simp only [VRL] at hl
      obtain ⟨c, r', hc, hv, rfl⟩ := hl
      have hc0 : cs[0]? = some c := by rw [← Array.getElem?_toList, hc]; rfl
      simp only [VR] at hv
      subst hv
      exact ⟨_, .int .i64 0, h2, by simp [VR], by simp [builtin, Builtin.len_, hat, hc0, run_underlying hok.und, hd, goInt]⟩
    case h_4 =>
      rename_i hk
      have hd : d = .string := by
        have := hok.kok
        rw [hk] at this
        cases d <;> simp [kokB] at this
        rfl
      simp only [VRL] at hl
      obtain ⟨c, r', hc, hv, rfl⟩ := hl
      have hc0 : cs[0]? = some c := by rw [← Array.getElem?_toList, hc]; rfl
      simp only [VR] at hv
      subst hv
      refine ⟨_, _, h2, (VR_int _ _), ?_⟩; simp [builtin, Builtin.len_, hat, hc0, run_underlying hok.und, hd, goInt]
  case h_2 q x r =>
    simp only [VRL] at hl
    obtain ⟨c, r', hc, hv, hr'⟩ := hl
    obtain ⟨rv, cr, h, hvr, hrun⟩ := minmaxK_sound (P := P) (w := w) hv hr' h
    refine ⟨rv, cr, h, hvr, ?_⟩
    simp only [if_true] at hrun
    simp [builtin, Builtin.max_, hc, hrun]
  case h_3 q x r =>
    simp only [VRL] at hl
    obtain ⟨c, r', hc, hv, hr'⟩ := hl
    obtain ⟨rv, cr, h, hvr, hrun⟩ := minmaxK_sound (P := P) (w := w) hv hr' h
    refine ⟨rv, cr, h, hvr, ?_⟩
    simp only [Bool.false_eq_true, if_false] at hrun
    simp [builtin, Builtin.min_, hc, hrun]

theorem aval_builtin (hT : TOk P T) (hr : Rel μ s w) (ht : VRL (Live s) μ t a.tmps.toList) {c : Call} (ho : o.op = .call c)
    (h : aval T id (.call c) t s k) : Out P o a id μ s w k := by
  simp only [aval] at h
  split at h
  case h_2 => exact h.elim
  case h_1 b hb =>
  obtain ⟨vs, h, hvs⟩ := evsK_sound ht h
  have hcs : VRL (Live s) μ vs (c.args.map a.eval).toList := by simpa using hvs
  obtain ⟨r, cr, h, hv, hrun⟩ := aBuiltin_sound (w := w) hT hcs h o.type (c.args.map fun | .const _ => true | _ => false)
  refine ⟨r, _, _, h, OpOK.pure hr ?_ hv⟩
  simp [execOp, ho, resolve, hb, invoke]
  exact hrun

/-- **ALL THAT 'aval' SPEAKS OF.** -/
theorem aval_sound (hT : TOk P T) (hr : Rel μ s w) (ht : VRL (Live s) μ t a.tmps.toList) (hid : Op.makes o.op = true → s[id]? = some .dead)
    (h : aval T id o.op t s k) : Out P o a id μ s w k := by
  have ho : ∀ x, o.op = x → aval T id x t s k := by rintro x rfl; exact h
  cases hop : o.op
  case move x => exact aval_move hr ht (.inl hop) (ho _ hop)
  case assign x => exact aval_move hr ht (.inr hop) (ho _ hop)
  case pick c x y => exact aval_pick hr ht hop (ho _ hop)
  case nilCheck x => exact aval_nilCheck hr ht hop (ho _ hop)
  case alloc e => exact aval_alloc hT hr (hid (by rw [hop]; rfl)) hop (ho _ hop)
  case box e x => exact aval_box hT hr ht (hid (by rw [hop]; rfl)) hop (ho _ hop)
  case build ty ps => exact aval_build hT hr ht hop (ho _ hop)
  case buildSlice ty n ps => exact aval_buildSlice hT hr ht (hid (by rw [hop]; rfl)) hop (ho _ hop)
  case makeSlice ty l c => exact aval_makeSlice hT hr ht (hid (by rw [hop]; rfl)) hop (ho _ hop)
  case load ty x => exact aval_load hT hr ht hop (ho _ hop)
  case store ty x y => exact aval_store hT hr ht hop (ho _ hop)
  case binOp op ty x y ty' => exact aval_binOp hT hr ht hop (ho _ hop)
  case unOp op ty x => exact aval_unOp hr ht hop (ho _ hop)
  case convert src dst x => exact aval_convert hT hr ht hop (ho _ hop)
  case makeFunc fn x y =>
    cases fn
    case func f => exact aval_makeFunc hr ht hop (ho _ hop)
    all_goals exact (ho _ hop).elim
  case fieldAddr ty x f => exact aval_fieldAddr hT hr ht hop (ho _ hop)
  case field ty x f => exact aval_field hT hr ht hop (ho _ hop)
  case indexAddr ty x ix => exact aval_indexAddr hT hr ht hop (ho _ hop)
  case index ty x ix => exact aval_index hT hr ht hop (ho _ hop)
  case slice ty x lo hi mx =>
    cases mx
    case none => exact aval_slice hT hr ht hop (ho _ hop)
    case some => exact (ho _ hop).elim
  case extract x i => exact aval_extract hr ht hop (ho _ hop)
  case call c => exact aval_builtin hT hr ht hop (ho _ hop)
  all_goals exact (ho _ hop).elim

end
end Go.AW

/- The engine, 10: calls, and the list of a region's operations. -/
namespace Go.AW
open Go
set_option linter.unusedVariables false
set_option linter.unusedSimpArgs false

/-- the fence of everything, within a round or not -/
def FR (r : Option Nat) : Fence := { Fence.wide with round := r }

theorem callsIn_FR {r : Option Nat} {n : Nat} {P : Program} {f : FuncId} {args : Array Value} {w : World} {R : Ending → World → Prop} (h : Calls P f args w R) : CallsIn (FR r) n P f args w R := by
  have := (callsIn_wide (n := n)).2 h
  exact this

theorem roundIn_FR {r : Option Nat} {n : Nat} {P : Program} {l : Nat} {f : FuncId} {tmps : Array Value} {assign body : Code} {w : World} {R : Ending → World → Prop} (h : RoundIn Fence.wide n P l f tmps assign body w R) : RoundIn (FR r) n P l f tmps assign body w R := h

variable {σ : Type}

/-- a call of a function with a body, or of one that the model knows by itself -/
def Ran (P : Program) (f : FuncId) (args : Array Value) (w : World) (R : Ending → World → Prop) : Prop :=
  ((∃ fn, P.funcs[f]? = some fn ∧ fn.body.isNone = false ∧ (fn.name == "runtime.NumGoroutine") = false) ∧ Calls P f args w R) ∨
  ∃ v w', (callFunc f args).run P w = .ok (.value v) w' ∧ R (.returned v) w'

theorem Ran.mono {P : Program} {f : FuncId} {args : Array Value} {w : World} {R R' : Ending → World → Prop} (h : Ran P f args w R) (hr : ∀ e w', R e w' → R' e w') : Ran P f args w R' := by
  rcases h with ⟨h1, h2⟩ | ⟨v, w', h1, h2⟩
  · exact .inl ⟨h1, h2.mono hr⟩
  · exact .inr ⟨v, w', h1, hr _ _ h2⟩

/-- **A CALL**: from every world that the state speaks of the call returns; what Q asks holds of what it returns and leaves. -/
def ACo (P : Program) (O : Outer σ) (f : FuncId) (args : List AV) (s : List Ob) (x : σ) (Q : AV → List Ob → σ → Prop) : Prop :=
  ∀ μ (cargs : Array Value) w B, Rel μ s w → VRL (Live s) μ args cargs.toList → O.I x B w → (∀ b, B b → ¬ LV μ s b) →
    Ran P f cargs w fun e w' => ∃ r s' x' μ' B' v, Q r s' x' ∧ e = .returned v ∧ VR (Live s') μ' r v ∧ Rel μ' s' w' ∧ O.I x' B' w' ∧ After s.length μ s B w μ' s' B' w'

/-- a call that knows of nothing about it -/
structure AC (P : Program) (f : FuncId) (args : List AV) (s : List Ob) (Q : AV → List Ob → Prop) : Prop where
  of : ACo P Outer.none f args s () fun r s' _ => Q r s'

/-- a value without objects -/
def AV.flat : AV → Bool
  | .bool _ | .int .. | .str _ | .arr .. | .nilp | .nils | .sl0 | .nilf | .nili => true
  | .agg l => flatL l
  | .tup l => flatL l
  | _ => false
where flatL : List AV → Bool
  | [] => true
  | v :: r => AV.flat v && flatL r

mutual
theorem VR.flat {D D' : Nat → Prop} {μ μ' : MM} : ∀ {a : AV} {v : Value}, a.flat = true → VR D μ a v → VR D' μ' a v
  | .junk, _, h, _ => by simp [AV.flat] at h
  | .bool _, _, _, h => by simpa only [VR] using h
  | .int _ _, _, _, h => by simpa only [VR] using h
  | .str _, _, _, h => by simpa only [VR] using h
  | .agg l, _, hf, h => by
    simp only [VR] at h ⊢
    obtain ⟨cs, e, h⟩ := h
    exact ⟨cs, e, VRL.flat (by simpa [AV.flat] using hf) h⟩
  | .arr _ _, _, _, h => by simpa only [VR] using h
  | .tup l, _, hf, h => by
    simp only [VR] at h ⊢
    obtain ⟨cs, e, h⟩ := h
    exact ⟨cs, e, VRL.flat (by simpa [AV.flat] using hf) h⟩
  | .nilp, _, _, h => by simpa only [VR] using h
  | .ptr _ _ _, _, h, _ => by simp [AV.flat] at h
  | .nils, _, _, h => by simpa only [VR] using h
  | .sl0, _, _, h => by simpa only [VR] using h
  | .sl _ _ _ _, _, h, _ => by simp [AV.flat] at h
  | .fn _ _ _, _, h, _ => by simp [AV.flat] at h
  | .yld _, _, h, _ => by simp [AV.flat] at h
  | .nilf, _, _, h => by simpa only [VR] using h
  | .nili, _, _, h => by simpa only [VR] using h
  | .iface _ _, _, h, _ => by simp [AV.flat] at h
theorem VRL.flat {D D' : Nat → Prop} {μ μ' : MM} : ∀ {l : List AV} {vs : List Value}, AV.flat.flatL l = true → VRL D μ l vs → VRL D' μ' l vs
  | [], _, _, h => by simpa only [VRL] using h
  | a :: l, _, hf, h => by
    simp only [VRL] at h ⊢
    simp only [AV.flat.flatL, Bool.and_eq_true] at hf
    obtain ⟨v, r, e, h1, h2⟩ := h
    exact ⟨v, r, e, VR.flat hf.1 h1, VRL.flat hf.2 h2⟩
end

/-- **A CALL OF yield** -/
def AY (P : Program) (O : Outer σ) (l : Nat) (args : List AV) (x : σ) (Q : Bool → σ → Prop) : Prop :=
  ∀ (cargs : Array Value) w B, VRL (fun _ => False) (fun _ => default) args cargs.toList → O.I x B w →
    YieldAt Fence.wide 0 P l cargs w fun e w' => ∃ b x' B', Q b x' ∧ e = .returned (.bool b) ∧ O.I x' B' w' ∧ Fr B w w' ∧ ∀ k, B' k → B k ∨ w.heap.size ≤ k

def appK {α : Type} : List α → List α → (List α → Prop) → Prop
  | [], l, k => k l
  | x :: xs, l, k => appK xs l fun r => k (x :: r)

theorem appK_iff {α : Type} : ∀ (a b : List α) (k : List α → Prop), appK a b k ↔ k (a ++ b)
  | [], _, _ => Iff.rfl
  | x :: xs, b, k => by simp [appK, appK_iff xs b]

def callK (P : Program) (O : Outer σ) (fv : AV) (args : List AV) (s : List Ob) (x : σ) (K : AV → List Ob → σ → Prop) : Prop :=
  match fv with
  | .fn f a b => appK args b fun l => appK a l fun l => AC P f l s fun r s' => K r s' x
  | .yld l => andK (AV.flat.flatL args) (AY P O l args x fun b x' => K (.bool b) s x')
  | _ => False

/-- what an appended slice holds -/
def srcK (s : List Ob) (ks : List CK) : AV → (List (List Int) → Prop) → Prop
  | .sl i off len _, K => nthK s i fun ob => match ob with
    | .row _ _ ks' l => andK (decide (ks = ks') && decide (off + len ≤ l.length)) (K ((l.drop off).take len))
    | _ => False
  | _, _ => False

def appendK (T : TT) (n0 id : Nat) (ts : List TypeId) (vs : List AV) (t : List AV) (s : List Ob) (K : AV → List AV → List Ob → Prop) : Prop :=
  match ts, vs with
  | [ty, ty2], [dst, src] => andK (ty == ty2) <| tyK T ty fun ti => match ti.k with
    | .slice e => tyK T e fun te => match te.ks with
      | some ks => andK (!(te.size == 0)) <| srcK s ks src fun data =>
          match dst with
          | .nils => andK (decide (data.length * te.bytes ≤ 140737488355328) && decide (data.length ≤ 9223372036854775807)) (cond (decide (data.length = 0)) (K .nils t s)
              (setK s id (.row true e ks data) fun s' => K (.sl id 0 data.length none) t s'))
          | .sl i off len none => nthK s i fun ob => match ob with
            | .row true e' ks' l => andK (decide (e = e') && decide (ks = ks') && decide (off = 0) && decide (len = l.length) && decide (n0 ≤ i) && decide ((len + data.length) * te.bytes ≤ 140737488355328) && decide (len + data.length ≤ 9223372036854775807))
                (sweepT i t fun t' => sweepS i s fun s1 => setK s1 i (.row true e ks (l ++ data)) fun s' => K (.sl i 0 (len + data.length) none) t' s')
            | _ => False
          | _ => False
      | none => False
    | _ => False
  | _, _ => False

/-- one operation -/
def aoper (P : Program) (O : Outer σ) (T : TT) (n0 id : Nat) (o : Oper) (t : List AV) (s : List Ob) (x : σ) (k : List AV → List Ob → σ → Prop) : Prop :=
  match o.op with
  | .call c => match c.callee with
    | .value f => evK t f fun fv => evsK t c.args.toList fun args => callK P O fv args s x fun r s' x' => putK t o.dst r fun t' => k t' s' x'
    | .builtin .append => evsK t c.args.toList fun vs => appendK T n0 id c.argTypes.toList vs t s fun v t1 s' => putK t1 o.dst v fun t' => k t' s' x
    | .builtin b => evsK t c.args.toList fun vs => aBuiltin T c.argTypes.toList b vs fun v => putK t o.dst v fun t' => k t' s x
    | .invoke .. => False
  | op => aval T id op t s fun v e _ => putK t o.dst v fun t' => effK s e fun s' => k t' s' x

/-- what an operation yielded, against what is wanted of it: one that was passed by yielded nothing -/
def wantK (want : Bool) : AV → (Bool → Prop) → Prop
  | .bool b, K => K (b == want)
  | .tup [], K => K false
  | _, _ => False

def guardK (all : List Oper) (g : Option (Nat × Bool)) (t : List AV) (K : Bool → Prop) : Prop :=
  match g with
  | none => K true
  | some (j, want) => nthK all j fun oj => match oj.dst with
    | some d => nthK t d fun v => wantK want v K
    | none => False

/-- the next placeholder -/
def idK (b : Bool) (id : Nat) (k : Nat → Prop) : Prop := cond b (k (id + 1)) (k id)
theorem idK_iff (b : Bool) (id : Nat) (k : Nat → Prop) : idK b id k ↔ k (cond b (id + 1) id) := by cases b <;> rfl

/-- (by the recursor itself: so the kernel and the elaborator reckon alike) -/
noncomputable def aops (P : Program) (O : Outer σ) (T : TT) (n0 : Nat) (all : List Oper) (ops : List Oper) : Nat → List AV → List Ob → σ → (List AV → List Ob → σ → Prop) → Prop :=
  @List.rec Oper (fun _ => Nat → List AV → List Ob → σ → (List AV → List Ob → σ → Prop) → Prop)
    (fun _ t s x k => k t s x)
    (fun o _ ih id t s x k => guardK all o.guard t fun wd => cond wd
      (aoper P O T n0 id o t s x fun t' s' x' => idK (Op.makes o.op) id fun id' => ih id' t' s' x' k)
      (putK t o.dst (.tup []) fun t' => idK (Op.makes o.op) id fun id' => ih id' t' s x k)) ops

theorem aops_nil {P : Program} {O : Outer σ} {T : TT} {n0 : Nat} {all : List Oper} {id : Nat} {t : List AV} {s : List Ob} {x : σ} {k : List AV → List Ob → σ → Prop} : aops P O T n0 all [] id t s x k = k t s x := rfl
theorem aops_cons {P : Program} {O : Outer σ} {T : TT} {n0 : Nat} {all : List Oper} {o : Oper} {r : List Oper} {id : Nat} {t : List AV} {s : List Ob} {x : σ} {k : List AV → List Ob → σ → Prop} :
    aops P O T n0 all (o :: r) id t s x k = guardK all o.guard t fun wd => cond wd
      (aoper P O T n0 id o t s x fun t' s' x' => idK (Op.makes o.op) id fun id' => aops P O T n0 all r id' t' s' x' k)
      (putK t o.dst (.tup []) fun t' => idK (Op.makes o.op) id fun id' => aops P O T n0 all r id' t' s x k) := rfl

/-! ### sound -/
structure SR (O : Outer σ) (μ : MM) (t : List AV) (s : List Ob) (x : σ) (B : Nat → Prop) (a : Act) (w : World) : Prop where
  tm : VRL (Live s) μ t a.tmps.toList
  rel : Rel μ s w
  out : O.I x B w
  sep : ∀ b, B b → ¬ LV μ s b

theorem Live.lt {s : List Ob} {i : Nat} (h : Live s i) : i < s.length := by
  obtain ⟨o, h, _⟩ := h; exact (List.getElem?_eq_some_iff.1 h).1

theorem putL_sound {D : Nat → Prop} {μ : MM} {t : List AV} {a : Act} (ht : VRL D μ t a.tmps.toList) (dst : Option Tmp) {v : AV} {c : Value} (hv : VR D μ v c) : VRL D μ (putL t dst v) (a.put dst c).tmps.toList := by
  cases dst with
  | none => exact ht
  | some d =>
    simp only [putL, Act.put, Array.toList_setIfInBounds]
    exact ht.set d hv

/-- the state behind one step -/
theorem SR.step {O : Outer σ} {μ μ1 : MM} {t : List AV} {s s1 : List Ob} {x : σ} {B : Nat → Prop} {a : Act} {w w1 : World} {id n0 : Nat} (h : SR O μ t s x B a w) (hs : Stp id μ s w μ1 s1 w1) (hn : n0 ≤ s.length) (hid : n0 ≤ id)
    {dst : Option Tmp} {v : AV} {c : Value} (hv : VR (Live s1) μ1 v c) : SR O μ1 (putL t dst v) s1 x B (a.put dst c) w1 ∧ After n0 μ s B w μ1 s1 B w1 := by
  have hsep : ∀ b, B b → ¬ LV μ1 s1 b := by
    intro b hb hr
    rcases hs.lv b hr with q | q
    · exact h.sep b hb q
    · exact absurd (O.bound x B w b h.out hb) (by omega)
  refine ⟨⟨putL_sound (h.tm.mono hs.keep) dst hv, hs.rel, O.keep _ _ _ _ _ h.out hs.fr fun b hb hr => h.sep b hb hr.lv, hsep⟩, ?_⟩
  exact ⟨fun j hj => hs.agree j (by omega), fun j _ hl => (hs.keep j hl).1, fun j hj hl => hs.dead j (by omega) hl, by rw [hs.len]; exact hn, hs.fr.mono fun _ _ hk => .inl hk, hs.rw, hs.lv, fun b hb => .inl hb, hsep⟩

/-- the state behind a call -/
theorem SR.call {O : Outer σ} {μ μ1 : MM} {t : List AV} {s s1 : List Ob} {x x1 : σ} {B B1 : Nat → Prop} {a : Act} {w w1 : World} {n0 : Nat} (h : SR O μ t s x B a w) (hn : n0 ≤ s.length)
    (ha : After s.length μ s B w μ1 s1 B1 w1) (hrel : Rel μ1 s1 w1) (hout : O.I x1 B1 w1)
    {dst : Option Tmp} {v : AV} {c : Value} (hv : VR (Live s1) μ1 v c) : SR O μ1 (putL t dst v) s1 x1 B1 (a.put dst c) w1 ∧ After n0 μ s B w μ1 s1 B1 w1 := by
  refine ⟨⟨putL_sound (h.tm.mono fun j hj => ⟨ha.keep j hj.lt hj, ha.agree j hj.lt⟩) dst hv, hrel, hout, ha.sep⟩, ?_⟩
  exact ⟨fun j hj => ha.agree j (by omega), fun j hj hl => ha.keep j (by omega) hl, fun j hj hl => ha.dead j (by omega) hl, by have := ha.len; omega, ha.fr, ha.rw, ha.lv, ha.b, ha.sep⟩

/-- what a Go call leaves of what it knows nothing of -/
theorem after_lift {O : Outer σ} {μ μ1 : MM} {s s1 : List Ob} {x : σ} {B : Nat → Prop} {w w1 : World} (hI : O.I x B w) (hsep : ∀ b, B b → ¬ LV μ s b)
    {B1 : Nat → Prop} (hB1 : ∀ b, ¬ B1 b) (h : After s.length μ s (fun _ => False) w μ1 s1 B1 w1) : O.I x B w1 ∧ After s.length μ s B w μ1 s1 B w1 := by
  refine ⟨O.keep _ _ _ _ _ hI h.fr fun b hb hr => ?_, h.agree, h.keep, h.dead, h.len, h.fr.mono fun k _ hk => ?_, h.rw, h.lv, fun _ hb => .inl hb, fun b hb hr => ?_⟩
  · rcases hr with hr | hr
    · exact hsep b hb hr.lv
    · exact hr.elim
  · rcases hk with hk | hk
    · exact .inl hk
    · exact hk.elim
  · rcases h.lv b hr with q | q
    · exact hsep b hb q
    · exact absurd (O.bound x B w b hI hb) (by omega)

end Go.AW

/- The engine, 11: one operation, calls among them, in the machine. -/
namespace Go.AW
open Go
set_option linter.unusedVariables false
set_option linter.unusedSimpArgs false

variable {σ : Type}

/-- what is asked behind an operation -/
def Nx (O : Outer σ) (n0 id : Nat) (μ : MM) (s : List Ob) (B : Nat → Prop) (w : World) (a : Act) (k : List AV → List Ob → σ → Prop) (a' : Act) (w' : World) : Prop :=
  ∃ t' s' x' μ' B', k t' s' x' ∧ SR O μ' t' s' x' B' a' w' ∧ After n0 μ s B w μ' s' B' w' ∧ a'.defers = a.defers ∧ s.length ≤ s'.length ∧ ∀ j, j ≠ id → s[j]? = some .dead → s'[j]? = some .dead

theorem put_defers (a : Act) (dst : Option Tmp) (v : Value) : (a.put dst v).defers = a.defers := by cases dst <;> rfl

section
variable {P : Program} {T : TT} {O : Outer σ} {n0 id : Nat} {μ : MM} {t : List AV} {s : List Ob} {x : σ} {B : Nat → Prop} {a : Act} {w : World} {o : Oper} {r : Option Nat}

theorem wpIn_of_run {Q : Exit → Act → World → Prop} {K : Act → World → Prop} (hd : ∀ c, o.op ≠ .defer c) (hc : ∀ c, o.op = .call c → (∃ b, c.callee = .builtin b)) {cv : Value} {w1 : World}
    (hrun : (execOp a.eval o).run P w = .ok (.value cv) w1 ∨ ((execOp a.eval o).run P w = .ok .skip w1 ∧ cv = undef)) (h : K (a.put o.dst cv) w1) : o.wpIn (FR r) 0 P a w K Q := by
  refine ⟨fun f _ => trivial, ?_⟩
  rw [Oper.semAt_eq _ _ _ hd]
  rcases hrun with hrun | ⟨hrun, rfl⟩
  · rw [hrun]; exact h
  · rw [hrun]; exact h

/-- from what an operation is told to do, to what the machine does -/
theorem nx_of_out {k : List AV → List Ob → σ → Prop} {Q : Exit → Act → World → Prop} (hsr : SR O μ t s x B a w) (hn : n0 ≤ s.length) (hid : n0 ≤ id) (hd : ∀ c, o.op ≠ .defer c) (hc : ∀ c, o.op = .call c → (∃ b, c.callee = .builtin b))
    (h : Out P o a id μ s w fun v e _ => putK t o.dst v fun t' => effK s e fun s' => k t' s' x) : o.wpIn (FR r) 0 P a w (Nx O n0 id μ s B w a k) Q := by
  obtain ⟨v, e, fp, h, cv, w1, μ1, hrun, hv, hst⟩ := h
  rw [putK_iff, effK_iff] at h
  obtain ⟨h1, h2⟩ := hsr.step hst hn hid (dst := o.dst) hv
  exact wpIn_of_run hd hc hrun ⟨_, _, _, _, _, h, h1, h2, put_defers _ _ _, Nat.le_of_eq hst.len.symm, fun j hj hdd => hst.dead j hj hdd⟩

theorem run_callFunc {f : FuncId} {fn : Func} (hf : P.funcs[f]? = some fn) (hb : fn.body.isNone = false) (hnm : (fn.name == "runtime.NumGoroutine") = false) (args : Array Value) : (callFunc f args).run P w = .ok (.enter f args) w := by
  have h1 : fn.name ≠ "runtime.NumGoroutine" := by simpa using hnm
  have h2 : fn.body ≠ none := by intro e; rw [e] at hb; simp at hb
  simp [callFunc, program, Sem.run, hf, h1, h2]

theorem callK_sound {k : List AV → List Ob → σ → Prop} {Q : Exit → Act → World → Prop} (hsr : SR O μ t s x B a w) (hn : n0 ≤ s.length) {c : Call} {g : Operand} (ho : o.op = .call c) (hg : c.callee = .value g)
    (h : evK t g fun fv => evsK t c.args.toList fun args => callK P O fv args s x fun r s' x' => putK t o.dst r fun t' => k t' s' x') : o.wpIn (FR r) 0 P a w (Nx O n0 id μ s B w a k) Q := by
  obtain ⟨fv, h, hfv⟩ := evK_sound hsr.tm h
  obtain ⟨args, h, hargs⟩ := evsK_sound hsr.tm h
  have hd : ∀ c, o.op ≠ .defer c := by intro c' hc'; rw [ho] at hc'; cases hc'
  have hargs' : VRL (Live s) μ args (c.args.map a.eval).toList := by simpa using hargs
  cases fv with
  | fn f l1 l2 =>
    simp only [callK, appK_iff] at h
    simp only [VR] at hfv
    obtain ⟨as, bs, he, ha, hb⟩ := hfv
    have hcall := h.of
    have hl : VRL (Live s) μ (l1 ++ (args ++ l2)) (as.toArray ++ c.args.map a.eval ++ bs.toArray).toList := by
      simp only [Array.toList_append, List.append_assoc]
      exact VRL.append (by simpa using ha) (VRL.append hargs' (by simpa using hb))
    have fin : ∀ (e : Ending) w', (∃ r s' x' μ' B' v, (putK t o.dst r fun t' => k t' s' x) ∧ e = .returned v ∧ VR (Live s') μ' r v ∧ Rel μ' s' w' ∧ (Outer.none).I x' B' w' ∧ After s.length μ s (fun _ => False) w μ' s' B' w') →
        ∃ v, e = .returned v ∧ Nx O n0 id μ s B w a k (a.put o.dst v) w' := by
      intro e w' he'
      obtain ⟨rv, s', x', μ', B', v, hk, rfl, hv, hrel, hI, haf⟩ := he'
      obtain ⟨hout, haf'⟩ := after_lift hsr.out hsr.sep hI haf
      have hk := (putK_iff _ _ _ _).1 hk
      obtain ⟨h1, h2⟩ := hsr.call hn haf' hrel hout (dst := o.dst) hv
      exact ⟨v, rfl, _, _, _, _, _, hk, h1, h2, put_defers _ _ _, haf.len, fun j hj hdd => haf.dead j (List.getElem?_eq_some_iff.1 hdd).1 hdd⟩
    refine ⟨fun f _ => trivial, ?_⟩
    rw [Oper.semAt_eq _ _ _ hd]
    rcases hcall μ _ w (fun _ => False) hsr.rel hl (fun _ h => h) (fun _ h => h.elim) with ⟨⟨fn, hfn, hbody, hname⟩, hc⟩ | ⟨v, w', hrun0, hv⟩
    · have hrun : (execOp a.eval o).run P w = .ok (.enter f (as.toArray ++ c.args.map a.eval ++ bs.toArray)) w := by
        simp [execOp, ho, resolve, hg, he, Deferred.ofValue, invoke, run_callFunc hfn hbody hname]
      rw [hrun]
      refine ⟨fun hh => by simp [FR, Fence.wide] at hh, callsIn_FR ?_⟩
      refine hc.mono fun e w' he' => ?_
      obtain ⟨v, rfl, hn⟩ := fin e w' he'
      exact hn
    · have hrun : (execOp a.eval o).run P w = .ok (.value v) w' := by
        rw [Array.append_assoc] at hrun0
        simp [execOp, ho, resolve, hg, he, Deferred.ofValue, invoke, hrun0]
      rw [hrun]
      obtain ⟨v', hv', hn⟩ := fin _ _ hv
      cases hv'
      exact hn
  | yld l =>
    simp only [callK] at h
    obtain ⟨hflat, h⟩ := (andK_iff _ _).1 h
    simp only [VR] at hfv
    obtain ⟨fn, tmps, assign, body, hy, hR⟩ := h (c.args.map a.eval) w B (VRL.flat hflat hargs') hsr.out
    have hrun : (execOp a.eval o).run P w = .ok (.round l fn tmps assign body) w := by
      simp [execOp, ho, resolve, hg, hfv, Deferred.ofValue, invoke, hy]
    refine ⟨fun f _ => trivial, ?_⟩
    rw [Oper.semAt_eq _ _ _ hd, hrun]
    refine ⟨fun hh => by simp [FR, Fence.wide] at hh, roundIn_FR (hR.mono fun e w' he' => ?_)⟩
    obtain ⟨b, x', B', hk, rfl, hI, hfr, hB'⟩ := he'
    have hk := (putK_iff _ _ _ _).1 hk
    have hrel' : Rel μ s w' := hsr.rel.block fun i ob hi hnd => hfr.block _ (hsr.rel.lt hi hnd) fun hb => hsr.sep _ hb ⟨i, ob, hi, hnd, rfl⟩
    have hsep : ∀ q, B' q → ¬ LV μ s q := by
      intro q hq hl
      rcases hB' q hq with hq | hq
      · exact hsr.sep q hq hl
      · obtain ⟨i, ob, hi, hnd, rfl⟩ := hl
        exact absurd (hsr.rel.lt hi hnd) (by omega)
    have haf : After s.length μ s B w μ s B' w' := ⟨fun _ _ => rfl, fun _ _ h => h, fun _ _ h => h, Nat.le_refl _, hfr.mono fun _ _ h => .inr h, fun _ h => .inl h, fun _ h => .inl h, hB', hsep⟩
    obtain ⟨h1, h2⟩ := hsr.call hn haf hrel' hI (dst := o.dst) (v := .bool b) (c := .bool b) (by simp [VR])
    exact ⟨_, _, _, _, _, hk, h1, h2, put_defers _ _ _, Nat.le_refl _, fun _ _ h => h⟩
  | junk | bool | int | str | agg | arr | tup | nilp | ptr | nils | sl0 | sl | nilf | nili | iface => simp [callK] at h

end

/-! ### append -/
def sw (i : Nat) (v : AV) : AV := cond (v.has i) .junk v
def swOb (i : Nat) : Ob → Ob
  | .cells sz c => .cells sz (c.map (sw i))
  | ob => ob

theorem sweepT_iff (i : Nat) : ∀ (t : List AV) (k : List AV → Prop), sweepT i t k ↔ k (t.map (sw i))
  | [], k => by simp [sweepT]
  | v :: r, k => by
    simp only [sweepT, sweepT_iff i r, List.map_cons, sw]
    cases v.has i <;> simp [sw]

theorem sweepS_iff (i : Nat) : ∀ (s : List Ob) (k : List Ob → Prop), sweepS i s k ↔ k (s.map (swOb i))
  | [], k => by simp [sweepS]
  | .cells sz c :: r, k => by simp [sweepS, sweepT_iff, sweepS_iff i r, swOb]
  | .dead :: r, k => by simp [sweepS, sweepS_iff i r, swOb]
  | .row .. :: r, k => by simp [sweepS, sweepS_iff i r, swOb]

mutual
theorem VR.avoid {D D' : Nat → Prop} {μ μ' : MM} {i : Nat} (hD : ∀ j, D j → j ≠ i → D' j ∧ μ' j = μ j) : ∀ {a : AV} {v : Value}, a.has i = false → VR D μ a v → VR D' μ' a v
  | .junk, _, _, _ => by simp [VR]
  | .bool _, _, _, h => by simpa only [VR] using h
  | .int _ _, _, _, h => by simpa only [VR] using h
  | .str _, _, _, h => by simpa only [VR] using h
  | .agg l, _, hf, h => by
    simp only [VR] at h ⊢
    obtain ⟨cs, e, h⟩ := h
    exact ⟨cs, e, VRL.avoid hD (by simpa only [AV.has] using hf) h⟩
  | .arr _ _, _, _, h => by simpa only [VR] using h
  | .tup l, _, hf, h => by
    simp only [VR] at h ⊢
    obtain ⟨cs, e, h⟩ := h
    exact ⟨cs, e, VRL.avoid hD (by simpa only [AV.has] using hf) h⟩
  | .nilp, _, _, h => by simpa only [VR] using h
  | .ptr id _ _, _, hf, h => by
    simp only [VR] at h ⊢
    obtain ⟨h1, h2⟩ := h
    have hne : id ≠ i := by simpa [AV.has] using hf
    rw [(hD id h1 hne).2]
    exact ⟨(hD id h1 hne).1, h2⟩
  | .nils, _, _, h => by simpa only [VR] using h
  | .sl0, _, _, h => by simpa only [VR] using h
  | .sl id _ _ _, _, hf, h => by
    simp only [VR] at h ⊢
    obtain ⟨h1, h2⟩ := h
    have hne : id ≠ i := by simpa [AV.has] using hf
    rw [(hD id h1 hne).2]
    exact ⟨(hD id h1 hne).1, h2⟩
  | .fn _ a b, _, hf, h => by
    simp only [VR] at h ⊢
    simp only [AV.has, Bool.or_eq_false_iff] at hf
    obtain ⟨as, bs, e, ha, hb⟩ := h
    exact ⟨as, bs, e, VRL.avoid hD hf.1 ha, VRL.avoid hD hf.2 hb⟩
  | .yld _, _, _, h => by simpa only [VR] using h
  | .nilf, _, _, h => by simpa only [VR] using h
  | .nili, _, _, h => by simpa only [VR] using h
  | .iface _ x, _, hf, h => by
    simp only [VR] at h ⊢
    obtain ⟨u, e, h⟩ := h
    exact ⟨u, e, VR.avoid hD (by simpa only [AV.has] using hf) h⟩
theorem VRL.avoid {D D' : Nat → Prop} {μ μ' : MM} {i : Nat} (hD : ∀ j, D j → j ≠ i → D' j ∧ μ' j = μ j) : ∀ {l : List AV} {vs : List Value}, AV.has.hasL i l = false → VRL D μ l vs → VRL D' μ' l vs
  | [], _, _, h => by simpa only [VRL] using h
  | a :: l, _, hf, h => by
    simp only [VRL] at h ⊢
    simp only [AV.has.hasL, Bool.or_eq_false_iff] at hf
    obtain ⟨v, r, e, h1, h2⟩ := h
    exact ⟨v, r, e, VR.avoid hD hf.1 h1, VRL.avoid hD hf.2 h2⟩
end

theorem VR.sw {D D' : Nat → Prop} {μ μ' : MM} {i : Nat} (hD : ∀ j, D j → j ≠ i → D' j ∧ μ' j = μ j) {a : AV} {v : Value} (h : VR D μ a v) : VR D' μ' (sw i a) v := by
  unfold AW.sw
  cases hb : a.has i
  · exact h.avoid hD hb
  · simp [VR]

theorem VRL.sw {D D' : Nat → Prop} {μ μ' : MM} {i : Nat} (hD : ∀ j, D j → j ≠ i → D' j ∧ μ' j = μ j) : ∀ {l : List AV} {vs : List Value}, VRL D μ l vs → VRL D' μ' (l.map (AW.sw i)) vs
  | [], _, h => by simpa only [VRL, List.map_nil] using h
  | a :: l, _, h => by
    simp only [VRL, List.map_cons] at h ⊢
    obtain ⟨v, r, e, h1, h2⟩ := h
    exact ⟨v, r, e, h1.sw hD, VRL.sw hD h2⟩

theorem swOb_own (i : Nat) (ob : Ob) : (swOb i ob).own = ob.own := by cases ob <;> rfl
theorem swOb_dead (i : Nat) (ob : Ob) : swOb i ob = .dead ↔ ob = .dead := by cases ob <;> simp [swOb]

theorem OR.sw {D D' : Nat → Prop} {μ μ' : MM} {i : Nat} (hD : ∀ j, D j → j ≠ i → D' j ∧ μ' j = μ j) {w : World} {m : MA} : ∀ {ob : Ob}, OR D μ w m ob → OR D' μ' w m (swOb i ob)
  | .dead, _ => by simp [swOb, OR]
  | .cells sz c, h => by
    simp only [swOb, OR] at h ⊢
    obtain ⟨h1, h2, cs, e, h3, h4⟩ := h
    exact ⟨h1, h2, cs, e, h3, h4.sw hD⟩
  | .row true e ks l, h => by simpa only [swOb, OR] using h
  | .row false e ks l, h => by simpa only [swOb, OR] using h

/-- an own object becomes another one, elsewhere perhaps; nothing refers to it any more -/
theorem regrow {σ : Type} {O : Outer σ} {n0 i : Nat} {μ : MM} {t : List AV} {s : List Ob} {x : σ} {B : Nat → Prop} {a : Act} {w w' : World} (h : SR O μ t s x B a w) (hn : n0 ≤ s.length) (hni : n0 ≤ i)
    {ob ob' : Ob} (hi : s[i]? = some ob) (hw : ob.own = true) (hw' : ob'.own = true) (hfr : Fr (fun b => b = (μ i).blk) w w') {m' : MA} (hm : m'.blk = (μ i).blk ∨ w.heap.size ≤ m'.blk)
    (ho : ∀ D μ', OR D μ' w' m' ob') {v : AV} {c : Value} (hv : ∀ D μ', D i → μ' i = m' → VR D μ' v c) (dst : Option Tmp) :
    ∃ μ', SR O μ' (putL (t.map (sw i)) dst v) ((s.map (swOb i)).set i ob') x B (a.put dst c) w' ∧ After n0 μ s B w μ' ((s.map (swOb i)).set i ob') B w' := by
  have hlt : i < s.length := (List.getElem?_eq_some_iff.1 hi).1
  have hd : ob ≠ .dead := by rintro rfl; simp [Ob.own] at hw
  have hd' : ob' ≠ .dead := by rintro rfl; simp [Ob.own] at hw'
  have hget : ∀ j, j ≠ i → ((s.map (swOb i)).set i ob')[j]? = (s[j]?).map (swOb i) := by
    intro j hj; rw [List.getElem?_set_ne (Ne.symm hj), List.getElem?_map]
  have hself : ((s.map (swOb i)).set i ob')[i]? = some ob' := by rw [List.getElem?_set_self (by simpa using hlt)]
  have hlive : ∀ j, Live s j → Live ((s.map (swOb i)).set i ob') j := by
    intro j hj
    by_cases e : j = i
    · subst e; exact ⟨ob', hself, hd'⟩
    · obtain ⟨o, ho', hn'⟩ := hj
      exact ⟨swOb i o, by rw [hget j e, ho']; rfl, fun hh => hn' ((swOb_dead i o).1 hh)⟩
  have hD : ∀ j, Live s j → j ≠ i → Live ((s.map (swOb i)).set i ob') j ∧ (μ.set i m') j = μ j := fun j hj hne => ⟨hlive j hj, MM.set_other μ m' hne⟩
  have hblk : ∀ j o, s[j]? = some o → o ≠ .dead → j ≠ i → (μ j).blk ≠ (μ i).blk := fun j o hj hdj hne => (h.rel.sep i j ob o hi hj (Ne.symm hne) hw hdj).symm
  -- from an object of the new state to one of the old
  have back : ∀ j o, ((s.map (swOb i)).set i ob')[j]? = some o → j ≠ i → ∃ o0, s[j]? = some o0 ∧ o = swOb i o0 := by
    intro j o hj hne
    rw [hget j hne] at hj
    simp only [Option.map_eq_some_iff] at hj
    obtain ⟨o0, h1, h2⟩ := hj
    exact ⟨o0, h1, h2.symm⟩
  have hlv : ∀ b, LV (μ.set i m') ((s.map (swOb i)).set i ob') b → LV μ s b ∨ w.heap.size ≤ b := by
    rintro b ⟨j, o, hj, hnd, rfl⟩
    by_cases e : j = i
    · subst e
      rw [MM.set_same]
      rcases hm with hm | hm
      · rw [hm]; exact .inl ⟨j, ob, hi, hd, rfl⟩
      · exact .inr hm
    · obtain ⟨o0, h1, rfl⟩ := back j o hj e
      rw [MM.set_other μ m' e]
      exact .inl ⟨j, o0, h1, fun hh => hnd ((swOb_dead i o0).2 hh), rfl⟩
  have hrw : ∀ b, RW (μ.set i m') ((s.map (swOb i)).set i ob') b → RW μ s b ∨ w.heap.size ≤ b := by
    rintro b ⟨j, o, hj, hnd, rfl⟩
    by_cases e : j = i
    · subst e
      rw [MM.set_same]
      rcases hm with hm | hm
      · rw [hm]; exact .inl ⟨j, ob, hi, hw, rfl⟩
      · exact .inr hm
    · obtain ⟨o0, h1, rfl⟩ := back j o hj e
      rw [MM.set_other μ m' e]
      exact .inl ⟨j, o0, h1, by rw [← swOb_own i]; exact hnd, rfl⟩
  have hsep : ∀ b, B b → ¬ LV (μ.set i m') ((s.map (swOb i)).set i ob') b := by
    intro b hb hl
    rcases hlv b hl with q | q
    · exact h.sep b hb q
    · exact absurd (O.bound x B w b h.out hb) (by omega)
  refine ⟨μ.set i m', ⟨putL_sound (h.tm.sw hD) dst (hv _ _ ⟨ob', hself, hd'⟩ (MM.set_same _ _ _)), ⟨fun j o hj => ?_, fun j j' o o' hj hj' hne hjw hjd => ?_⟩, O.keep _ _ _ _ _ h.out hfr ?_, hsep⟩,
    ⟨fun j hj => MM.set_other μ m' (by omega), fun j _ hl => hlive j hl, fun j hj hdj => by rw [hget j (by omega), hdj]; rfl, by simp; exact hn, hfr.mono fun k _ hk => .inl ⟨i, ob, hi, hw, hk.symm⟩, hrw, hlv, fun b hb => .inl hb, hsep⟩⟩
  · by_cases e : j = i
    · subst e
      rw [hself] at hj
      obtain rfl := Option.some.inj hj
      rw [MM.set_same]
      exact ho _ _
    · obtain ⟨o0, h1, rfl⟩ := back j o hj e
      rw [MM.set_other μ m' e]
      refine (OR.sw hD (h.rel.ob j o0 h1)).block fun hnd => ?_
      have hnd0 : o0 ≠ .dead := fun hh => hnd ((swOb_dead i o0).2 hh)
      exact hfr.block _ (h.rel.lt h1 hnd0) (hblk j o0 h1 hnd0 e)
  · by_cases e : j = i
    · subst e
      obtain ⟨o0, h1, rfl⟩ := back j' o' hj' (Ne.symm hne)
      have hnd0 : o0 ≠ .dead := fun hh => hjd ((swOb_dead j o0).2 hh)
      rw [MM.set_same, MM.set_other μ m' (Ne.symm hne)]
      rcases hm with hm | hm
      · rw [hm]; exact (hblk j' o0 h1 hnd0 (Ne.symm hne)).symm
      · exact Nat.ne_of_gt (Nat.lt_of_lt_of_le (h.rel.lt h1 hnd0) hm)
    · obtain ⟨o0, h1, rfl⟩ := back j o hj e
      rw [MM.set_other μ m' e]
      have hjw0 : o0.own = true := by rw [← swOb_own i]; exact hjw
      have hnd0 : o0 ≠ .dead := by rintro rfl; simp [Ob.own] at hjw0
      by_cases e' : j' = i
      · subst e'
        rw [MM.set_same]
        rcases hm with hm | hm
        · rw [hm]; exact hblk j o0 h1 hnd0 e
        · exact Nat.ne_of_lt (Nat.lt_of_lt_of_le (h.rel.lt h1 hnd0) hm)
      · obtain ⟨o1, h2, rfl⟩ := back j' o' hj' e'
        rw [MM.set_other μ m' e']
        exact h.rel.sep j j' o0 o1 h1 h2 hne hjw0 fun hh => hjd ((swOb_dead i o1).2 hh)
  · intro b hb hr
    exact h.sep b hb ⟨i, ob, hi, hd, hr.symm⟩

end Go.AW

/- The engine, 12: append; one operation; a plain region. -/
namespace Go.AW
open Go
set_option linter.unusedVariables false
set_option linter.unusedSimpArgs false

theorem frozen?_setRow (w : World) (g : Nat) (cs : Array Value) (a : Addr) : (w.setRow g cs).frozen? a = w.frozen? a := by
  unfold World.frozen?
  by_cases e : g = a.block
  · subst e
    simp only [World.setRow, Array.getElem?_modify, if_true]
    cases w.heap[a.block]? with
    | none => rfl
    | some o => cases o <;> rfl
  · simp only [World.setRow, Array.getElem?_modify, if_neg e]

variable {σ : Type}
section
variable {P : Program} {T : TT} {O : Outer σ} {n0 id : Nat} {μ : MM} {t : List AV} {s : List Ob} {x : σ} {B : Nat → Prop} {a : Act} {w : World} {o : Oper} {r : Option Nat}

theorem rowV_one : ∀ (ks : List CK) (r : List Int) (c : Value), c ∈ rowV ks r → c.oneCell' = true
  | [], _, _, h => by simp [rowV] at h
  | x :: xs, r, c, h => by
    simp only [rowV, List.mem_cons] at h
    rcases h with rfl | h
    · cases x <;> rfl
    · exact rowV_one xs _ _ h

theorem flatV_one (ks : List CK) (l : List (List Int)) (c : Value) (h : c ∈ flatV ks l) : c.oneCell' = true := by
  simp only [flatV, List.mem_flatten, List.mem_map] at h
  obtain ⟨_, ⟨r, _, rfl⟩, hc⟩ := h
  exact rowV_one _ _ _ hc

/-- the slice that is appended -/
theorem srcK_sound (hr : Rel μ s w) {ks : List CK} (hks : 0 < ks.length) {v : AV} {c : Value} (hv : VR (Live s) μ v c) {K : List (List Int) → Prop} (h : srcK s ks v K) :
    ∃ data ad cap, K data ∧ c = .slice (some ad) data.length cap ∧ ∀ j u, (flatV ks data)[j]? = some u → w.cell? (ad.add j) = some u := by
  cases v <;> simp only [srcK] at h
  case sl i off len lim =>
    obtain ⟨ob, hi, h⟩ := (nthK_iff _ _ _).1 h
    cases ob <;> simp only at h
    case row own e ks' l =>
      obtain ⟨hc, hfin⟩ := (andK_iff _ _).1 h
      simp only [Bool.and_eq_true, decide_eq_true_eq] at hc
      obtain ⟨hkk0, hle⟩ := hc
      subst hkk0
      clear h
      simp only [VR] at hv
      obtain ⟨hlive, cap, ad, rfl, had, hlc, hcap, _⟩ := hv
      have hlen : ((l.drop off).take len).length = len := by simp; omega
      refine ⟨_, ad, cap, hfin, by rw [hlen], fun j u hj => ?_⟩
      have hjl := (List.getElem?_eq_some_iff.1 hj).1
      rw [length_flatV, hlen] at hjl
      have hq : j / ks.length < len := Nat.div_lt_of_lt_mul (by rw [Nat.mul_comm]; exact hjl)
      have hq2 : off + j / ks.length < l.length := Nat.lt_of_lt_of_le (Nat.add_lt_add_left hq off) hle
      have hm : j % ks.length < ks.length := Nat.mod_lt _ hks
      have ej : j / ks.length * ks.length + j % ks.length = j := by rw [Nat.mul_comm]; exact Nat.div_add_mod j ks.length
      have h1 := flatV_get ks ((l.drop off).take len) (j / ks.length) (j % ks.length) (by rw [hlen]; exact hq) hm
      rw [ej, hj] at h1
      have h2 : ((l.drop off).take len).getD (j / ks.length) [] = l.getD (off + j / ks.length) [] := by
        simp only [List.getD_eq_getElem?_getD]
        rw [List.getElem?_take, if_pos hq, List.getElem?_drop]
      rw [h2] at h1
      have h3 := row_cell (hr.ob i _ hi) (i := off + j / ks.length) (j := j % ks.length) hq2 hm
      have hcap0 : cap ≠ 0 := by
        intro hc0
        rw [hc0] at hlc
        rw [Nat.le_zero.1 hlc] at hq
        exact absurd hq (Nat.not_lt_zero _)
      rw [had hcap0, addr_add, (row_sz (hr.ob i _ hi)).1]
      rw [(row_sz (hr.ob i _ hi)).1] at h3
      rw [← h1] at h3
      rw [← h3, Nat.add_mul, Nat.add_assoc, Nat.add_assoc, ej]

theorem appendK_sound (hT : TOk P T) (hsr : SR O μ t s x B a w) (hn : n0 ≤ s.length) (hid : n0 ≤ id) (hdd : s[id]? = some .dead) {k : List AV → List Ob → σ → Prop} {Q : Exit → Act → World → Prop} {c : Call} (ho : o.op = .call c) (hb : c.callee = .builtin .append)
    (h : evsK t c.args.toList fun vs => appendK T n0 id c.argTypes.toList vs t s fun v t1 s' => putK t1 o.dst v fun t' => k t' s' x) : o.wpIn (FR r) 0 P a w (Nx O n0 id μ s B w a k) Q := by
  obtain ⟨vs, h, hvs⟩ := evsK_sound hsr.tm h
  have hd : ∀ c, o.op ≠ .defer c := by intro c' hc'; rw [ho] at hc'; cases hc'
  unfold appendK at h
  split at h
  case h_2 => exact h.elim
  case h_1 ty ty2 dst src hts =>
  obtain ⟨hty, hfin⟩ := (andK_iff _ _).1 h
  clear h
  simp only [beq_iff_eq] at hty
  subst hty
  obtain ⟨ti, hti, h⟩ := (tyK_at _ _ _).1 hfin
  clear hfin
  obtain ⟨info, d, hok⟩ := hT _ _ hti
  split at h
  case h_2 => exact h.elim
  case h_1 e hk =>
  have hde := slice_elem hok hk
  obtain ⟨te, hte, h⟩ := (tyK_at _ _ _).1 h
  obtain ⟨ie, de, hoke⟩ := hT _ _ hte
  split at h
  case h_2 => exact h.elim
  case h_1 ks hks =>
  obtain ⟨hksl, z, hz, hzr⟩ := hoke.ks _ hks
  have hzs : z.cells.size = ie.size := by have := congrArg List.length hzr; rw [length_rowV] at this; simp at this; rw [hoke.size, ← hksl]; exact this
  obtain ⟨hne, h⟩ := (andK_iff _ _).1 h
  simp only [Bool.not_eq_true', beq_eq_false_iff_ne] at hne
  have hkp : 0 < ks.length := by omega
  simp only [VRL] at hvs
  obtain ⟨cd, r1, hcs, hdst, cs', r2, rfl, hsrc, rfl⟩ := hvs
  obtain ⟨data, ad, cap2, h, rfl, hnews⟩ := srcK_sound hsr.rel hkp hsrc h
  have hat : c.argTypes = #[ty, ty] := by apply Array.ext'; rw [hts]
  have hargs : c.args.map a.eval = #[cd, .slice (some ad) data.length cap2] := by
    apply Array.ext'; simp [hcs]
  have hund : P.underlying ty = some (.slice e) := by rw [hok.und, hde]
  have hl : (flatV ks data).length = data.length * ie.size := by rw [length_flatV, hoke.size, hksl]
  have h1c : ∀ u ∈ flatV ks data, u.oneCell' = true := flatV_one ks data
  have runs : ∀ v w1, (Builtin.append_ #[ty, ty] o.type #[cd, .slice (some ad) data.length cap2]).run P w = .ok v w1 → (execOp a.eval o).run P w = .ok (.value v) w1 := by
    intro v w1 hrun
    simp [execOp, ho, resolve, hb, invoke, builtin, hargs, hat, hrun]
  have hbuil : ∀ c', o.op = .call c' → (∃ b, c'.callee = .builtin b) := by
    intro c' hc'; rw [ho] at hc'; cases hc'; exact ⟨_, hb⟩
  have hdrew : Rel μ s w.drew := hsr.rel.block fun _ _ _ _ => rfl
  have hsr' : SR O μ t s x B a w.drew := ⟨hsr.tm, hdrew, O.keep x B w w.drew (fun _ => False) hsr.out ⟨rfl, rfl, rfl, Nat.le_refl _, fun _ _ _ => rfl, fun _ h => h⟩ (fun _ _ h => h), hsr.sep⟩
  -- from behind the draw
  have undrew : ∀ (a' : Act) (w1 : World), Nx O n0 id μ s B w.drew a k a' w1 → Nx O n0 id μ s B w a k a' w1 := by
    rintro a' w1 ⟨t', s', x', μ', B', hk, hs, ha, hdf, hln, hdd⟩
    exact ⟨t', s', x', μ', B', hk, hs, ⟨ha.agree, ha.keep, ha.dead, ha.len, ⟨ha.fr.os, ha.fr.tape, ha.fr.output, ha.fr.size, ha.fr.block, ha.fr.froz⟩, ha.rw, ha.lv, ha.b, ha.sep⟩, hdf, hln, hdd⟩
  cases dst with
  | sl0 => exact h.elim
  | nils =>
    -- nil
    simp only [VR] at hdst
    subst hdst
    obtain ⟨hc, h⟩ := (andK_iff _ _).1 h
    simp only [Bool.and_eq_true, decide_eq_true_eq] at hc
    rcases (cond_iff _ _ _).1 h with ⟨h0, h⟩ | ⟨h0, h⟩
    · simp only [decide_eq_true_eq] at h0
      have hrun : (Builtin.append_ #[ty, ty] o.type #[.slice none 0 0, .slice (some ad) data.length cap2]).run P w = .ok (.slice none 0 0) w := by
        rw [h0]
        simp [Builtin.append_, run_underlying hund, sizeOf, typeInfo, hoke.inf, Builtin.lenOf, Builtin.firstCells, loadCells, loadCellsFrom]
      have h := (putK_iff _ _ _ _).1 h
      obtain ⟨h2, h3⟩ := hsr.step (Stp.refl (id := id) hsr.rel) hn hid (dst := o.dst) (v := .nils) (c := .slice none 0 0) (by simp [VR])
      exact wpIn_of_run hd hbuil (.inl (runs _ _ hrun)) ⟨_, _, _, _, _, h, h2, h3, put_defers _ _ _, Nat.le_refl _, fun _ _ hq => hq⟩
    · simp only [decide_eq_false_iff_not] at h0
      rw [setK_iff] at h
      have h := (putK_iff _ _ _ _).1 h
      have hrun := run_append_nil (P := P) w ty o.type e ie z hund hoke.inf hz ad data.length cap2 (flatV ks data) hl hnews (by omega) (by omega) (by rw [hoke.bytes]; have := hc.1; omega)
      have hge := grownCap_ge w data.length 0 e
      have hcm := grownCap_le_maxLen w data.length 0 e (by unfold maxLen; omega)
      have hst : Stp id μ s w.drew (μ.set id ⟨w.drew.heap.size, 0, ks.length, grownCap w data.length 0 e⟩) (s.set id (.row true e ks data)) (w.drew.alloc (.cells ((flatV ks data).toArray ++ Builtin.zeroCells z.cells (grownCap w data.length 0 e - data.length)) e)) := by
        refine Stp.new hdrew hdd (by simp) rfl (OR.newRow hge hcm ?_ ?_)
        · simp only [Array.size_append, List.size_toArray, size_zeroCells, hzs, hl]
          rw [hoke.size, ← hksl, ← Nat.add_mul]
          congr 1; omega
        · simp only [Array.toList_append]
          rw [List.take_append_of_le_length (by rw [hl, hoke.size, hksl]; exact Nat.le_refl _), List.take_of_length_le (by rw [hl, hoke.size, hksl]; exact Nat.le_refl _)]
      obtain ⟨h2, h3⟩ := hsr'.step hst hn hid (dst := o.dst) (v := .sl id 0 data.length none) (c := .slice (some ⟨w.heap.size, 0, none⟩) data.length (grownCap w data.length 0 e)) (sl_new (w := w.drew) hdd (by simp) _ hge)
      refine wpIn_of_run hd hbuil (.inl (runs _ _ hrun)) (undrew _ _ ⟨_, _, _, _, _, h, h2, h3, put_defers _ _ _, by simp, fun j hj hq => by rw [List.getElem?_set_ne (Ne.symm hj)]; exact hq⟩)
  | sl i off len lim =>
    cases lim with
    | some c => exact h.elim
    | none =>
    obtain ⟨ob, hi, h⟩ := (nthK_iff _ _ _).1 h
    cases ob with
    | dead => exact h.elim
    | cells sz c => exact h.elim
    | row own e' ks' l =>
    cases own with
    | false => exact h.elim
    | true =>
    obtain ⟨hc, hkk⟩ := (andK_iff _ _).1 h
    clear h
    simp only [Bool.and_eq_true, decide_eq_true_eq] at hc
    obtain ⟨⟨⟨⟨⟨⟨he, hkk'⟩, hoff⟩, hlen⟩, hni⟩, hby⟩, h63⟩ := hc
    subst he hkk' hoff hlen
    rw [sweepT_iff, sweepS_iff, setK_iff] at hkk
    have hkk := (putK_iff _ _ _ _).1 hkk
    simp only [VR] at hdst
    obtain ⟨hlive, cap, ad', rfl, had, hlc, hcap, hcap'⟩ := hdst
    have hor := hsr.rel.ob i _ hi
    simp only [OR] at hor
    obtain ⟨h0, hsz, hlcap, hmax, cs, hh, hcsl, htake⟩ := hor
    have hcap'' : cap = (μ i).cap := by omega
    have hdone : ∀ (cur : List Value) (w1 : World) (m' : MA), m'.off = 0 → m'.sz = ks.length → l.length + data.length ≤ m'.cap → m'.cap ≤ maxLen → w1.heap[m'.blk]? = some (.cells cur.toArray e (0, 0)) → cur.length = m'.cap * m'.sz → cur.take ((l.length + data.length) * ks.length) = flatV ks l ++ flatV ks data →
        ∀ D μ', OR D μ' w1 m' (.row true e ks (l ++ data)) := by
      intro cur w1 m' q1 q2 q3 q4 q5 q6 q7 D μ'
      simp only [OR]
      refine ⟨q1, q2, by simpa using q3, q4, cur, q5, q6, ?_⟩
      rw [q2, List.length_append, q7]
      simp [flatV]
    have hvdone : ∀ (m' : MA), m'.off = 0 → l.length + data.length ≤ m'.cap → ∀ D μ', D i → μ' i = m' → VR D μ' (.sl i 0 (l.length + data.length) none) (.slice (some ⟨m'.blk, 0, none⟩) (l.length + data.length) m'.cap) := by
      intro m' q1 q2 D μ' hD hm
      simp only [VR, hm]
      exact ⟨hD, _, _, rfl, fun _ => by rw [q1]; simp, q2, by omega, by omega⟩
    by_cases hroom : l.length + data.length ≤ cap ∧ cap ≠ 0
    · -- in place
      have hada := had hroom.2
      rw [h0] at hada
      simp only [Nat.zero_mul, Nat.add_zero] at hada
      subst hada
      have hfit : l.length * ie.size + (flatV ks data).length ≤ cs.toArray.size := by
        simp only [List.size_toArray, hcsl, hl, hoke.size, ← hksl, hsz, ← Nat.add_mul]
        exact Nat.mul_le_mul_right _ (by omega)
      have hrun := run_append_room (P := P) w ty o.type e ie hund hoke.inf (μ i).blk l.length cap cs.toArray hh ad data.length cap2 (flatV ks data) hl hnews h1c hroom.1 hfit
      have hfr : Fr (fun b => b = (μ i).blk) w (w.setRow (μ i).blk (cs.take (l.length * ie.size) ++ flatV ks data ++ cs.drop (l.length * ie.size + (flatV ks data).length)).toArray) :=
        ⟨rfl, rfl, rfl, by simp [World.setRow], fun k _ hk => setRow_other w _ k _ hk, fun a ha => by rw [← frozen?_setRow w _ _ a]; exact ha⟩
      have hds : ie.size = ks.length := by rw [hoke.size, hksl]
      obtain ⟨μ', h2, h3⟩ := regrow hsr hn hni hi rfl (ob' := .row true e ks (l ++ data)) rfl hfr (m' := μ i) (.inl rfl)
        (hdone _ _ (μ i) h0 hsz (by omega) hmax (setRow_heap w _ _ _ e _ hh) (by
          simp only [List.length_append, List.length_take, List.length_drop]
          simp only [List.size_toArray] at hfit
          rw [hcsl] at hfit ⊢; omega) (by
          rw [hds] at hl ⊢
          have h5 : (cs.take (l.length * ks.length) ++ flatV ks data).length = (l.length + data.length) * ks.length := by
            rw [List.length_append, hl, List.length_take, Nat.add_mul]
            rw [hcsl, hsz]
            have := Nat.mul_le_mul_right ks.length hlcap
            omega
          rw [List.take_append_of_le_length (by rw [h5]; exact Nat.le_refl _), List.take_of_length_le (by rw [h5]; exact Nat.le_refl _)]
          rw [hsz] at htake
          rw [htake]))
        (hvdone (μ i) h0 (by omega)) o.dst
      rw [← hcap''] at h2
      refine wpIn_of_run hd hbuil (.inl (runs _ _ hrun)) ⟨_, _, _, _, _, hkk, h2, h3, put_defers _ _ _, by simp, fun j hj hq => ?_⟩
      by_cases e1 : i = j
      · subst e1; rw [hi] at hq; simp at hq
      · rw [List.getElem?_set_ne e1, List.getElem?_map, hq]; rfl
    · by_cases hnone : cap = 0 ∧ data.length = 0
      · -- nothing at all
        obtain ⟨hc0, hd0⟩ := hnone
        have hl0 : l.length = 0 := by omega
        have hrun : (Builtin.append_ #[ty, ty] o.type #[.slice (some ad') l.length cap, .slice (some ad) data.length cap2]).run P w = .ok (.slice (some ad') 0 0) w := by
          rw [hd0, hc0, hl0]
          simp [Builtin.append_, run_underlying hund, sizeOf, typeInfo, hoke.inf, Builtin.lenOf, Builtin.firstCells, loadCells, loadCellsFrom, storeCells]
        obtain ⟨μ', h2, h3⟩ := regrow hsr hn hni hi rfl (ob' := .row true e ks (l ++ data)) rfl (Fr.refl _ w) (m' := μ i) (.inl rfl)
          (hdone _ _ (μ i) h0 hsz (by omega) hmax hh hcsl (by
            have e1 : l = [] := List.eq_nil_of_length_eq_zero hl0
            have e2 : data = [] := List.eq_nil_of_length_eq_zero hd0
            rw [e1, e2]; simp [flatV]))
          (v := .sl i 0 (l.length + data.length) none) (c := .slice (some ad') 0 0) (by
            intro D μ' hD hm
            simp only [VR, hm]
            exact ⟨hD, 0, ad', by rw [hl0, hd0], fun hq => absurd rfl hq, by omega, by omega, by omega⟩) o.dst
        refine wpIn_of_run hd hbuil (.inl (runs _ _ hrun)) ⟨_, _, _, _, _, hkk, h2, h3, put_defers _ _ _, by simp, fun j hj hq => ?_⟩
        by_cases e1 : i = j
        · subst e1; rw [hi] at hq; simp at hq
        · rw [List.getElem?_set_ne e1, List.getElem?_map, hq]; rfl
      · -- a new block
        have hgrow : cap < l.length + data.length := by omega
        have hds : ie.size = ks.length := by rw [hoke.size, hksl]
        have hlo : (flatV ks l).length = l.length * ie.size := by rw [length_flatV, hds]
        have holds : ∀ j v, (flatV ks l)[j]? = some v → w.cell? (ad'.add j) = some v := by
          intro j v hj
          have hjl := (List.getElem?_eq_some_iff.1 hj).1
          have hc0 : cap ≠ 0 := by
            intro hc0
            have : l.length = 0 := by omega
            rw [hlo, this] at hjl
            simp at hjl
          have hada := had hc0
          rw [h0] at hada
          simp only [Nat.zero_mul, Nat.add_zero] at hada
          rw [hada, addr_add, cell_of_heap hh, Nat.zero_add]
          rw [hsz] at htake
          rw [← htake, List.getElem?_take] at hj
          split at hj
          · exact hj
          · simp at hj
        have hrun := run_append_grow (P := P) w ty o.type e ie z hund hoke.inf hz ad' l.length cap (flatV ks l) hlo holds ad data.length cap2 (flatV ks data) hl hnews hgrow (by omega) (growslice_fits hgrow (by rw [hoke.bytes]; exact hby))
        have hge := grownCap_ge w (l.length + data.length) cap e
        have hcm := grownCap_le_maxLen w (l.length + data.length) cap e (by unfold maxLen; omega)
        have hfr : Fr (fun b => b = (μ i).blk) w.drew (w.drew.alloc (.cells ((flatV ks l).toArray ++ (flatV ks data).toArray ++ Builtin.zeroCells z.cells (grownCap w (l.length + data.length) cap e - (l.length + data.length))) e)) := Fr.alloc _ _ _ _
        have h5 : (flatV ks l ++ flatV ks data).length = (l.length + data.length) * ks.length := by rw [List.length_append, hlo, hl, hds, Nat.add_mul]
        obtain ⟨μ', h2, h3⟩ := regrow hsr' hn hni hi rfl (ob' := .row true e ks (l ++ data)) rfl hfr (m' := ⟨w.heap.size, 0, ks.length, grownCap w (l.length + data.length) cap e⟩) (.inr (Nat.le_refl _))
          (hdone (flatV ks l ++ flatV ks data ++ (Builtin.zeroCells z.cells (grownCap w (l.length + data.length) cap e - (l.length + data.length))).toList) _ _ rfl rfl hge hcm (by
            have := heap_alloc_self w.drew (.cells ((flatV ks l).toArray ++ (flatV ks data).toArray ++ Builtin.zeroCells z.cells (grownCap w (l.length + data.length) cap e - (l.length + data.length))) e)
            refine this.trans ?_
            congr 2
            apply Array.ext'; simp) (by
            simp only [List.length_append, Array.length_toList, size_zeroCells, hzs, hds]
            rw [hlo, hl, hds, ← Nat.add_mul, ← Nat.add_mul]
            congr 1; omega) (by
            rw [List.take_append_of_le_length (by rw [h5]; exact Nat.le_refl _), List.take_of_length_le (by rw [h5]; exact Nat.le_refl _)]))
          (hvdone _ rfl hge) o.dst
        refine wpIn_of_run hd hbuil (.inl (runs _ _ hrun)) (undrew _ _ ⟨_, _, _, _, _, hkk, h2, h3, put_defers _ _ _, by simp, fun j hj hq => ?_⟩)
        by_cases e1 : i = j
        · subst e1; rw [hi] at hq; simp at hq
        · rw [List.getElem?_set_ne e1, List.getElem?_map, hq]; rfl
  | junk | bool | int | str | agg | arr | tup | nilp | ptr | fn | yld | nilf | nili | iface => exact h.elim

/-- **ONE OPERATION.** -/
theorem aoper_sound (hT : TOk P T) (hsr : SR O μ t s x B a w) (hn : n0 ≤ s.length) (hid : n0 ≤ id) (hdd : Op.makes o.op = true → s[id]? = some .dead) {k : List AV → List Ob → σ → Prop} {Q : Exit → Act → World → Prop}
    (h : aoper P O T n0 id o t s x k) : o.wpIn (FR r) 0 P a w (Nx O n0 id μ s B w a k) Q := by
  by_cases hc : ∃ c, o.op = .call c
  · obtain ⟨c, ho⟩ := hc
    simp only [aoper, ho] at h
    split at h
    case h_1 f hf => exact callK_sound hsr hn ho hf h
    case h_2 hb => exact appendK_sound hT hsr hn hid (hdd (by simp [ho, Op.makes, hb])) ho hb h
    case h_3 b hne hb =>
      refine nx_of_out hsr hn hid (by intro c' hc'; rw [ho] at hc'; cases hc') (fun c' hc' => by rw [ho] at hc'; cases hc'; exact ⟨b, hb⟩) ?_
      refine aval_builtin hT hsr.rel hsr.tm ho (k := fun v e _ => putK t o.dst v fun t' => effK s e fun s' => k t' s' x) ?_
      simp only [aval, hb]
      exact h
    case h_4 => exact h.elim
  · have h' : aval T id o.op t s fun v e _ => putK t o.dst v fun t' => effK s e fun s' => k t' s' x := by
      unfold aoper at h
      split at h
      case h_1 c ho => exact absurd ⟨c, ho⟩ hc
      case h_2 => exact h
    refine nx_of_out hsr hn hid (fun c' hc' => ?_) (fun c' hc' => absurd ⟨c', hc'⟩ hc) (aval_sound hT hsr.rel hsr.tm hdd h')
    rw [hc'] at h'
    exact h'.elim

theorem aval_id {op : Op} (hm : Op.makes op = false) (id id' : Nat) {k : AV → Eff → FP → Prop} (h : aval T id op t s k) : aval T id' op t s k := by
  cases op
  case alloc => simp [Op.makes] at hm
  case box => simp [Op.makes] at hm
  case buildSlice => simp [Op.makes] at hm
  case makeSlice => simp [Op.makes] at hm
  case makeFunc fn _ _ => cases fn <;> exact h
  case slice mx => cases mx <;> exact h
  all_goals exact h

theorem aoper_id (hm : Op.makes o.op = false) (id id' : Nat) {k : List AV → List Ob → σ → Prop} (h : aoper P O T n0 id o t s x k) : aoper P O T n0 id' o t s x k := by
  unfold aoper at h ⊢
  split at h
  case h_1 c ho =>
    split at h
    case h_1 f hf => exact h
    case h_2 hb => simp [ho, Op.makes, hb] at hm
    case h_3 => exact h
    case h_4 => exact h
  case h_2 => exact aval_id hm id id' h

theorem guardK_sound {all : List Oper} (ht : VRL (Live s) μ t a.tmps.toList) {K : Bool → Prop} (h : guardK all o.guard t K) : K (Region.wanted o (yielded all.toArray a.tmps)) := by
  unfold guardK at h
  unfold Region.wanted
  cases hg : o.guard with
  | none => simpa [hg] using h
  | some q =>
    obtain ⟨j, want⟩ := q
    simp only [hg] at h ⊢
    obtain ⟨oj, hj, h⟩ := (nthK_iff _ _ _).1 h
    cases hdst : oj.dst with
    | none => simp [hdst] at h
    | some d =>
      simp only [hdst] at h
      obtain ⟨v, hv, hq⟩ := (nthK_iff _ _ _).1 h
      obtain ⟨c, hc, hvr⟩ := ht.get hv
      clear h
      unfold wantK at hq
      split at hq
      case h_3 => exact hq.elim
      case h_1 b =>
        simp only [VR] at hvr
        subst hvr
        have hc' : a.tmps[d]? = some (.bool b) := by simpa using hc
        have : yielded all.toArray a.tmps j = some b := by simp [yielded, hj, hdst, hc']
        rw [this]
        cases b <;> cases want <;> exact hq
      case h_2 =>
        simp only [VR, VRL] at hvr
        obtain ⟨cs, rfl, rfl⟩ := hvr
        have hc' : a.tmps[d]? = some (.tuple #[]) := by simpa using hc
        have : yielded all.toArray a.tmps j = none := by simp [yielded, hj, hdst, hc']
        rw [this]
        cases want <;> exact hq

/-- **A PLAIN REGION.** -/
theorem aops_sound (hT : TOk P T) {all : List Oper} {Q : Exit → Act → World → Prop} {k : List AV → List Ob → σ → Prop} : ∀ (ops : List Oper) (i : Nat) (id : Nat) (μ : MM) (t : List AV) (s : List Ob) (x : σ) (B : Nat → Prop) (a : Act) (w : World),
    all.drop i = ops → SR O μ t s x B a w → n0 ≤ s.length → n0 ≤ id → (∀ j, j < nMakes ops → s[id + j]? = some .dead) →
    aops P O T n0 all ops id t s x k →
    (∀ t' s' x' μ' B' a' w', k t' s' x' → SR O μ' t' s' x' B' a' w' → After n0 μ s B w μ' s' B' w' → a'.defers = a.defers → s.length ≤ s'.length → Q .normal a' w') →
    wpOpsIn (FR r) 0 P all.toArray Q ((List.range all.length).drop i) a w
  | [], i, id, μ, t, s, x, B, a, w, hi, hsr, hn, hid, hdd, h, hQ => by
    have hil : all.length ≤ i := by simpa using hi
    rw [List.drop_eq_nil_of_le (by simpa using hil)]
    exact hQ t s x μ B a w h hsr (After.refl hn hsr.sep) rfl (Nat.le_refl _)
  | o :: ops, i, id, μ, t, s, x, B, a, w, hi, hsr, hn, hid, hdd, h, hQ => by
    have hil : i < all.length := by
      rcases Nat.lt_or_ge i all.length with q | q
      · exact q
      · rw [List.drop_eq_nil_of_le q] at hi; cases hi
    have hoi : all[i]? = some o := by
      have := congrArg (·[0]?) hi
      simpa using this
    have hrest : all.drop (i + 1) = ops := by
      rw [← List.drop_drop, hi]; rfl
    have hr : (List.range all.length).drop i = i :: (List.range all.length).drop (i + 1) := by
      rw [List.drop_eq_getElem_cons (by simpa using hil)]; simp
    rw [hr, wpOpsIn_cons]
    unfold wpOpIn
    have hoi' : all.toArray[i]? = some o := by simpa using hoi
    simp only [hoi']
    simp only [aops_cons, idK_iff] at h
    have hg := guardK_sound hsr.tm h
    have hnm : nMakes (o :: ops) = cond (Op.makes o.op) (nMakes ops + 1) (nMakes ops) := rfl
    rw [hnm] at hdd
    rcases (cond_iff _ _ _).1 hg with ⟨hw, hg⟩ | ⟨hw, hg⟩
    · rw [if_pos hw]
      cases hm : Op.makes o.op
      · simp only [hm, cond_false] at hdd hg
        refine (Oper.wpIn_mono (K := Nx O n0 (id + s.length + 1) μ s B w a fun t' s' x' => aops P O T n0 all ops id t' s' x' k) ?_ (aoper_sound hT hsr hn (by omega) (fun h => by rw [hm] at h; cases h) (aoper_id hm id _ hg)))
        rintro a' w' ⟨t', s', x', μ', B', hk, hsr', haf, hdf, hlen, hdead⟩
        refine aops_sound hT ops (i + 1) _ μ' t' s' x' B' a' w' hrest hsr' haf.len hid (fun j hj => ?_) hk ?_
        · have h1 := hdd j hj
          exact hdead _ (by have := (List.getElem?_eq_some_iff.1 h1).1; omega) h1
        · intro t'' s'' x'' μ'' B'' a'' w'' h1 h2 h3 h4 h5
          exact hQ _ _ _ _ _ _ _ h1 h2 (haf.trans h3) (h4.trans hdf) (Nat.le_trans hlen h5)
      · simp only [hm, cond_true] at hdd hg
        refine (Oper.wpIn_mono (K := Nx O n0 id μ s B w a fun t' s' x' => aops P O T n0 all ops (id + 1) t' s' x' k) ?_ (aoper_sound hT hsr hn hid (fun _ => by simpa using hdd 0 (by omega)) hg))
        rintro a' w' ⟨t', s', x', μ', B', hk, hsr', haf, hdf, hlen, hdead⟩
        refine aops_sound hT ops (i + 1) _ μ' t' s' x' B' a' w' hrest hsr' haf.len (by omega) (fun j hj => ?_) hk ?_
        · have := hdd (j + 1) (by omega)
          rw [show id + 1 + j = id + (j + 1) by omega]
          exact hdead _ (by omega) this
        · intro t'' s'' x'' μ'' B'' a'' w'' h1 h2 h3 h4 h5
          exact hQ _ _ _ _ _ _ _ h1 h2 (haf.trans h3) (h4.trans hdf) (Nat.le_trans hlen h5)
    · rw [if_neg (by rw [hw]; simp)]
      refine ⟨fun f _ => trivial, ?_⟩
      rw [putK_iff] at hg
      obtain ⟨h2, h3⟩ := hsr.step (Stp.refl (id := id) hsr.rel) hn hid (dst := o.dst) (v := .tup []) (c := undef) (by simp only [VR]; exact ⟨[], rfl, by simp [VRL]⟩)
      refine aops_sound hT ops (i + 1) _ μ _ s x B _ w hrest h2 hn ?_ ?_ hg ?_
      · cases Op.makes o.op <;> simp <;> omega
      · intro j hj
        cases hm : Op.makes o.op
        · simp only [hm, cond_false] at hdd ⊢
          exact hdd j hj
        · simp only [hm, cond_true] at hdd ⊢
          have := hdd (j + 1) (by omega)
          rw [show id + 1 + j = id + (j + 1) by omega]
          exact this
      · intro t'' s'' x'' μ'' B'' a'' w'' h1 h2 h3 h4 h5
        exact hQ _ _ _ _ _ _ _ h1 h2 h3 (h4.trans (put_defers _ _ _)) h5

end
end Go.AW

/- The engine, 13: code; a function's contract out of its body. -/
namespace Go.AW
open Go
set_option linter.unusedVariables false
set_option linter.unusedSimpArgs false

variable {σ : Type}

def exitC : AExit → Exit
  | .normal => .normal
  | .exit id => .exit id
  | .goto l => .goto l
  | .ret => .ret

/-- the marks of ranges over functions among the deferred calls -/
def Marks (nb : Nat) (B : Nat → Prop) (a : Act) (w : World) : Prop :=
  nb ≤ w.heap.size ∧ ∃ ms : List Nat, a.defers = ms.map (fun k => { target := .collected k, args := #[] }) ∧ ms.Nodup ∧ ∀ k ∈ ms, nb ≤ k ∧ w.heap[k]? = some (.deferred (some [])) ∧ ¬ B k

theorem LV.cells {μ : MM} {s : List Ob} {w : World} (h : Rel μ s w) {b : Nat} (hb : LV μ s b) : ∃ cs e fr, w.heap[b]? = some (.cells cs e fr) := by
  obtain ⟨id, o, h1, h2, rfl⟩ := hb
  have ho := h.ob id o h1
  cases o with
  | dead => exact absurd rfl h2
  | cells sz c =>
    simp only [OR] at ho
    obtain ⟨_, _, cs, e, h, _⟩ := ho
    exact ⟨_, _, _, h⟩
  | row own e ks l =>
    cases own with
    | true =>
      simp only [OR] at ho
      obtain ⟨_, _, _, _, cs, h, _⟩ := ho
      exact ⟨_, _, _, h⟩
    | false => simp only [OR] at ho; exact ho.2.2.1

theorem Marks.after {nb n0 : Nat} {μ μ' : MM} {s s' : List Ob} {B B' : Nat → Prop} {a a' : Act} {w w' : World} (h : Marks nb B a w) (hr : Rel μ s w) (ha : After n0 μ s B w μ' s' B' w') (hd : a'.defers = a.defers) : Marks nb B' a' w' := by
  obtain ⟨h0, ms, h1, h2, h3⟩ := h
  refine ⟨Nat.le_trans h0 ha.fr.size, ms, by rw [hd, h1], h2, fun k hk => ?_⟩
  obtain ⟨h6, h4, h5⟩ := h3 k hk
  have hlt : k < w.heap.size := (Array.getElem?_eq_some_iff.1 h4).1
  refine ⟨h6, ?_, fun hb => ?_⟩
  · rw [ha.fr.block k hlt ?_]; · exact h4
    rintro (hq | hq)
    · obtain ⟨cs, e, fr, hc⟩ := LV.cells hr hq.lv
      rw [h4] at hc; simp at hc
    · exact h5 hq
  · rcases ha.b k hb with hq | hq
    · exact h5 hq
    · omega

section
variable {F : Fence} {n : Nat} {P : Program} {b : Frame} {a : Act} {k : List Item} {cs : List Frame} {w : World} {Q : Exit → Act → World → Prop}
theorem stepR_scope {c : Code} : step P (lone (b.atR a (.code (.scope c) :: k)) cs w) = .next (lone (b.atR a (.code c :: .inScope c :: k)) cs w) :=
  step_lone_go (by simp [stepG, stepG.exec, Frame.atR])
theorem stepR_inScope {c : Code} : step P (lone (b.atR a (.inScope c :: k)) cs w) = .next (lone (b.atR a k) cs w) :=
  step_lone_go (by simp [stepG, stepG.exec, Frame.atR])
theorem wpIn_scope {c : Code} (h : c.wpIn F n P (Exit.noGoto Q) a w) : (Code.scope c).wpIn F n P Q a w := by
  intro b k cs hro hb hr
  obtain ⟨e, a₁, w₁, hq, harr⟩ := h b (.inScope c :: k) cs hro hb hr
  have h0 : (lone (b.atR a (.code (.scope c) :: k)) cs w).fenced P F := fenced_calm hb hr rfl
  cases e with
  | normal => exact ⟨.normal, a₁, w₁, hq, .head h0 stepR_scope (StepsIn.trans harr (.one (fenced_calm hb hr rfl) stepR_inScope))⟩
  | exit id => exact ⟨.exit id, a₁, w₁, hq, .of_steps (.one h0 stepR_scope) ⟨fun k' hk => harr.1 k' (by simpa [exitTo] using hk), fun hr' hk => harr.2 hr' (by simpa [exitTo] using hk)⟩⟩
  | goto l => exact hq.elim
  | ret => exact ⟨_, a₁, w₁, hq, .of_steps (.one h0 stepR_scope) (show ArrivesIn _ _ _ _ _ _ _ _ _ from harr)⟩
  | panic ch => exact ⟨_, a₁, w₁, hq, .of_steps (.one h0 stepR_scope) (show ArrivesIn _ _ _ _ _ _ _ _ _ from harr)⟩
  | outgrown => exact ⟨_, a₁, w₁, hq, .of_steps (.one h0 stepR_scope) (show ArrivesIn _ _ _ _ _ _ _ _ _ from harr)⟩
end

/-- what is asked at a code's end -/
def APost (O : Outer σ) (nb n0 : Nat) (μ : MM) (s : List Ob) (B : Nat → Prop) (w : World) (k : AExit → List AV → List Ob → σ → Prop) (e : Exit) (a' : Act) (w' : World) : Prop :=
  ∃ ae t' s' x' μ' B', e = exitC ae ∧ k ae t' s' x' ∧ SR O μ' t' s' x' B' a' w' ∧ After n0 μ s B w μ' s' B' w' ∧ Marks nb B' a' w'

/-- **A CODE's MEANING** -/
def AW (P : Program) (O : Outer σ) (n0 : Nat) (r : Option Nat) (c : Code) (t : List AV) (s : List Ob) (x : σ) (k : AExit → List AV → List Ob → σ → Prop) : Prop :=
  n0 ≤ s.length → ∀ nb μ B a w, SR O μ t s x B a w → Marks nb B a w → c.wpIn (FR r) 0 P (APost O nb n0 μ s B w k) a w

/-- a loop, at the head of a round -/
def LP (F : Fence) (n : Nat) (P : Program) (c : Code) (Q : Exit → Act → World → Prop) (a : Act) (w : World) : Prop :=
  ∀ (b : Frame) (k : List Item) (cs : List Frame), b.roundOf = F.round → F.fn b.fn → F.room (cs.length + 1 + n) →
    ∃ e a' w', Q e a' w' ∧ ArrivesIn (Machine.fenced P F) P (lone (b.atR a (.code c :: .inLoop c :: k)) cs w) b k cs e a' w'

theorem LP_round {F : Fence} {n : Nat} {P : Program} {c : Code} {Q : Exit → Act → World → Prop} {a : Act} {w : World} (h : c.wpIn F n P (Exit.then (LP F n P c Q) Q) a w) : LP F n P c Q a w := by
  intro b k cs hro hb hr
  obtain ⟨e, a₁, w₁, hq, harr⟩ := h b (.inLoop c :: k) cs hro hb hr
  cases e with
  | normal =>
    obtain ⟨e₂, a₂, w₂, hq₂, harr₂⟩ := hq b k cs hro hb hr
    exact ⟨e₂, a₂, w₂, hq₂, .of_steps (StepsIn.trans harr (.one (fenced_calm hb hr rfl) stepR_inLoop)) harr₂⟩
  | exit id => exact ⟨_, a₁, w₁, hq, .pass (x := .inLoop c) rfl (fun _ _ => .inl (by simp)) harr⟩
  | goto l => exact ⟨_, a₁, w₁, hq, .pass (x := .inLoop c) rfl (fun _ _ => .inl (by simp)) harr⟩
  | ret => exact ⟨_, a₁, w₁, hq, .pass (x := .inLoop c) rfl (fun _ _ => .inl (by simp)) harr⟩
  | panic ch => exact ⟨_, a₁, w₁, hq, .pass (x := .inLoop c) rfl (fun _ _ => .inl (by simp)) harr⟩
  | outgrown => exact ⟨_, a₁, w₁, hq, .pass (x := .inLoop c) rfl (fun _ _ => .inl (by simp)) harr⟩

theorem LP_mono {F : Fence} {n : Nat} {P : Program} {c : Code} {Q Q' : Exit → Act → World → Prop} {a : Act} {w : World} (h : LP F n P c Q a w) (hq : ∀ e a w, Q e a w → Q' e a w) : LP F n P c Q' a w :=
  fun b k cs hro hb hr => let ⟨e, a', w', q, r⟩ := h b k cs hro hb hr; ⟨e, a', w', hq _ _ _ q, r⟩

theorem wpIn_of_LP {F : Fence} {n : Nat} {P : Program} {c : Code} {Q : Exit → Act → World → Prop} {a : Act} {w : World} (h : LP F n P c Q a w) : (Code.loop c).wpIn F n P Q a w := by
  intro b k cs hro hb hr
  obtain ⟨e, a', w', hq, harr⟩ := h b k cs hro hb hr
  exact ⟨e, a', w', hq, .of_steps (.one (fenced_calm hb hr rfl) stepR_loop) harr⟩

/-- **A LOOP's MEANING**, at the head of a round -/
def AL (P : Program) (O : Outer σ) (n0 : Nat) (r : Option Nat) (c : Code) (t : List AV) (s : List Ob) (x : σ) (k : AExit → List AV → List Ob → σ → Prop) : Prop :=
  n0 ≤ s.length → ∀ nb μ B a w, SR O μ t s x B a w → Marks nb B a w → LP (FR r) 0 P c (APost O nb n0 μ s B w k) a w

/-- (so that a reckoning stops there) -/
structure ALs (P : Program) (O : Outer σ) (n0 : Nat) (r : Option Nat) (c : Code) (t : List AV) (s : List Ob) (x : σ) (k : AExit → List AV → List Ob → σ → Prop) : Prop where
  of : AL P O n0 r c t s x k
structure AWs (P : Program) (O : Outer σ) (n0 : Nat) (r : Option Nat) (c : Code) (t : List AV) (s : List Ob) (x : σ) (k : AExit → List AV → List Ob → σ → Prop) : Prop where
  of : AW P O n0 r c t s x k

theorem AW.mono {P : Program} {O : Outer σ} {n0 : Nat} {r : Option Nat} {c : Code} {t : List AV} {s : List Ob} {x : σ} {k k' : AExit → List AV → List Ob → σ → Prop} (h : AW P O n0 r c t s x k) (hk : ∀ e t s x, k e t s x → k' e t s x) : AW P O n0 r c t s x k' :=
  fun hn nb μ B a w hs hm => wpIn_mono (h hn nb μ B a w hs hm) fun e a' w' ⟨ae, t', s', x', μ', B', h1, h2, h3⟩ => ⟨ae, t', s', x', μ', B', h1, hk _ _ _ _ h2, h3⟩

noncomputable def loopK (b bot : List AV → List Ob → σ → (AExit → List AV → List Ob → σ → Prop) → Prop) (n : Nat) : List AV → List Ob → σ → (AExit → List AV → List Ob → σ → Prop) → Prop :=
  @Nat.rec (fun _ => List AV → List Ob → σ → (AExit → List AV → List Ob → σ → Prop) → Prop)
    (fun t s x k => bot t s x k)
    (fun _ ih t s x k => b t s x fun e t' s' x' => match e with
      | .normal => ih t' s' x' k
      | e => k e t' s' x') n

/-- room for what a region makes -/
def mkK (n0 : Nat) (s : List Ob) (n : Nat) (k : Nat → List Ob → Prop) : Prop :=
  match n with
  | 0 => k n0 s
  | n + 1 => extK s (deads (n + 1)) 0 k

/-- does a code go round? -/
noncomputable def hasLoop (c : Code) : Bool :=
  @Code.rec (fun _ => Bool) false (fun _ _ _ => false) (fun _ _ a b => a || b) (fun _ _ _ a b => a || b) (fun _ _ b => b) (fun _ _ => true) (fun _ _ _ _ _ _ => true) (fun _ => false) (fun _ b => b) (fun _ => false) (fun _ => false) false (fun _ => false) c

noncomputable def awp (P : Program) (O : Outer σ) (T : TT) (n0 : Nat) (r : Option Nat) (N : Nat) (c : Code) : List AV → List Ob → σ → (AExit → List AV → List Ob → σ → Prop) → Prop :=
  @Code.rec (fun _ => List AV → List Ob → σ → (AExit → List AV → List Ob → σ → Prop) → Prop)
    (fun t s x k => k .normal t s x)
    (fun id ops draw t s x k => cond draw (AWs P O n0 r (.region id ops true) t s x k)
      (mkK n0 s (nMakes ops.toList) fun base s1 => aops P O T n0 ops.toList ops.toList base t s1 x fun t' s' x' => k .normal t' s' x'))
    (fun a b ia ib t s x k => cond (Nat.beq N 0 && hasLoop a)
      (ia t s x fun e t' s' x' => match e with
        | .normal => AWs P O n0 r b t' s' x' k
        | e => k e t' s' x')
      (ia t s x fun e t' s' x' => match e with
        | .normal => ib t' s' x' k
        | e => k e t' s' x'))
    (fun c _ _ ia ib t s x k => evK t c fun v => boolK v fun q => cond q (ia t s x k) (ib t s x k))
    (fun id _ ib t s x k => ib t s x fun e t' s' x' => match e with
      | .exit id' => cond (id' == id) (k .normal t' s' x') (k (.exit id') t' s' x')
      | e => k e t' s' x')
    (fun b ib t s x k => loopK ib (fun t s x k => ALs P O n0 r b t s x k) N t s x k)
    (fun g ps as b _ _ t s x k => AWs P O n0 r (.rangeFunc g ps as b) t s x k)
    (fun id t s x k => k (.exit id) t s x)
    (fun _ ib t s x k => ib t s x fun e t' s' x' => match e with
      | .goto _ => False
      | e => k e t' s' x')
    (fun _ t s x k => k .normal t s x)
    (fun l t s x k => k (.goto l) t s x)
    (fun t s x k => k .ret t s x)
    (fun _ _ _ _ _ => False) c

section
variable {P : Program} {T : TT} {O : Outer σ} {n0 : Nat} {r : Option Nat} {t : List AV} {s : List Ob} {x : σ} {k : AExit → List AV → List Ob → σ → Prop}

theorem APost.here {nb : Nat} {μ : MM} {B : Nat → Prop} {a : Act} {w : World} {e : AExit} (hn : n0 ≤ s.length) (hs : SR O μ t s x B a w) (hm : Marks nb B a w) (h : k e t s x) : APost O nb n0 μ s B w k (exitC e) a w :=
  ⟨e, t, s, x, μ, B, rfl, h, hs, After.refl hn hs.sep, hm⟩

theorem AW_seq {a b : Code} (h : AW P O n0 r a t s x fun e t' s' x' => match e with
    | .normal => AW P O n0 r b t' s' x' k
    | e => k e t' s' x') : AW P O n0 r (.seq a b) t s x k := by
  intro hn nb μ B ac w hs hm
  refine wpIn_seq (wpIn_mono (h hn nb μ B ac w hs hm) ?_)
  rintro e a' w' ⟨ae, t', s', x', μ', B', rfl, hk, hs', haf, hm'⟩
  cases ae with
  | normal =>
    refine wpIn_mono (hk haf.len nb μ' B' a' w' hs' hm') ?_
    rintro e a'' w'' ⟨ae, t'', s'', x'', μ'', B'', rfl, hk', hs'', haf', hm''⟩
    exact ⟨ae, t'', s'', x'', μ'', B'', rfl, hk', hs'', haf.trans haf', hm''⟩
  | exit id => exact ⟨_, _, _, _, _, _, rfl, hk, hs', haf, hm'⟩
  | goto l => exact ⟨_, _, _, _, _, _, rfl, hk, hs', haf, hm'⟩
  | ret => exact ⟨_, _, _, _, _, _, rfl, hk, hs', haf, hm'⟩

theorem AW_block {id : Nat} {b : Code} (h : AW P O n0 r b t s x fun e t' s' x' => match e with
    | .exit id' => cond (id' == id) (k .normal t' s' x') (k (.exit id') t' s' x')
    | e => k e t' s' x') : AW P O n0 r (.block id b) t s x k := by
  intro hn nb μ B ac w hs hm
  refine wpIn_block (wpIn_mono (h hn nb μ B ac w hs hm) ?_)
  rintro e a' w' ⟨ae, t', s', x', μ', B', rfl, hk, hs', haf, hm'⟩
  cases ae with
  | normal => exact ⟨_, _, _, _, _, _, rfl, hk, hs', haf, hm'⟩
  | exit id' =>
    simp only [exitC, Exit.inBlock]
    by_cases e : id' = id
    · rw [if_pos e]
      subst e
      simp only [beq_self_eq_true, cond_true] at hk
      exact ⟨.normal, _, _, _, _, _, rfl, hk, hs', haf, hm'⟩
    · rw [if_neg e]
      have : (id' == id) = false := by simpa using e
      simp only [this, cond_false] at hk
      exact ⟨.exit id', _, _, _, _, _, rfl, hk, hs', haf, hm'⟩
  | goto l => exact ⟨_, _, _, _, _, _, rfl, hk, hs', haf, hm'⟩
  | ret => exact ⟨_, _, _, _, _, _, rfl, hk, hs', haf, hm'⟩

theorem AW_scope {c : Code} (h : AW P O n0 r c t s x fun e t' s' x' => match e with
    | .goto _ => False
    | e => k e t' s' x') : AW P O n0 r (.scope c) t s x k := by
  intro hn nb μ B a w hs hm
  refine wpIn_scope (wpIn_mono (h hn nb μ B a w hs hm) ?_)
  rintro e a' w' ⟨ae, t', s', x', μ', B', rfl, hk, rest⟩
  cases ae with
  | goto l => exact hk.elim
  | normal => exact ⟨_, _, _, _, _, _, rfl, hk, rest⟩
  | exit id => exact ⟨_, _, _, _, _, _, rfl, hk, rest⟩
  | ret => exact ⟨_, _, _, _, _, _, rfl, hk, rest⟩

theorem AW_cond {c : Operand} {a b : Code} (h : evK t c fun v => boolK v fun q => cond q (AW P O n0 r a t s x k) (AW P O n0 r b t s x k)) : AW P O n0 r (.cond c a b) t s x k := by
  intro hn nb μ B ac w hs hm
  obtain ⟨v, h, hv⟩ := evK_sound hs.tm h
  obtain ⟨q, rfl, h, hq⟩ := boolK_sound hv h
  refine wpIn_cond (t := q) hq ?_
  cases q
  · exact h hn nb μ B ac w hs hm
  · exact h hn nb μ B ac w hs hm

/-- one round of a loop -/
theorem AL_round {b : Code} (h : AW P O n0 r b t s x fun e t' s' x' => match e with
    | .normal => AL P O n0 r b t' s' x' k
    | e => k e t' s' x') : AL P O n0 r b t s x k := by
  intro hn nb μ B ac w hs hm
  refine LP_round (wpIn_mono (h hn nb μ B ac w hs hm) ?_)
  rintro e a' w' ⟨ae, t', s', x', μ', B', rfl, hk, hs', haf, hm'⟩
  cases ae with
  | normal =>
    refine LP_mono (hk haf.len nb μ' B' a' w' hs' hm') ?_
    rintro e a'' w'' ⟨ae, t'', s'', x'', μ'', B'', rfl, hk', hs'', haf', hm''⟩
    exact ⟨ae, t'', s'', x'', μ'', B'', rfl, hk', hs'', haf.trans haf', hm''⟩
  | exit id => exact ⟨_, _, _, _, _, _, rfl, hk, hs', haf, hm'⟩
  | goto l => exact ⟨_, _, _, _, _, _, rfl, hk, hs', haf, hm'⟩
  | ret => exact ⟨_, _, _, _, _, _, rfl, hk, hs', haf, hm'⟩

theorem AW_of_AL {b : Code} (h : AL P O n0 r b t s x k) : AW P O n0 r (.loop b) t s x k :=
  fun hn nb μ B a w hs hm => wpIn_of_LP (h hn nb μ B a w hs hm)

/-- less is known: tmps -/
theorem SR.weaken {μ : MM} {t t' : List AV} {s s' : List Ob} {B : Nat → Prop} {a : Act} {w : World} (h : SR O μ t s x B a w)
    (ht : VRL (Live s') μ t' a.tmps.toList) (hs : Rel μ s' w) (hl : ∀ b, LV μ s' b → LV μ s b) : SR O μ t' s' x B a w :=
  ⟨ht, hs, h.out, fun b hb hq => h.sep b hb (hl b hq)⟩

/-- **WHAT 'awp' SAYS IS SO.** -/
theorem awp_sound (hT : TOk P T) {N : Nat} : ∀ (c : Code) (t : List AV) (s : List Ob) (x : σ) (k : AExit → List AV → List Ob → σ → Prop), awp P O T n0 r N c t s x k → AW P O n0 r c t s x k
  | .skip, t, s, x, k, h => fun hn nb μ B a w hs hm => wpIn_skip (APost.here (e := .normal) hn hs hm h)
  | .label _, t, s, x, k, h => fun hn nb μ B a w hs hm => wpIn_label (APost.here (e := .normal) hn hs hm h)
  | .exit id, t, s, x, k, h => fun hn nb μ B a w hs hm => wpIn_exit (APost.here (e := .exit id) hn hs hm h)
  | .goto l, t, s, x, k, h => fun hn nb μ B a w hs hm => wpIn_goto (APost.here (e := .goto l) hn hs hm h)
  | .ret, t, s, x, k, h => fun hn nb μ B a w hs hm => wpIn_ret (APost.here (e := .ret) hn hs hm h)
  | .region id ops draw, t, s, x, k, h => by
    change cond draw (AWs P O n0 r (.region id ops true) t s x k) (mkK n0 s (nMakes ops.toList) fun base s1 => aops P O T n0 ops.toList ops.toList base t s1 x fun t' s' x' => k .normal t' s' x') at h
    rcases (cond_iff _ _ _).1 h with ⟨rfl, h⟩ | ⟨rfl, h⟩
    · exact h.of
    · intro hn nb μ B a w hs hm
      refine wpIn_region ?_
      have key : ∀ base s1, (∀ j, j < nMakes ops.toList → s1[base + j]? = some .dead) → n0 ≤ base → SR O μ t s1 x B a w → After n0 μ s B w μ s1 B w →
          aops P O T n0 ops.toList ops.toList base t s1 x (fun t' s' x' => k .normal t' s' x') → wpOpsIn (FR r) 0 P ops (APost O nb n0 μ s B w k) (List.range ops.size) a w := by
        intro base s1 hdd hb hs1 haf h
        have := aops_sound (Q := APost O nb n0 μ s B w k) (r := r) hT ops.toList 0 base μ t s1 x B a w rfl hs1 haf.len hb hdd h (by
          intro t' s' x' μ' B' a' w' hk hs' haf' hdf _
          have haf2 := haf.trans haf'
          exact ⟨.normal, t', s', x', μ', B', rfl, hk, hs', haf2, hm.after hs.rel haf2 hdf⟩)
        simpa using this
      unfold mkK at h
      split at h
      case h_1 h0 => exact key n0 s (by intro j hj; rw [h0] at hj; omega) (Nat.le_refl _) hs (After.refl hn hs.sep) h
      case h_2 m hm' =>
        rw [extK_iff, Nat.zero_add] at h
        have hdl : ∀ n, (deads n).length = n := by intro n; induction n with | zero => rfl | succ n ih => simp [deads, ih]
        have hdg : ∀ n j, j < n → (deads n)[j]? = some Ob.dead := by
          intro n
          induction n with
          | zero => intro j hj; omega
          | succ n ih => intro j hj; cases j with | zero => rfl | succ j => simpa [deads] using ih j (by omega)
        have hget : ∀ (i : Nat) (ob : Ob), (s ++ deads (m + 1))[i]? = some ob → ob ≠ Ob.dead → s[i]? = some ob := by
          intro i ob hi hne
          by_cases hl : i < s.length
          · rwa [List.getElem?_append_left hl] at hi
          · rw [List.getElem?_append_right (by omega)] at hi
            have hlt := (List.getElem?_eq_some_iff.1 hi).1
            rw [hdl] at hlt
            rw [hdg _ _ hlt] at hi
            exact absurd (Option.some.inj hi).symm hne
        have hget2 : ∀ (i : Nat) (ob : Ob), s[i]? = some ob → (s ++ deads (m + 1))[i]? = some ob := by
          intro i ob hi
          rw [List.getElem?_append_left (List.getElem?_eq_some_iff.1 hi).1]; exact hi
        have hlv : ∀ i, Live s i → Live (s ++ deads (m + 1)) i := fun i ⟨ob, h1, h2⟩ => ⟨ob, hget2 i ob h1, h2⟩
        have hlv2 : ∀ b, LV μ (s ++ deads (m + 1)) b → LV μ s b := fun b ⟨i, ob, h1, h2, h3⟩ => ⟨i, ob, hget i ob h1 h2, h2, h3⟩
        have hrel : Rel μ (s ++ deads (m + 1)) w := by
          refine ⟨fun i ob hi => ?_, fun i i' ob ob' hi hi' hne hw hd => ?_⟩
          · by_cases hd : ob = .dead
            · subst hd; simp [OR]
            · exact (hs.rel.ob i ob (hget i ob hi hd)).mono fun q hq => ⟨hlv q hq, rfl⟩
          · have hd1 : ob ≠ .dead := by rintro rfl; simp [Ob.own] at hw
            exact hs.rel.sep i i' ob ob' (hget i ob hi hd1) (hget i' ob' hi' hd) hne hw hd
        have hs1 : SR O μ t (s ++ deads (m + 1)) x B a w := hs.weaken (hs.tm.mono fun q hq => ⟨hlv q hq, rfl⟩) hrel hlv2
        refine key s.length _ (fun j hj => ?_) hn hs1 ⟨fun _ _ => rfl, fun j _ hj => hlv j hj, fun j hj hd => hget2 j _ hd, by simp; omega, Fr.refl _ _, fun b hb => .inl ?_, fun b hb => .inl (hlv2 b hb), fun b hb => .inl hb, hs1.sep⟩ h
        · rw [List.getElem?_append_right (by omega), hdg _ _ (by rw [hm'] at hj; omega)]
        · obtain ⟨i, ob, h1, h2, h3⟩ := hb
          exact ⟨i, ob, hget i ob h1 (by rintro rfl; simp [Ob.own] at h2), h2, h3⟩
  | .seq a b, t, s, x, k, h => by
    change cond (Nat.beq N 0 && hasLoop a)
      (awp P O T n0 r N a t s x fun e t' s' x' => match e with
        | .normal => AWs P O n0 r b t' s' x' k
        | e => k e t' s' x')
      (awp P O T n0 r N a t s x fun e t' s' x' => match e with
        | .normal => awp P O T n0 r N b t' s' x' k
        | e => k e t' s' x') at h
    rcases (cond_iff _ _ _).1 h with ⟨_, h⟩ | ⟨_, h⟩
    · exact AW_seq ((awp_sound hT a t s x _ h).mono fun e t' s' x' h' => by
        cases e with
        | normal => exact h'.of
        | exit => exact h'
        | goto => exact h'
        | ret => exact h')
    · exact AW_seq ((awp_sound hT a t s x _ h).mono fun e t' s' x' h' => by
        cases e with
        | normal => exact awp_sound hT b t' s' x' k h'
        | exit => exact h'
        | goto => exact h'
        | ret => exact h')
  | .cond c a b, t, s, x, k, h => AW_cond (by
      change evK t c fun v => boolK v fun q => cond q (awp P O T n0 r N a t s x k) (awp P O T n0 r N b t s x k) at h
      have hev : ∀ {x : Operand} {K K' : AV → Prop}, (∀ v, K v → K' v) → evK t x K → evK t x K' := by
        intro x K K' hK hx
        cases x with
        | tmp i => simp only [evK, nthK_iff] at hx ⊢; obtain ⟨v, h1, h2⟩ := hx; exact ⟨v, h1, hK v h2⟩
        | const v =>
          simp only [evK] at hx ⊢
          unfold constK at hx ⊢
          split at hx <;> first | exact hK _ hx | exact hx.elim
        | global => exact hx
        | func f => exact hK _ hx
      refine hev (fun v hv => ?_) h
      cases v <;> simp only [boolK] at hv ⊢
      rename_i q
      cases q
      · exact awp_sound hT b t s x k hv
      · exact awp_sound hT a t s x k hv)
  | .block id b, t, s, x, k, h => AW_block (awp_sound hT b t s x _ h)
  | .loop b, t, s, x, k, h => AW_of_AL (by
      change loopK (awp P O T n0 r N b) (fun t s x k => ALs P O n0 r b t s x k) N t s x k at h
      have : ∀ (N' : Nat) (t : List AV) (s : List Ob) (x : σ), loopK (awp P O T n0 r N b) (fun t s x k => ALs P O n0 r b t s x k) N' t s x k → AL P O n0 r b t s x k := by
        intro N'
        induction N' with
        | zero => intro t s x h; exact h.of
        | succ N' ih =>
          intro t s x h
          refine AL_round ((awp_sound hT b t s x _ h).mono fun e t' s' x' h' => ?_)
          cases e with
          | normal => exact ih t' s' x' h'
          | exit => exact h'
          | goto => exact h'
          | ret => exact h'
      exact this N t s x h)
  | .rangeFunc g ps as b, t, s, x, k, h => h.of
  | .scope b, t, s, x, k, h => AW_scope ((awp_sound hT b t s x _ h).mono fun e t' s' x' h' => by cases e <;> exact h')
  | .refuse _, _, _, _, _, h => h.elim
/-- one round of a loop, reckoned -/
theorem ALs.round (hT : TOk P T) (N : Nat) {b : Code} (h : awp P O T n0 r N b t s x fun e t' s' x' => match e with
    | .normal => ALs P O n0 r b t' s' x' k
    | e => k e t' s' x') : ALs P O n0 r b t s x k :=
  ⟨AL_round ((awp_sound hT b t s x _ h).mono fun e t' s' x' h' => by cases e <;> first | exact h'.of | exact h')⟩

end

/-! ### a function's results -/
def resK (T : TT) (t : List AV) (s : List Ob) : List ResultVar → (List AV → Prop) → Prop
  | [], k => k []
  | .tmp i :: rs, k => nthK t i fun v => resK T t s rs fun l => k (v :: l)
  | .cell i ty :: rs, k => tyK T ty fun ti => nthK t i fun av => ptrK av fun id r j => nthK s id (loadOb ti r j (fun v _ => resK T t s rs fun l => k (v :: l)) id)

def retK (l : List AV) (k : AV → Prop) : Prop :=
  match l with
  | [v] => k v
  | l => k (.tup l)

/-- what is asked where a body ends -/
def endK (T : TT) (fn : Func) (Q : AV → List Ob → σ → Prop) (e : AExit) (t : List AV) (s : List Ob) (x : σ) : Prop :=
  match e with
  | .normal | .ret => resK T t s fn.results.toList fun l => retK l fun v => Q v s x
  | _ => False

end Go.AW

/- The engine, 14: contracts of functions. -/
namespace Go.AW
open Go
set_option linter.unusedVariables false
set_option linter.unusedSimpArgs false

variable {σ : Type}

section
variable {P : Program} {T : TT} {O : Outer σ} {μ : MM} {t : List AV} {s : List Ob} {w : World}

def resSem (tmps : Array Value) : ResultVar → Sem Value
  | .tmp t => pure (tmps.getD t undef)
  | .cell a t => do loadVar t (← asAddr (tmps.getD a undef))

theorem resK_sound (hT : TOk P T) (hr : Rel μ s w) {a : Act} (ht : VRL (Live s) μ t a.tmps.toList) : ∀ (rs : List ResultVar) {K : List AV → Prop}, resK T t s rs K →
    ∃ l cs, K l ∧ VRL (Live s) μ l cs ∧ (rs.mapM (resSem a.tmps)).run P w = .ok cs w
  | [], K, h => ⟨[], [], h, by simp [VRL], by simp⟩
  | .tmp i :: rs, K, h => by
    simp only [resK] at h
    obtain ⟨v, hv, h⟩ := (nthK_iff _ _ _).1 h
    obtain ⟨c, hc, hvr⟩ := ht.get hv
    obtain ⟨l, cs, hK, hl, hrun⟩ := resK_sound hT hr ht rs h
    have hc' : a.tmps[i]? = some c := by simpa using hc
    exact ⟨v :: l, c :: cs, hK, by simp only [VRL]; exact ⟨_, _, rfl, hvr, hl⟩, by simp [List.mapM_cons, resSem, hc', hrun]⟩
  | .cell i ty :: rs, K, h => by
    simp only [resK] at h
    obtain ⟨ti, hti, h⟩ := (tyK_at _ _ _).1 h
    obtain ⟨info, d, hok⟩ := hT _ _ hti
    obtain ⟨av, hav, h⟩ := (nthK_iff _ _ _).1 h
    obtain ⟨c, hc, hvr⟩ := ht.get hav
    obtain ⟨id, r, j, rfl, h, hlive, rfl⟩ := ptrK_sound hvr h
    obtain ⟨ob, hob, h⟩ := (nthK_iff _ _ _).1 h
    obtain ⟨u, fp, c', hk, hu, hrun'⟩ := loadOb_sound hok hr hob h
    obtain ⟨l, cs, hK, hl, hrun⟩ := resK_sound hT hr ht rs hk
    have hc' : a.tmps[i]? = some (.pointer (some ⟨(μ id).blk, (μ id).off + (r * (μ id).sz + j), none⟩)) := by simpa using hc
    exact ⟨u :: l, c' :: cs, hK, by simp only [VRL]; exact ⟨_, _, rfl, hu, hl⟩, by simp [List.mapM_cons, resSem, hc', asAddr, hrun', hrun]⟩

theorem retK_sound {D : Nat → Prop} {l : List AV} {cs : List Value} (hl : VRL D μ l cs) {K : AV → Prop} (h : retK l K) :
    ∃ v, K v ∧ VR D μ v (if h : cs.toArray.size = 1 then cs.toArray[0] else .tuple cs.toArray) := by
  have hlen := VRL.length hl
  have gen : cs.toArray.size ≠ 1 → K (.tup l) → ∃ v, K v ∧ VR D μ v (if h : cs.toArray.size = 1 then cs.toArray[0] else .tuple cs.toArray) := by
    intro h1 hk
    refine ⟨_, hk, ?_⟩
    rw [dif_neg h1]
    simp only [VR]
    exact ⟨cs, rfl, hl⟩
  match l, hl, hlen, h, gen with
  | [], hl, hlen, h, gen => exact gen (by simp at hlen ⊢; simp [hlen]) h
  | [v], hl, hlen, h, gen =>
    simp only [VRL] at hl
    obtain ⟨c, r, rfl, hv, rfl⟩ := hl
    exact ⟨v, h, by simpa using hv⟩
  | v :: u :: l, hl, hlen, h, gen => exact gen (by simp at hlen ⊢; omega) h

theorem run_results (hT : TOk P T) {fn : Func} (hr : Rel μ s w) {a : Act} (ht : VRL (Live s) μ t a.tmps.toList) {K : AV → Prop} (h : resK T t s fn.results.toList fun l => retK l K) :
    ∃ v c, K v ∧ VR (Live s) μ v c ∧ (results fn a.tmps).run P w = .ok c w := by
  obtain ⟨l, cs, h, hl, hrun⟩ := resK_sound hT hr ht _ h
  obtain ⟨v, hv, hvr⟩ := retK_sound hl h
  refine ⟨v, _, hv, hvr, ?_⟩
  have h1 : (fn.results.mapM (resSem a.tmps)).run P w = .ok cs.toArray w := by
    rw [Array.mapM_eq_mapM_toList]
    simp [hrun]
  have e : results fn a.tmps = (do let vs ← fn.results.mapM (resSem a.tmps); Pure.pure (if h : vs.size = 1 then vs[0] else .tuple vs)) := by
    unfold results
    congr 1
  rw [e, Sem.run_bind, h1, Result.andThen_ok, Sem.run_pure]

theorem frozen_putObj {w : World} {r : Nat} {o : Obj} (ho : ∀ cs e fr, o ≠ .cells cs e fr) (a : Addr) (h : (w.putObj r o).frozen? a = true) : w.frozen? a = true := by
  by_cases e : a.block = r
  · exfalso
    unfold World.frozen? at h
    rw [e] at h
    cases hq : (w.putObj r o).heap[r]? with
    | none => rw [hq] at h; cases h
    | some o' =>
      have hlt : r < w.heap.size := by have := (Array.getElem?_eq_some_iff.1 hq).1; simpa using this
      rw [World.putObj_heap_same hlt] at hq
      obtain rfl := Option.some.inj hq
      rw [World.putObj_heap_same hlt] at h
      cases o <;> first | exact ho _ _ _ rfl | cases h
  · unfold World.frozen? at h ⊢
    rwa [World.putObj_heap_other e] at h

/-- leaving, the marks taken -/
theorem leaves_marks {fn : Func} {tmps : Array Value} {R : Ending → World → Prop} : ∀ (ms : List Nat) (w : World), ms.Nodup → (∀ k ∈ ms, w.heap[k]? = some (.deferred (some []))) →
    (∀ w' : World, w'.os = w.os → w'.tape = w.tape → w'.output = w.output → w'.heap.size = w.heap.size → (∀ k, k ∉ ms → w'.heap[k]? = w.heap[k]?) → (∀ a, w'.frozen? a = true → w.frozen? a = true) → ∃ v, (results fn tmps).run P w' = .ok v w' ∧ R (.returned v) w') →
    LeavesInM (FR none) 0 P fn tmps R (ms.map fun k => { target := .collected k, args := #[] }) .returning w
  | [], w, _, _, h => by
    obtain ⟨v, h1, h2⟩ := h w rfl rfl rfl rfl (fun _ _ => rfl) (fun _ h => h)
    simp only [List.map_nil, LeavesInM, LeavesIn]
    exact ⟨v, h1, h2⟩
  | m :: ms, w, hnd, hm, h => by
    simp only [List.map_cons, LeavesInM]
    have hk := hm m (by simp)
    have hnd' := List.nodup_cons.1 hnd
    refine ⟨by simp, .inl ⟨m, _, rfl, run_takeDeferred hk, ?_⟩⟩
    refine leaves_marks ms _ hnd'.2 (fun k hk' => ?_) (fun w' h1 h2 h3 h4 h5 h6 => h w' h1 h2 h3 (h4.trans (by simp)) (fun k hk' => ?_) fun a ha => frozen_putObj (by rintro cs e fr hc; cases hc) a (h6 a ha))
    · rw [World.putObj_heap_other (by rintro rfl; exact hnd'.1 hk')]; exact hm k (by simp [hk'])
    · simp only [List.mem_cons, not_or] at hk'
      rw [h5 k hk'.2, World.putObj_heap_other hk'.1]

end

def junks : Nat → List AV
  | 0 => []
  | n + 1 => .junk :: junks n

theorem VRL_junks {D : Nat → Prop} {μ : MM} (v : Value) : ∀ n, VRL D μ (junks n) (List.replicate n v)
  | 0 => by simp [junks, VRL]
  | n + 1 => by simp only [junks, VRL, List.replicate_succ]; exact ⟨_, _, rfl, by simp [VR], VRL_junks v n⟩

/-- **A FUNCTION's CONTRACT OUT OF ITS BODY.** -/
theorem ACo_body {P : Program} {T : TT} {O : Outer σ} (hT : TOk P T) {f : FuncId} {fn : Func} {c : Code} (N : Nat) (hf : P.funcs[f]? = some fn) (hb : fn.body = some c) (hnm : (fn.name == "runtime.NumGoroutine") = false)
    {args : List AV} {s : List Ob} {x : σ} {Q : AV → List Ob → σ → Prop}
    (h : appK args (junks (fn.ntmps - args.length)) fun t => awp P O T s.length none N c t s x (endK T fn Q)) : ACo P O f args s x Q := by
  refine fun μ cargs w B hr hargs hI hsep => .inl ⟨⟨fn, hf, by simp [hb], hnm⟩, ?_⟩
  rw [appK_iff] at h
  have h := awp_sound hT c _ s x _ h
  refine callsIn_wide.1 (callsIn_of_wp_marks (n := 0) (F := FR none) hf hb trivial ?_ rfl)
  have hlen : cargs.size = args.length := by have := VRL.length hargs; simpa using this
  have hsr : SR O μ (args ++ junks (fn.ntmps - args.length)) s x B { tmps := cargs ++ Array.replicate (fn.ntmps - cargs.size) undef, defers := [] } w := by
    refine ⟨?_, hr, hI, hsep⟩
    simp only [Array.toList_append, Array.toList_replicate, hlen]
    exact hargs.append (VRL_junks _ _)
  refine wpIn_mono (h (Nat.le_refl _) w.heap.size μ B _ w hsr ⟨Nat.le_refl _, [], rfl, List.nodup_nil, fun k hk => by simp at hk⟩) ?_
  rintro e a' w' ⟨ae, t', s', x', μ', B', rfl, hk, hs', haf, hm⟩
  obtain ⟨_, ms, hdf, hnd, hms⟩ := hm
  have fin : resK T t' s' fn.results.toList (fun l => retK l fun v => Q v s' x') → LeavesInM (FR none) 0 P fn a'.tmps (fun e w' => ∃ r s' x' μ' B' v, Q r s' x' ∧ e = .returned v ∧ VR (Live s') μ' r v ∧ Rel μ' s' w' ∧ O.I x' B' w' ∧ After s.length μ s B w μ' s' B' w') a'.defers .returning w' := by
    intro hres
    rw [hdf]
    refine leaves_marks ms w' hnd (fun k hk => (hms k hk).2.1) fun w2 h1 h2 h3 h4 h5 h6 => ?_
    have hfr : Fr (fun k => k ∈ ms) w' w2 := ⟨h1, h2, h3, Nat.le_of_eq h4.symm, fun k _ hk => h5 k hk, h6⟩
    have hrel2 : Rel μ' s' w2 := hs'.rel.block fun i ob hi hnd' => h5 _ fun hmem => by
      obtain ⟨cs, e, fr, hc⟩ := LV.cells hs'.rel ⟨i, ob, hi, hnd', rfl⟩
      rw [(hms _ hmem).2.1] at hc; simp at hc
    obtain ⟨v, c, hQ, hv, hrun⟩ := run_results hT hrel2 hs'.tm hres
    refine ⟨c, hrun, v, s', x', μ', B', c, hQ, rfl, hv, hrel2, O.keep _ _ _ _ _ hs'.out hfr fun b hb hmem => (hms b hmem).2.2 hb, ?_⟩
    refine ⟨haf.agree, haf.keep, haf.dead, haf.len, haf.fr.trans hfr fun k hk hmem => ?_, haf.rw, haf.lv, haf.b, haf.sep⟩
    exact absurd (hms k hmem).1 (by omega)
  cases ae with
  | normal => exact fin hk
  | ret => exact fin hk
  | exit => exact hk.elim
  | goto => exact hk.elim

/-- what is asked of a call, weakened -/
theorem ACo.mono {P : Program} {O : Outer σ} {f : FuncId} {args : List AV} {s : List Ob} {x : σ} {Q Q' : AV → List Ob → σ → Prop} (h : ACo P O f args s x Q) (hq : ∀ r s x, Q r s x → Q' r s x) : ACo P O f args s x Q' :=
  fun μ cargs w B h1 h2 h3 h4 => (h μ cargs w B h1 h2 h3 h4).mono fun e w' ⟨r, s', x', μ', B', v, hk, rest⟩ => ⟨r, s', x', μ', B', v, hq _ _ _ hk, rest⟩

/-- **VALUES ALONE**: what a call does without memory, it does with any. -/
theorem ACo_pure {P : Program} {O : Outer σ} {f : FuncId} {args : List AV} {x : σ} {s : List Ob} {Q : AV → List Ob → σ → Prop} (hfl : AV.flat.flatL args = true)
    (h : ACo P O f args [] x fun r _ x' => r.flat = true ∧ Q r s x') : ACo P O f args s x Q := by
  intro μ cargs w B hr hargs hI hsep
  have hr0 : Rel μ [] w := ⟨fun id o ho => by simp at ho, fun id id' o o' ho => by simp at ho⟩
  refine (h μ cargs w B hr0 (VRL.flat hfl hargs) hI (fun b _ ⟨i, o, ho, _⟩ => by simp at ho)).mono ?_
  rintro e w' ⟨r, s', x', μ', B', v, ⟨hfr, hk⟩, rfl, hv, hrel, hI', haf⟩
  have hRW : ∀ b, ¬ RW μ [] b := fun b ⟨i, o, ho, _⟩ => by simp at ho
  have hfr' : Fr B w w' := haf.fr.mono fun k _ hk => hk.resolve_left (hRW k)
  have hrel' : Rel μ s w' := hr.block fun i ob hi hnd => hfr'.block _ (hr.lt hi hnd) fun hb => hsep _ hb ⟨i, ob, hi, hnd, rfl⟩
  refine ⟨r, s, x', μ, B', v, hk, rfl, VR.flat hfr hv, hrel', hI', fun _ _ => rfl, fun _ _ h => h, fun _ _ h => h, Nat.le_refl _, hfr'.mono fun _ _ h => .inr h, fun _ h => .inl h, fun _ h => .inl h, haf.b, fun b hb hl => ?_⟩
  rcases haf.b b hb with hq | hq
  · exact hsep b hq hl
  · obtain ⟨i, ob, hi, hnd, rfl⟩ := hl
    exact absurd (hr.lt hi hnd) (by omega)

theorem AC_pure {P : Program} {f : FuncId} {args : List AV} {s : List Ob} {Q : AV → List Ob → Prop} (hfl : AV.flat.flatL args = true)
    (h : AC P f args [] fun r _ => r.flat = true ∧ Q r s) : AC P f args s Q := ⟨ACo_pure hfl h.of⟩

theorem AC_body {P : Program} {T : TT} (hT : TOk P T) {f : FuncId} {fn : Func} {c : Code} (N : Nat) (hf : P.funcs[f]? = some fn) (hb : fn.body = some c) (hnm : (fn.name == "runtime.NumGoroutine") = false)
    {args : List AV} {s : List Ob} {Q : AV → List Ob → Prop}
    (h : appK args (junks (fn.ntmps - args.length)) fun t => awp P Outer.none T s.length none N c t s () (endK T fn fun r s _ => Q r s)) : AC P f args s Q := ⟨ACo_body hT N hf hb hnm h⟩

end Go.AW

/- The engine, 15: a call's contract over its own small store serves in every store. -/
namespace Go.AW
open Go
set_option linter.unusedVariables false
set_option linter.unusedSimpArgs false

variable {σ : Type}

def AV.ren (ρ : Nat → Nat) : AV → AV
  | .ptr id i j => .ptr (ρ id) i j
  | .sl id off len lim => .sl (ρ id) off len lim
  | .agg l => .agg (renL l)
  | .tup l => .tup (renL l)
  | .fn f a b => .fn f (renL a) (renL b)
  | .iface t v => .iface t (AV.ren ρ v)
  | v => v
where renL : List AV → List AV
  | [] => []
  | v :: r => AV.ren ρ v :: renL r

def Ob.ren (ρ : Nat → Nat) : Ob → Ob
  | .cells sz c => .cells sz (AV.ren.renL ρ c)
  | ob => ob

mutual
theorem VR.toLocal {D D' : Nat → Prop} {μ μ' : MM} {ρ : Nat → Nat} (h : ∀ i, D' (ρ i) → D i ∧ μ i = μ' (ρ i)) : ∀ {a : AV} {v : Value}, VR D' μ' (a.ren ρ) v → VR D μ a v
  | .junk, _, _ => by simp [VR]
  | .bool _, _, hv => by simpa only [VR, AV.ren] using hv
  | .int _ _, _, hv => by simpa only [VR, AV.ren] using hv
  | .str _, _, hv => by simpa only [VR, AV.ren] using hv
  | .agg l, _, hv => by
    simp only [VR, AV.ren] at hv ⊢
    obtain ⟨cs, e, hv⟩ := hv
    exact ⟨cs, e, VRL.toLocal h hv⟩
  | .arr _ _, _, hv => by simpa only [VR, AV.ren] using hv
  | .tup l, _, hv => by
    simp only [VR, AV.ren] at hv ⊢
    obtain ⟨cs, e, hv⟩ := hv
    exact ⟨cs, e, VRL.toLocal h hv⟩
  | .nilp, _, hv => by simpa only [VR, AV.ren] using hv
  | .ptr id _ _, _, hv => by
    simp only [VR, AV.ren] at hv ⊢
    obtain ⟨h1, h2⟩ := hv
    rw [(h id h1).2]; exact ⟨(h id h1).1, h2⟩
  | .nils, _, hv => by simpa only [VR, AV.ren] using hv
  | .sl0, _, hv => by simpa only [VR, AV.ren] using hv
  | .sl id _ _ _, _, hv => by
    simp only [VR, AV.ren] at hv ⊢
    obtain ⟨h1, h2⟩ := hv
    rw [(h id h1).2]; exact ⟨(h id h1).1, h2⟩
  | .fn _ a b, _, hv => by
    simp only [VR, AV.ren] at hv ⊢
    obtain ⟨as, bs, e, ha, hb⟩ := hv
    exact ⟨as, bs, e, VRL.toLocal h ha, VRL.toLocal h hb⟩
  | .yld _, _, hv => by simpa only [VR, AV.ren] using hv
  | .nilf, _, hv => by simpa only [VR, AV.ren] using hv
  | .nili, _, hv => by simpa only [VR, AV.ren] using hv
  | .iface _ x, _, hv => by
    simp only [VR, AV.ren] at hv ⊢
    obtain ⟨u, e, hv⟩ := hv
    exact ⟨u, e, VR.toLocal h hv⟩
theorem VRL.toLocal {D D' : Nat → Prop} {μ μ' : MM} {ρ : Nat → Nat} (h : ∀ i, D' (ρ i) → D i ∧ μ i = μ' (ρ i)) : ∀ {l : List AV} {vs : List Value}, VRL D' μ' (AV.ren.renL ρ l) vs → VRL D μ l vs
  | [], _, hv => by simpa only [VRL, AV.ren.renL] using hv
  | a :: l, _, hv => by
    simp only [VRL, AV.ren.renL] at hv ⊢
    obtain ⟨v, r, e, h1, h2⟩ := hv
    exact ⟨v, r, e, VR.toLocal h h1, VRL.toLocal h h2⟩
end

mutual
theorem VR.toGlobal {D D' : Nat → Prop} {μ μ' : MM} {ρ : Nat → Nat} (h : ∀ i, D i → D' (ρ i) ∧ μ' (ρ i) = μ i) : ∀ {a : AV} {v : Value}, VR D μ a v → VR D' μ' (a.ren ρ) v
  | .junk, _, _ => by simp [VR, AV.ren]
  | .bool _, _, hv => by simpa only [VR, AV.ren] using hv
  | .int _ _, _, hv => by simpa only [VR, AV.ren] using hv
  | .str _, _, hv => by simpa only [VR, AV.ren] using hv
  | .agg l, _, hv => by
    simp only [VR, AV.ren] at hv ⊢
    obtain ⟨cs, e, hv⟩ := hv
    exact ⟨cs, e, VRL.toGlobal h hv⟩
  | .arr _ _, _, hv => by simpa only [VR, AV.ren] using hv
  | .tup l, _, hv => by
    simp only [VR, AV.ren] at hv ⊢
    obtain ⟨cs, e, hv⟩ := hv
    exact ⟨cs, e, VRL.toGlobal h hv⟩
  | .nilp, _, hv => by simpa only [VR, AV.ren] using hv
  | .ptr id _ _, _, hv => by
    simp only [VR, AV.ren] at hv ⊢
    obtain ⟨h1, h2⟩ := hv
    rw [(h id h1).2]; exact ⟨(h id h1).1, h2⟩
  | .nils, _, hv => by simpa only [VR, AV.ren] using hv
  | .sl0, _, hv => by simpa only [VR, AV.ren] using hv
  | .sl id _ _ _, _, hv => by
    simp only [VR, AV.ren] at hv ⊢
    obtain ⟨h1, h2⟩ := hv
    rw [(h id h1).2]; exact ⟨(h id h1).1, h2⟩
  | .fn _ a b, _, hv => by
    simp only [VR, AV.ren] at hv ⊢
    obtain ⟨as, bs, e, ha, hb⟩ := hv
    exact ⟨as, bs, e, VRL.toGlobal h ha, VRL.toGlobal h hb⟩
  | .yld _, _, hv => by simpa only [VR, AV.ren] using hv
  | .nilf, _, hv => by simpa only [VR, AV.ren] using hv
  | .nili, _, hv => by simpa only [VR, AV.ren] using hv
  | .iface _ x, _, hv => by
    simp only [VR, AV.ren] at hv ⊢
    obtain ⟨u, e, hv⟩ := hv
    exact ⟨u, e, VR.toGlobal h hv⟩
theorem VRL.toGlobal {D D' : Nat → Prop} {μ μ' : MM} {ρ : Nat → Nat} (h : ∀ i, D i → D' (ρ i) ∧ μ' (ρ i) = μ i) : ∀ {l : List AV} {vs : List Value}, VRL D μ l vs → VRL D' μ' (AV.ren.renL ρ l) vs
  | [], _, hv => by simpa only [VRL, AV.ren.renL] using hv
  | a :: l, _, hv => by
    simp only [VRL, AV.ren.renL] at hv ⊢
    obtain ⟨v, r, e, h1, h2⟩ := hv
    exact ⟨v, r, e, VR.toGlobal h h1, VRL.toGlobal h h2⟩
end

theorem OR.toLocal {D D' : Nat → Prop} {μ μ' : MM} {ρ : Nat → Nat} (h : ∀ i, D' (ρ i) → D i ∧ μ i = μ' (ρ i)) {w : World} {m : MA} : ∀ {ob : Ob}, OR D' μ' w m (ob.ren ρ) → OR D μ w m ob
  | .dead, _ => by simp [OR]
  | .cells sz c, ho => by
    simp only [OR, Ob.ren] at ho ⊢
    obtain ⟨h1, h2, cs, e, h3, h4⟩ := ho
    exact ⟨h1, h2, cs, e, h3, h4.toLocal h⟩
  | .row true e ks l, ho => by simpa only [OR, Ob.ren] using ho
  | .row false e ks l, ho => by simpa only [OR, Ob.ren] using ho

theorem OR.toGlobal {D D' : Nat → Prop} {μ μ' : MM} {ρ : Nat → Nat} (h : ∀ i, D i → D' (ρ i) ∧ μ' (ρ i) = μ i) {w : World} {m : MA} : ∀ {ob : Ob}, OR D μ w m ob → OR D' μ' w m (ob.ren ρ)
  | .dead, _ => by simp [OR, Ob.ren]
  | .cells sz c, ho => by
    simp only [OR, Ob.ren] at ho ⊢
    obtain ⟨h1, h2, cs, e, h3, h4⟩ := ho
    exact ⟨h1, h2, cs, e, h3, h4.toGlobal h⟩
  | .row true e ks l, ho => by simpa only [OR, Ob.ren] using ho
  | .row false e ks l, ho => by simpa only [OR, Ob.ren] using ho

theorem ren_own (ρ : Nat → Nat) (ob : Ob) : (ob.ren ρ).own = ob.own := by cases ob <;> rfl
theorem ren_dead (ρ : Nat → Nat) (ob : Ob) : ob.ren ρ = .dead ↔ ob = .dead := by cases ob <;> simp [Ob.ren]

def setAll : List Nat → List Ob → List Ob → List Ob
  | j :: js, ob :: obs, s => setAll js obs (s.set j ob)
  | _, _, s => s

theorem length_setAll : ∀ (ids : List Nat) (obs s : List Ob), (setAll ids obs s).length = s.length
  | [], _, s => by simp [setAll]
  | _ :: _, [], s => by simp [setAll]
  | j :: js, ob :: obs, s => by simp [setAll, length_setAll js obs]

theorem setAll_other : ∀ (ids : List Nat) (obs s : List Ob) (j : Nat), j ∉ ids → (setAll ids obs s)[j]? = s[j]?
  | [], _, s, j, _ => by simp [setAll]
  | _ :: _, [], s, j, _ => by simp [setAll]
  | i :: js, ob :: obs, s, j, h => by
    simp only [List.mem_cons, not_or] at h
    rw [setAll, setAll_other js obs _ j h.2, List.getElem?_set_ne (Ne.symm h.1)]

theorem setAll_at : ∀ (ids : List Nat) (obs s : List Ob) (q : Nat) (i : Nat) (ob : Ob), ids.Nodup → (∀ i ∈ ids, i < s.length) → ids[q]? = some i → obs[q]? = some ob → (setAll ids obs s)[i]? = some ob
  | [], _, s, q, i, ob, _, _, h, _ => by simp at h
  | _ :: _, [], s, q, i, ob, _, _, _, h => by simp at h
  | j :: js, o :: obs, s, 0, i, ob, hnd, hlt, h1, h2 => by
    simp at h1 h2
    subst h1; subst h2
    rw [setAll, setAll_other js obs _ j (List.nodup_cons.1 hnd).1, List.getElem?_set_self (hlt j (by simp))]
  | j :: js, o :: obs, s, q + 1, i, ob, hnd, hlt, h1, h2 => by
    simp at h1 h2
    rw [setAll]
    exact setAll_at js obs _ q i ob (List.nodup_cons.1 hnd).2 (fun i hi => by rw [List.length_set]; exact hlt i (by simp [hi])) h1 h2

/-- where local objects lie in the store -/
def rho (ids : List Nat) (n : Nat) (i : Nat) : Nat := match ids[i]? with
  | some j => j
  | none => n + (i - ids.length)

/-- **A CONTRACT OVER THE OBJECTS THAT THE CALL CAN REACH, IN A STORE THAT HAS MORE.** -/
theorem ACo_local {P : Program} {O : Outer σ} {f : FuncId} {args' : List AV} {x : σ} {s L : List Ob} {Q : AV → List Ob → σ → Prop} (ids : List Nat) (hnd : ids.Nodup) (hlen : L.length = ids.length)
    (hL : ∀ (i j : Nat) (ob : Ob), ids[i]? = some j → L[i]? = some ob → s[j]? = some (ob.ren (rho ids s.length)))
    (h : ACo P O f args' L x fun r L' x' => Q (r.ren (rho ids s.length)) (setAll ids (L'.map (Ob.ren (rho ids s.length))) s ++ (L'.drop ids.length).map (Ob.ren (rho ids s.length))) x') :
    ACo P O f (AV.ren.renL (rho ids s.length) args') s x Q := by
  intro μ cargs w B hr hargs hI hsep
  generalize hρ : rho ids s.length = ρ at *
  have hget : ∀ i, i < ids.length → ∃ j, ids[i]? = some j ∧ ρ i = j := by
    intro i hi
    refine ⟨ids[i], List.getElem?_eq_getElem hi, ?_⟩
    rw [← hρ]; simp [rho, List.getElem?_eq_getElem hi]
  have hge : ∀ i, ids.length ≤ i → ρ i = s.length + (i - ids.length) := by
    intro i hi
    rw [← hρ]; simp [rho, List.getElem?_eq_none hi]
  have hids : ∀ j ∈ ids, j < s.length := by
    intro j hj
    obtain ⟨i, hi⟩ := List.mem_iff_getElem?.1 hj
    have hil : i < L.length := by rw [hlen]; exact (List.getElem?_eq_some_iff.1 hi).1
    exact (List.getElem?_eq_some_iff.1 (hL i j L[i] hi (List.getElem?_eq_getElem hil))).1
  -- what is live here is live there
  have hloc : ∀ i, Live s (ρ i) → Live L i ∧ (fun i => μ (ρ i)) i = μ (ρ i) := by
    intro i hl
    refine ⟨?_, rfl⟩
    have hil : i < ids.length := by
      rcases Nat.lt_or_ge i ids.length with q | q
      · exact q
      · have := hl.lt; rw [hge i q] at this; omega
    obtain ⟨j, hj, hρj⟩ := hget i hil
    have hil' : i < L.length := by omega
    have h1 := hL i j L[i] hj (List.getElem?_eq_getElem hil')
    obtain ⟨o, ho, hd⟩ := hl
    rw [hρj, h1] at ho
    exact ⟨L[i], List.getElem?_eq_getElem hil', fun e => hd (by rw [← Option.some.inj ho]; exact (ren_dead ρ _).2 e)⟩
  have hob : ∀ (i : Nat) (ob : Ob), L[i]? = some ob → ∃ j, ids[i]? = some j ∧ ρ i = j ∧ s[j]? = some (ob.ren ρ) := by
    intro i ob hi
    obtain ⟨j, hj, hρj⟩ := hget i (by rw [← hlen]; exact (List.getElem?_eq_some_iff.1 hi).1)
    exact ⟨j, hj, hρj, hL i j ob hj hi⟩
  have hinj : ∀ i i', i < ids.length → i' < ids.length → ρ i = ρ i' → i = i' := by
    intro i i' hi hi' he
    obtain ⟨j, hj, h1⟩ := hget i hi
    obtain ⟨j', hj', h2⟩ := hget i' hi'
    rw [h1, h2] at he
    subst he
    exact (List.getElem?_inj hi hnd).1 (hj.trans hj'.symm)
  have hrL : Rel (fun i => μ (ρ i)) L w := by
    refine ⟨fun i ob hi => ?_, fun i i' ob ob' hi hi' hne hw hd => ?_⟩
    · obtain ⟨j, hj, hρj, hs⟩ := hob i ob hi
      have := hr.ob j _ hs
      rw [← hρj] at this
      exact this.toLocal hloc
    · obtain ⟨j, hj, hρj, hs⟩ := hob i ob hi
      obtain ⟨j', hj', hρj', hs'⟩ := hob i' ob' hi'
      simp only [hρj, hρj']
      refine hr.sep j j' _ _ hs hs' ?_ (by rw [ren_own]; exact hw) (fun e => hd ((ren_dead ρ _).1 e))
      intro e
      exact hne (hinj i i' (by rw [← hlen]; exact (List.getElem?_eq_some_iff.1 hi).1) (by rw [← hlen]; exact (List.getElem?_eq_some_iff.1 hi').1) (by rw [hρj, hρj', e]))
  have hLV : ∀ b, LV (fun i => μ (ρ i)) L b → LV μ s b := by
    rintro b ⟨i, ob, hi, hd, rfl⟩
    obtain ⟨j, hj, hρj, hs⟩ := hob i ob hi
    exact ⟨j, _, hs, fun e => hd ((ren_dead ρ _).1 e), by simp only [hρj]⟩
  have hRW : ∀ b, RW (fun i => μ (ρ i)) L b → RW μ s b := by
    rintro b ⟨i, ob, hi, hd, rfl⟩
    obtain ⟨j, hj, hρj, hs⟩ := hob i ob hi
    exact ⟨j, _, hs, by rw [ren_own]; exact hd, by simp only [hρj]⟩
  refine (h (fun i => μ (ρ i)) cargs w B hrL (hargs.toLocal hloc) hI (fun b hb hl => hsep b hb (hLV b hl))).mono ?_
  rintro e w' ⟨r, L', x', μL', B', v, hQ, rfl, hv, hrel', hI', haf⟩
  have hm : L.length ≤ L'.length := haf.len
  -- the new places
  let μ2 : MM := fun j => if j < s.length then μ j else μL' (ids.length + (j - s.length))
  have hs2len : (setAll ids (L'.map (Ob.ren ρ)) s).length = s.length := length_setAll _ _ _
  generalize hs2 : setAll ids (L'.map (Ob.ren ρ)) s ++ (L'.drop ids.length).map (Ob.ren ρ) = s2 at hQ
  have hlt : ∀ j, j < s.length → s2[j]? = (setAll ids (L'.map (Ob.ren ρ)) s)[j]? := by
    intro j hj
    rw [← hs2, List.getElem?_append_left (by rw [hs2len]; exact hj)]
  have hnew : ∀ j, s.length ≤ j → s2[j]? = (L'[ids.length + (j - s.length)]?).map (Ob.ren ρ) := by
    intro j hj
    rw [← hs2, List.getElem?_append_right (by rw [hs2len]; exact hj), hs2len, List.getElem?_map, List.getElem?_drop]
  have hat : ∀ (i j : Nat) (ob : Ob), ids[i]? = some j → L'[i]? = some ob → s2[j]? = some (ob.ren ρ) := by
    intro i j ob hj hi
    rw [hlt j (hids j (List.mem_of_getElem? hj))]
    exact setAll_at ids _ s i j _ hnd hids hj (by rw [List.getElem?_map, hi]; rfl)
  have hother : ∀ j, j < s.length → j ∉ ids → s2[j]? = s[j]? := by
    intro j hj hn
    rw [hlt j hj, setAll_other _ _ _ _ hn]
  -- an object of the new store: of which make it is
  have hcase : ∀ (j : Nat) (ob2 : Ob), s2[j]? = some ob2 → (∃ i ob, L'[i]? = some ob ∧ ρ i = j ∧ ob2 = ob.ren ρ ∧ μ2 j = μL' i) ∨ (j < s.length ∧ j ∉ ids ∧ s[j]? = some ob2 ∧ μ2 j = μ j) := by
    intro j ob2 hj
    by_cases h1 : j < s.length
    · by_cases h2 : j ∈ ids
      · obtain ⟨i, hi⟩ := List.mem_iff_getElem?.1 h2
        have hil : i < ids.length := (List.getElem?_eq_some_iff.1 hi).1
        have hil' : i < L'.length := by omega
        have := hat i j L'[i] hi (List.getElem?_eq_getElem hil')
        rw [hj] at this
        obtain ⟨j', hj', hρj⟩ := hget i hil
        obtain rfl : j = j' := Option.some.inj (hi.symm.trans hj')
        refine .inl ⟨i, L'[i], List.getElem?_eq_getElem hil', hρj, Option.some.inj this, ?_⟩
        show (if j < s.length then μ j else _) = _
        rw [if_pos h1, haf.agree i (by omega), hρj]
      · refine .inr ⟨h1, h2, by rw [← hother j h1 h2]; exact hj, ?_⟩
        show (if j < s.length then μ j else _) = _
        rw [if_pos h1]
    · rw [hnew j (by omega)] at hj
      simp only [Option.map_eq_some_iff] at hj
      obtain ⟨ob, hob', rfl⟩ := hj
      refine .inl ⟨_, ob, hob', by rw [hge _ (by omega)]; omega, rfl, ?_⟩
      show (if j < s.length then μ j else _) = _
      rw [if_neg h1]
  have hglob : ∀ i, Live L' i → Live s2 (ρ i) ∧ μ2 (ρ i) = μL' i := by
    rintro i ⟨ob, hi, hd⟩
    by_cases hil : i < ids.length
    · obtain ⟨j, hj, hρj⟩ := hget i hil
      have h1 := hat i j ob hj hi
      rw [hρj]
      refine ⟨⟨_, h1, fun e => hd ((ren_dead ρ _).1 e)⟩, ?_⟩
      show (if j < s.length then μ j else _) = _
      rw [if_pos (hids j (List.mem_of_getElem? hj)), haf.agree i (by omega), hρj]
    · have hρi := hge i (by omega)
      have h1 := hnew (ρ i) (by omega)
      have e1 : ids.length + (ρ i - s.length) = i := by omega
      rw [e1, hi] at h1
      refine ⟨⟨_, h1, fun e => hd ((ren_dead ρ _).1 e)⟩, ?_⟩
      show (if ρ i < s.length then _ else _) = _
      rw [if_neg (by omega), e1]
  have hkeepold : ∀ j, j < s.length → Live s j → Live s2 j := by
    intro j hj hl
    by_cases h2 : j ∈ ids
    · obtain ⟨i, hi⟩ := List.mem_iff_getElem?.1 h2
      have hil : i < ids.length := (List.getElem?_eq_some_iff.1 hi).1
      obtain ⟨j', hj', hρj⟩ := hget i hil
      obtain rfl : j = j' := Option.some.inj (hi.symm.trans hj')
      have := haf.keep i (by omega) (hloc i (by rw [hρj]; exact hl)).1
      have := (hglob i this).1
      rwa [hρj] at this
    · obtain ⟨o, ho, hd⟩ := hl
      exact ⟨o, by rw [hother j hj h2]; exact ho, hd⟩
  have hfr2 : Fr (fun b => RW μ s b ∨ B b) w w' := haf.fr.mono fun k _ hk => hk.imp (hRW k) id
  -- an old object of others is as it was
  have hold : ∀ (j : Nat) (ob : Ob), j ∉ ids → s[j]? = some ob → ob ≠ .dead → w'.heap[(μ j).blk]? = w.heap[(μ j).blk]? := by
    intro j ob hn hj hd
    refine haf.fr.block _ (hr.lt hj hd) ?_
    rintro (⟨i, obi, hi, hw, hb⟩ | hb)
    · obtain ⟨j', hj', hρj, hs⟩ := hob i obi hi
      simp only [hρj] at hb
      exact hr.sep j' j _ _ hs hj (by rintro rfl; exact hn (List.mem_of_getElem? hj')) (by rw [ren_own]; exact hw) hd hb
    · exact hsep _ hb ⟨j, ob, hj, hd, rfl⟩
  have hrel2 : Rel μ2 s2 w' := by
    refine ⟨fun j ob2 hj => ?_, fun j j' o o' hj hj' hne hw hd => ?_⟩
    · rcases hcase j ob2 hj with ⟨i, ob, hi, hρj, rfl, hμ⟩ | ⟨h1, h2, h3, hμ⟩
      · rw [hμ]; exact (hrel'.ob i ob hi).toGlobal hglob
      · rw [hμ]
        refine OR.block (fun hd => hold j ob2 h2 h3 hd) ((hr.ob j ob2 h3).mono fun q hq => ⟨hkeepold q hq.lt hq, ?_⟩)
        show (if q < s.length then μ q else _) = _
        rw [if_pos hq.lt]
    · have hod : o ≠ .dead := by rintro rfl; simp [Ob.own] at hw
      -- a block of L' against one of the others
      have cross : ∀ (i : Nat) (ob : Ob) (j : Nat) (ob2 : Ob), L'[i]? = some ob → ob ≠ .dead → (ob.own = true ∨ ob2.own = true) → j < s.length → j ∉ ids → s[j]? = some ob2 → ob2 ≠ .dead → (μL' i).blk ≠ (μ j).blk := by
        intro i ob j ob2 hi hd1 hor hj1 hj2 hj3 hd2 he
        by_cases hil : i < ids.length
        · obtain ⟨j', hj', hρj⟩ := hget i hil
          rw [haf.agree i (by omega)] at he
          have hil' : i < L.length := by omega
          have hs := hL i j' L[i] hj' (List.getElem?_eq_getElem hil')
          simp only [hρj] at he
          have hne' : j' ≠ j := by rintro rfl; exact hj2 (List.mem_of_getElem? hj')
          have hld : (L[i].ren ρ) ≠ .dead := fun e => by
            have := haf.dead i hil' (by rw [List.getElem?_eq_getElem hil', (ren_dead ρ _).1 e])
            rw [hi] at this; exact hd1 (Option.some.inj this)
          rcases hor with hor | hor
          · -- the block is written by the call, or was
            have hb : RW μL' L' (μL' i).blk := ⟨i, ob, hi, hor, rfl⟩
            rw [haf.agree i (by omega)] at hb
            rcases haf.rw _ hb with hq | hq
            · obtain ⟨i2, ob3, hi2, hw2, hb2⟩ := hq
              obtain ⟨j3, hj3', hρj3, hs3⟩ := hob i2 ob3 hi2
              simp only [hρj3, hρj] at hb2
              exact hr.sep j3 j _ _ hs3 hj3 (by rintro rfl; exact hj2 (List.mem_of_getElem? hj3')) (by rw [ren_own]; exact hw2) hd2 (hb2.trans he)
            · simp only [hρj] at hq
              have := hr.lt hs hld; omega
          · exact hr.sep j j' _ _ hj3 hs (Ne.symm hne') hor hld he.symm
        · have hl : LV μL' L' (μL' i).blk := ⟨i, ob, hi, hd1, rfl⟩
          rcases haf.lv _ hl with hq | hq
          · obtain ⟨i2, ob3, hi2, hd3, hb2⟩ := hq
            obtain ⟨j3, hj3', hρj3, hs3⟩ := hob i2 ob3 hi2
            simp only [hρj3] at hb2
            rcases hor with hor | hor
            · have hb : RW μL' L' (μL' i).blk := ⟨i, ob, hi, hor, rfl⟩
              rcases haf.rw _ hb with hq | hq
              · obtain ⟨i4, ob4, hi4, hw4, hb4⟩ := hq
                obtain ⟨j5, hj5, hρj5, hs5⟩ := hob i4 ob4 hi4
                simp only [hρj5] at hb4
                exact hr.sep j5 j _ _ hs5 hj3 (by rintro rfl; exact hj2 (List.mem_of_getElem? hj5)) (by rw [ren_own]; exact hw4) hd2 (hb4.trans he)
              · have := hr.lt hj3 hd2; omega
            · exact hr.sep j j3 _ _ hj3 hs3 (by rintro rfl; exact hj2 (List.mem_of_getElem? hj3')) hor (fun e => hd3 ((ren_dead ρ _).1 e)) (he.symm.trans hb2.symm)
          · have := hr.lt hj3 hd2; omega
      rcases hcase j o hj with ⟨i, ob, hi, hρj, rfl, hμ⟩ | ⟨h1, h2, h3, hμ⟩
      · rcases hcase j' o' hj' with ⟨i', ob', hi', hρj', rfl, hμ'⟩ | ⟨h1', h2', h3', hμ'⟩
        · rw [hμ, hμ']
          refine hrel'.sep i i' ob ob' hi hi' (by rintro rfl; exact hne (hρj.symm.trans hρj')) (by rw [← ren_own ρ]; exact hw) (fun e => hd ((ren_dead ρ _).2 e))
        · rw [hμ, hμ']
          exact cross i ob j' o' hi (fun e => hod ((ren_dead ρ _).2 e)) (.inl (by rw [← ren_own ρ]; exact hw)) h1' h2' h3' hd
      · rcases hcase j' o' hj' with ⟨i', ob', hi', hρj', rfl, hμ'⟩ | ⟨h1', h2', h3', hμ'⟩
        · rw [hμ, hμ']
          exact (cross i' ob' j o hi' (fun e => hd ((ren_dead ρ _).2 e)) (.inr hw) h1 h2 h3 hod).symm
        · rw [hμ, hμ']
          exact hr.sep j j' o o' h3 h3' hne hw hd
  have hlv2 : ∀ b, LV μ2 s2 b → LV μ s b ∨ w.heap.size ≤ b := by
    rintro b ⟨j, o, hj, hd, rfl⟩
    rcases hcase j o hj with ⟨i, ob, hi, hρj, rfl, hμ⟩ | ⟨h1, h2, h3, hμ⟩
    · rw [hμ]
      exact (haf.lv _ ⟨i, ob, hi, fun e => hd ((ren_dead ρ _).2 e), rfl⟩).imp (hLV _) id
    · rw [hμ]; exact .inl ⟨j, o, h3, hd, rfl⟩
  refine ⟨_, s2, x', μ2, B', v, hQ, rfl, hv.toGlobal hglob, hrel2, hI', ⟨fun j hj => ?_, hkeepold, fun j hj hdj => ?_, ?_, hfr2, ?_, hlv2, haf.b, fun b hb hl => ?_⟩⟩
  · show (if j < s.length then μ j else _) = _
    rw [if_pos hj]
  · by_cases h2 : j ∈ ids
    · obtain ⟨i, hi⟩ := List.mem_iff_getElem?.1 h2
      have hil : i < L.length := by rw [hlen]; exact (List.getElem?_eq_some_iff.1 hi).1
      have h3 := hL i j L[i] hi (List.getElem?_eq_getElem hil)
      rw [hdj] at h3
      have h4 := (ren_dead ρ _).1 (Option.some.inj h3).symm
      have h5 := haf.dead i hil (by rw [List.getElem?_eq_getElem hil, h4])
      exact hat i j .dead hi h5
    · rw [hother j hj h2]; exact hdj
  · rw [← hs2, List.length_append, hs2len]; omega
  · rintro b ⟨j, o, hj, hw, rfl⟩
    rcases hcase j o hj with ⟨i, ob, hi, hρj, rfl, hμ⟩ | ⟨h1, h2, h3, hμ⟩
    · rw [hμ]
      exact (haf.rw _ ⟨i, ob, hi, by rw [← ren_own ρ]; exact hw, rfl⟩).imp (hRW _) id
    · rw [hμ]; exact .inl ⟨j, o, h3, hw, rfl⟩
  · rcases hlv2 b hl with hq | hq
    · rcases haf.b b hb with hq' | hq'
      · exact hsep b hq' hq
      · obtain ⟨j, o, hj, hd, rfl⟩ := hq
        have := hr.lt hj hd; omega
    · obtain ⟨j, o, hj, hd, rfl⟩ := hl
      rcases hcase j o hj with ⟨i, ob, hi, hρj, rfl, hμ⟩ | ⟨h1, h2, h3, hμ⟩
      · rw [hμ] at hb
        exact haf.sep _ hb ⟨i, ob, hi, fun e => hd ((ren_dead ρ _).2 e), rfl⟩
      · rw [hμ] at hq
        have := hr.lt h3 hd; omega

end Go.AW

/- The engine, 16: what a call leaves, cut down to what matters. -/
namespace Go.AW
open Go
set_option linter.unusedVariables false
set_option linter.unusedSimpArgs false

variable {σ : Type}

/-- part of a store, its objects numbered anew -/
theorem Rel.part {μ : MM} {s L : List Ob} {w : World} (hr : Rel μ s w) {ids : List Nat} (hnd : ids.Nodup) (hlen : L.length = ids.length)
    (hL : ∀ (i j : Nat) (ob : Ob), ids[i]? = some j → L[i]? = some ob → s[j]? = some (ob.ren (rho ids s.length))) :
    Rel (fun i => μ (rho ids s.length i)) L w ∧ (∀ i, Live s (rho ids s.length i) → Live L i) ∧ (∀ b, LV (fun i => μ (rho ids s.length i)) L b → LV μ s b) ∧ (∀ b, RW (fun i => μ (rho ids s.length i)) L b → RW μ s b) := by
  generalize hρ : rho ids s.length = ρ at *
  have hget : ∀ i, i < ids.length → ∃ j, ids[i]? = some j ∧ ρ i = j := by
    intro i hi
    refine ⟨ids[i], List.getElem?_eq_getElem hi, ?_⟩
    rw [← hρ]; simp [rho, List.getElem?_eq_getElem hi]
  have hge : ∀ i, ids.length ≤ i → ρ i = s.length + (i - ids.length) := by
    intro i hi
    rw [← hρ]; simp [rho, List.getElem?_eq_none hi]
  have hloc : ∀ i, Live s (ρ i) → Live L i ∧ (fun i => μ (ρ i)) i = μ (ρ i) := by
    intro i hl
    refine ⟨?_, rfl⟩
    have hil : i < ids.length := by
      rcases Nat.lt_or_ge i ids.length with q | q
      · exact q
      · have := hl.lt; rw [hge i q] at this; omega
    obtain ⟨j, hj, hρj⟩ := hget i hil
    have hil' : i < L.length := by omega
    have h1 := hL i j L[i] hj (List.getElem?_eq_getElem hil')
    obtain ⟨o, ho, hd⟩ := hl
    rw [hρj, h1] at ho
    exact ⟨L[i], List.getElem?_eq_getElem hil', fun e => hd (by rw [← Option.some.inj ho]; exact (ren_dead ρ _).2 e)⟩
  have hob : ∀ (i : Nat) (ob : Ob), L[i]? = some ob → ∃ j, ids[i]? = some j ∧ ρ i = j ∧ s[j]? = some (ob.ren ρ) := by
    intro i ob hi
    obtain ⟨j, hj, hρj⟩ := hget i (by rw [← hlen]; exact (List.getElem?_eq_some_iff.1 hi).1)
    exact ⟨j, hj, hρj, hL i j ob hj hi⟩
  have hinj : ∀ i i', i < ids.length → i' < ids.length → ρ i = ρ i' → i = i' := by
    intro i i' hi hi' he
    obtain ⟨j, hj, h1⟩ := hget i hi
    obtain ⟨j', hj', h2⟩ := hget i' hi'
    rw [h1, h2] at he
    subst he
    exact (List.getElem?_inj hi hnd).1 (hj.trans hj'.symm)
  refine ⟨⟨fun i ob hi => ?_, fun i i' ob ob' hi hi' hne hw hd => ?_⟩, fun i hi => (hloc i hi).1, ?_, ?_⟩
  · obtain ⟨j, hj, hρj, hs⟩ := hob i ob hi
    have := hr.ob j _ hs
    rw [← hρj] at this
    exact this.toLocal hloc
  · obtain ⟨j, hj, hρj, hs⟩ := hob i ob hi
    obtain ⟨j', hj', hρj', hs'⟩ := hob i' ob' hi'
    simp only [hρj, hρj']
    refine hr.sep j j' _ _ hs hs' ?_ (by rw [ren_own]; exact hw) (fun e => hd ((ren_dead ρ _).1 e))
    intro e
    exact hne (hinj i i' (by rw [← hlen]; exact (List.getElem?_eq_some_iff.1 hi).1) (by rw [← hlen]; exact (List.getElem?_eq_some_iff.1 hi').1) (by rw [hρj, hρj', e]))
  · rintro b ⟨i, ob, hi, hd, rfl⟩
    obtain ⟨j, hj, hρj, hs⟩ := hob i ob hi
    exact ⟨j, _, hs, fun e => hd ((ren_dead ρ _).1 e), by simp only [hρj]⟩
  · rintro b ⟨i, ob, hi, hd, rfl⟩
    obtain ⟨j, hj, hρj, hs⟩ := hob i ob hi
    exact ⟨j, _, hs, by rw [ren_own]; exact hd, by simp only [hρj]⟩

/-- **WHAT IS LEFT OF A STORE BEHIND A CALL**: the objects 'keep', the call's own ones first -/
def Kept (n : Nat) (r : AV) (s' : List Ob) (r' : AV) (l : List Ob) : Prop :=
  ∃ keep : List Nat, keep.Nodup ∧ l.length = keep.length ∧ n ≤ keep.length ∧ (∀ i, i < n → keep[i]? = some i) ∧
    (∀ (i j : Nat) (ob : Ob), keep[i]? = some j → l[i]? = some ob → s'[j]? = some (ob.ren (rho keep s'.length))) ∧ r = r'.ren (rho keep s'.length)

theorem ACo_export {P : Program} {O : Outer σ} {f : FuncId} {args : List AV} {s : List Ob} {x : σ} {Q : AV → List Ob → σ → Prop}
    (h : ACo P O f args s x fun r s' x' => ∃ r' l, Kept s.length r s' r' l ∧ Q r' l x') : ACo P O f args s x Q := by
  refine fun μ cargs w B hr hargs hI hsep => (h μ cargs w B hr hargs hI hsep).mono ?_
  rintro e w' ⟨r, s', x', μ', B', v, ⟨r', l, ⟨keep, hnd, hlen, hn, hk, hl, rfl⟩, hQ⟩, rfl, hv, hrel, hI', haf⟩
  obtain ⟨h1, h2, h3, h4⟩ := hrel.part hnd hlen hl
  have hrho : ∀ i, i < s.length → rho keep s'.length i = i := by
    intro i hi; simp [rho, hk i hi]
  have hat : ∀ i (hi : i < s.length), ∃ ob, l[i]? = some ob ∧ s'[i]? = some (ob.ren (rho keep s'.length)) := by
    intro i hi
    have hil : i < l.length := by omega
    exact ⟨l[i], List.getElem?_eq_getElem hil, hl i i l[i] (hk i hi) (List.getElem?_eq_getElem hil)⟩
  refine ⟨r', l, x', _, B', v, hQ, rfl, hv.toLocal fun i hi => ⟨h2 i hi, rfl⟩, h1, hI', ⟨fun i hi => ?_, fun i hi hlv => ?_, fun i hi hd => ?_, by omega, haf.fr, fun b hb => haf.rw b (h4 b hb), fun b hb => haf.lv b (h3 b hb), haf.b, fun b hb hlv => haf.sep b hb (h3 b hlv)⟩⟩
  · show μ' (rho keep s'.length i) = μ i
    rw [hrho i hi]; exact haf.agree i hi
  · exact h2 i (by rw [hrho i hi]; exact haf.keep i hi hlv)
  · obtain ⟨ob, h5, h6⟩ := hat i hi
    rw [haf.dead i hi hd] at h6
    rw [h5, (ren_dead _ _).1 (Option.some.inj h6).symm]

/-! ### a result without objects, the store as it was or its own objects changed -/
mutual
theorem ren_flat1 (ρ : Nat → Nat) : ∀ (v : AV), v.flat = true → v.ren ρ = v
  | .junk, h => by simp [AV.flat] at h
  | .bool _, _ => rfl
  | .int _ _, _ => rfl
  | .str _, _ => rfl
  | .agg l, h => by simp only [AV.ren]; rw [ren_flatL ρ l (by simpa only [AV.flat] using h)]
  | .arr _ _, _ => rfl
  | .tup l, h => by simp only [AV.ren]; rw [ren_flatL ρ l (by simpa only [AV.flat] using h)]
  | .nilp, _ => rfl
  | .ptr _ _ _, h => by simp [AV.flat] at h
  | .nils, _ => rfl
  | .sl0, _ => rfl
  | .sl _ _ _ _, h => by simp [AV.flat] at h
  | .fn _ _ _, h => by simp [AV.flat] at h
  | .yld _, h => by simp [AV.flat] at h
  | .nilf, _ => rfl
  | .nili, _ => rfl
  | .iface _ _, h => by simp [AV.flat] at h
theorem ren_flatL (ρ : Nat → Nat) : ∀ (l : List AV), AV.flat.flatL l = true → AV.ren.renL ρ l = l
  | [], _ => rfl
  | v :: r, h => by
    simp only [AV.flat.flatL, Bool.and_eq_true] at h
    simp only [AV.ren.renL]
    rw [ren_flat1 ρ v h.1, ren_flatL ρ r h.2]
end

theorem renL_flat (ρ : Nat → Nat) : (∀ v : AV, v.flat = true → v.ren ρ = v) ∧ (∀ l : List AV, AV.flat.flatL l = true → AV.ren.renL ρ l = l) := ⟨ren_flat1 ρ, ren_flatL ρ⟩

/-- is the object without others? -/
def Ob.flat : Ob → Bool
  | .dead => true
  | .cells _ c => AV.flat.flatL c
  | .row .. => true

theorem Ob.ren_flat (ρ : Nat → Nat) {ob : Ob} (h : ob.flat = true) : ob.ren ρ = ob := by
  cases ob with
  | dead => rfl
  | cells sz c => simp only [Ob.ren]; rw [(renL_flat ρ).2 c h]
  | row => rfl

/-- the first n objects, all flat -/
theorem Kept.flat {n : Nat} {r : AV} {s' l : List Ob} (hr : r.flat = true) (hn : l.length = n) (hl : l.all Ob.flat = true) (hs : ∀ i (h : i < l.length), s'[i]? = some l[i]) : Kept n r s' r l := by
  refine ⟨List.range n, List.nodup_range, by simp [hn], by simp, fun i hi => List.getElem?_range hi, fun i j ob hi hob => ?_, ((renL_flat _).1 r hr).symm⟩
  have hil : i < n := by have := (List.getElem?_eq_some_iff.1 hi).1; simpa using this
  rw [List.getElem?_range hil] at hi
  obtain rfl := Option.some.inj hi
  rw [hs i (by omega)]
  have : l[i]'(by omega) = ob := by
    rw [List.getElem?_eq_getElem (by omega)] at hob
    exact Option.some.inj hob
  rw [this, Ob.ren_flat _ (List.all_eq_true.1 hl ob (by rw [← this]; exact List.getElem_mem _))]

def firstK (n : Nat) (s : List Ob) (k : List Ob → Prop) : Prop := takeK s n k

/-- **A CONTRACT OVER SOME FLAT OBJECTS**, which the call may change, of a result without objects. -/
theorem ACo_flat {P : Program} {O : Outer σ} {f : FuncId} {args' : List AV} {x : σ} {s L : List Ob} {Q : AV → List Ob → σ → Prop} (ids : List Nat) (hnd : ids.Nodup) (hlen : L.length = ids.length)
    (hLf : L.all Ob.flat = true) (hL : ∀ (i j : Nat) (ob : Ob), ids[i]? = some j → L[i]? = some ob → s[j]? = some ob)
    (h : ACo P O f args' L x fun r s' x' => takeK s' L.length fun l => r.flat = true ∧ l.all Ob.flat = true ∧ Q r (setAll ids l s) x') :
    ACo P O f (AV.ren.renL (rho ids s.length) args') s x Q := by
  have hmem : ∀ (l : List Ob), l.all Ob.flat = true → ∀ (ρ : Nat → Nat), l.map (Ob.ren ρ) = l := by
    intro l hl ρ
    induction l with
    | nil => rfl
    | cons ob l ih =>
      simp only [List.all_cons, Bool.and_eq_true] at hl
      rw [List.map_cons, Ob.ren_flat ρ hl.1, ih hl.2]
  refine ACo_local ids hnd hlen (fun i j ob hi hob => ?_) (ACo_export (h.mono ?_))
  · rw [hL i j ob hi hob, Ob.ren_flat _ (List.all_eq_true.1 hLf ob (List.mem_of_getElem? hob))]
  · intro r s' x' hk
    obtain ⟨hle, hrf, hlf, hQ⟩ := (takeK_iff _ _ _).1 hk
    refine ⟨r, s'.take L.length, Kept.flat hrf (by simp; omega) hlf (fun i hi => ?_), ?_⟩
    · have hi' : i < s'.length := by simp at hi; omega
      rw [List.getElem?_eq_getElem hi', List.getElem_take]
    · rw [(renL_flat _).1 r hrf, hmem _ hlf]
      have : ((s'.take L.length).drop ids.length).map (Ob.ren (rho ids s.length)) = [] := by
        rw [List.drop_eq_nil_of_le (by simp; omega)]; rfl
      rw [this, List.append_nil]
      exact hQ

/-- the store is as it was -/
theorem setAll_same (ids : List Nat) (L s : List Ob) (h : ∀ (i j : Nat) (ob : Ob), ids[i]? = some j → L[i]? = some ob → s[j]? = some ob) : setAll ids L s = s := by
  induction ids generalizing L s with
  | nil => simp [setAll]
  | cons j js ih =>
    cases L with
    | nil => simp [setAll]
    | cons ob obs =>
      have h0 := h 0 j ob (by simp) (by simp)
      have : s.set j ob = s := by
        apply List.ext_getElem?; intro q
        by_cases e : j = q
        · subst e; rw [List.getElem?_set_self (List.getElem?_eq_some_iff.1 h0).1, h0]
        · rw [List.getElem?_set_ne e]
      rw [setAll, this]
      exact ih obs s fun i j' ob' h1 h2 => h (i + 1) j' ob' (by simpa using h1) (by simpa using h2)

/-- **A CONTRACT OF A CALL THAT ONLY READS** some flat objects. -/
theorem AC_read {P : Program} {f : FuncId} {args' : List AV} {s L : List Ob} {Q : AV → List Ob → Prop} (ids : List Nat) (hnd : ids.Nodup) (hlen : L.length = ids.length)
    (hLf : L.all Ob.flat = true) (hL : ∀ (i j : Nat) (ob : Ob), ids[i]? = some j → L[i]? = some ob → s[j]? = some ob)
    (h : AC P f args' L fun r s' => takeK s' L.length fun l => r.flat = true ∧ l = L ∧ Q r s) : AC P f (AV.ren.renL (rho ids s.length) args') s Q := by
  refine ⟨ACo_flat ids hnd hlen hLf hL (h.of.mono fun r s' x hk => ?_)⟩
  obtain ⟨hle, h1, h2, h3⟩ := (takeK_iff _ _ _).1 hk
  refine (takeK_iff _ _ _).2 ⟨hle, h1, by rw [h2]; exact hLf, ?_⟩
  rw [h2, setAll_same ids L s hL]
  exact h3

end Go.AW
