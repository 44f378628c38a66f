/- Part of the proof of a law of the seat: the engine (states without addresses, and what they say of a run). No condition. -/
import Derived.Test.YtgajnkfaelecaaaEngB
import Derived.IntWalk
import Derived.Laws.BitsLemmas
import Derived.RowKit3
import Derived.ChangeArms
import Derived.OpenShut
import Derived.WideShapes
import Derived.WideKeyArgs
import Derived.Laws.Externs
import Derived.RangeFuncBound
/- The engine, 17: an operation's value hangs on what it looks at alone. -/
namespace Go.AW
open Go
set_option linter.unusedVariables false
set_option linter.unusedSimpArgs false

/-- in what k is told only one thing is told -/
def Det (F : (AV → Eff → FP → Prop) → Prop) : Prop := ∀ k, F k → ∃ v e fp, k v e fp ∧ ∀ k' : AV → Eff → FP → Prop, k' v e fp → F k'

theorem det_ret (v : AV) (e : Eff) (fp : FP) : Det fun k => k v e fp := fun k h => ⟨v, e, fp, h, fun k' h' => h'⟩
theorem det_false : Det fun _ => False := fun _ h => h.elim

def evF (t : List AV) : Operand → Option AV
  | .tmp i => t[i]?
  | .const v => match v with
    | .int k n => some (.int k n)
    | .bool b => some (.bool b)
    | .string s => some (.str s)
    | .pointer none => some .nilp
    | .slice none 0 0 => some .nils
    | .nilFunc => some .nilf
    | .nilIface => some .nili
    | _ => none
  | .func f => some (.fn f [] [])
  | .global _ => none

theorem evK_ex (t : List AV) (x : Operand) (k : AV → Prop) : evK t x k ↔ ∃ v, evF t x = some v ∧ k v := by
  cases x with
  | tmp i => simp [evK, evF, nthK_iff]
  | const v =>
    simp only [evK, evF]
    unfold constK
    split <;> simp_all
  | func f => simp [evK, evF]
  | global g => simp [evK, evF]

theorem det_ev {t : List AV} {x : Operand} {G : AV → (AV → Eff → FP → Prop) → Prop} (h : ∀ v, Det (G v)) : Det fun k => evK t x fun v => G v k := by
  intro k hk
  obtain ⟨v, h1, h2⟩ := (evK_ex _ _ _).1 hk
  obtain ⟨a, e, fp, h3, h4⟩ := h v k h2
  exact ⟨a, e, fp, h3, fun k' hk' => (evK_ex _ _ _).2 ⟨v, h1, h4 k' hk'⟩⟩

theorem det_evs {t : List AV} : ∀ {xs : List Operand} {G : List AV → (AV → Eff → FP → Prop) → Prop}, (∀ l, Det (G l)) → Det fun k => evsK t xs fun l => G l k
  | [], G, h => h []
  | x :: xs, G, h => by
    simp only [evsK]
    exact det_ev fun v => det_evs fun l => h (v :: l)

theorem det_nth {α : Type} {l : List α} {n : Nat} {G : α → (AV → Eff → FP → Prop) → Prop} (h : ∀ v, Det (G v)) : Det fun k => nthK l n fun v => G v k := by
  intro k hk
  obtain ⟨v, h1, h2⟩ := (nthK_iff _ _ _).1 hk
  obtain ⟨a, e, fp, h3, h4⟩ := h v k h2
  exact ⟨a, e, fp, h3, fun k' hk' => (nthK_iff _ _ _).2 ⟨v, h1, h4 k' hk'⟩⟩

theorem det_ty {T : TT} {n : Nat} {G : TI → (AV → Eff → FP → Prop) → Prop} (h : ∀ v, Det (G v)) : Det fun k => tyK T n fun v => G v k := by
  intro k hk
  obtain ⟨v, h1, h2⟩ := (tyK_at _ _ _).1 hk
  obtain ⟨a, e, fp, h3, h4⟩ := h v k h2
  exact ⟨a, e, fp, h3, fun k' hk' => (tyK_at _ _ _).2 ⟨v, h1, h4 k' hk'⟩⟩

theorem det_and {b : Bool} {G : (AV → Eff → FP → Prop) → Prop} (h : Det G) : Det fun k => andK b (G k) := by
  cases b
  · exact det_false
  · exact h

theorem det_cond {b : Bool} {G H : (AV → Eff → FP → Prop) → Prop} (h : Det G) (h' : Det H) : Det fun k => cond b (G k) (H k) := by
  cases b
  · exact h'
  · exact h

theorem det_take {α : Type} {l : List α} {n : Nat} {G : List α → (AV → Eff → FP → Prop) → Prop} (h : ∀ v, Det (G v)) : Det fun k => takeK l n fun v => G v k := by
  intro k hk
  obtain ⟨h1, h2⟩ := (takeK_iff _ _ _).1 hk
  obtain ⟨a, e, fp, h3, h4⟩ := h _ k h2
  exact ⟨a, e, fp, h3, fun k' hk' => (takeK_iff _ _ _).2 ⟨h1, h4 k' hk'⟩⟩

theorem det_drop {α : Type} {l : List α} {n : Nat} {G : List α → (AV → Eff → FP → Prop) → Prop} (h : ∀ v, Det (G v)) : Det fun k => dropK l n fun v => G v k := by
  intro k hk
  obtain ⟨h1, h2⟩ := (dropK_iff _ _ _).1 hk
  obtain ⟨a, e, fp, h3, h4⟩ := h _ k h2
  exact ⟨a, e, fp, h3, fun k' hk' => (dropK_iff _ _ _).2 ⟨h1, h4 k' hk'⟩⟩

theorem det_over {l : List AV} {j : Nat} {vs : List AV} {G : List AV → (AV → Eff → FP → Prop) → Prop} (h : ∀ v, Det (G v)) : Det fun k => overK l j vs fun v => G v k := by
  intro k hk
  cases vs with
  | nil =>
    have e1 : ∀ K : List AV → Prop, overK l j [] K ↔ K l := by intro K; cases l <;> cases j <;> simp [overK]
    obtain ⟨a, e, fp, h3, h4⟩ := h _ k ((e1 _).1 hk)
    exact ⟨a, e, fp, h3, fun k' hk' => (e1 _).2 (h4 k' hk')⟩
  | cons v vs =>
    obtain ⟨h1, h2⟩ := (overK_iff _ _ _ _ (.inl (by simp))).1 hk
    obtain ⟨a, e, fp, h3, h4⟩ := h _ k h2
    exact ⟨a, e, fp, h3, fun k' hk' => (overK_iff _ _ _ _ (.inl (by simp))).2 ⟨h1, h4 k' hk'⟩⟩

theorem det_ptr {v : AV} {G : Nat → Nat → Nat → (AV → Eff → FP → Prop) → Prop} (h : ∀ i r j, Det (G i r j)) : Det fun k => ptrK v fun i r j => G i r j k := by
  cases v <;> first | exact det_false | exact h _ _ _
theorem det_int {v : AV} {G : Int → (AV → Eff → FP → Prop) → Prop} (h : ∀ i, Det (G i)) : Det fun k => intK v fun i => G i k := by
  cases v <;> first | exact det_false | exact h _
theorem det_bool {v : AV} {G : Bool → (AV → Eff → FP → Prop) → Prop} (h : ∀ i, Det (G i)) : Det fun k => boolK v fun i => G i k := by
  cases v <;> first | exact det_false | exact h _
theorem det_cells {v : AV} {G : List AV → (AV → Eff → FP → Prop) → Prop} (h : ∀ i, Det (G i)) : Det fun k => cellsK v fun i => G i k := by
  cases v <;> first | exact det_false | exact h _
theorem det_sz {v : Ob} {G : Nat → (AV → Eff → FP → Prop) → Prop} (h : ∀ i, Det (G i)) : Det fun k => szK v fun i => G i k := by
  cases v <;> first | exact det_false | exact h _
theorem det_bound {t : List AV} {o : Option Operand} {d : Nat} {G : Int → (AV → Eff → FP → Prop) → Prop} (h : ∀ i, Det (G i)) : Det fun k => boundK t o d fun i => G i k := by
  cases o with
  | none => exact h _
  | some x => exact det_ev fun v => det_int h
theorem det_unc {c : CK} {v : AV} {G : Int → (AV → Eff → FP → Prop) → Prop} (h : ∀ i, Det (G i)) : Det fun k => uncK c v fun i => G i k := by
  cases c <;> cases v <;> first | exact det_false | exact h _ | exact det_and (h _)
theorem det_uncs : ∀ {cs : List CK} {l : List AV} {G : List Int → List AV → (AV → Eff → FP → Prop) → Prop}, (∀ r i, Det (G r i)) → Det fun k => uncsK cs l fun r i => G r i k
  | [], l, G, h => h [] l
  | _ :: _, [], G, h => det_false
  | c :: cs, v :: vs, G, h => det_unc fun n => det_uncs fun r i => h (n :: r) i
theorem det_rows {ks : List CK} : ∀ {n : Nat} {l : List AV} {G : List (List Int) → (AV → Eff → FP → Prop) → Prop}, (∀ r, Det (G r)) → Det fun k => rowsK ks n l fun r => G r k
  | 0, l, G, h => h []
  | n + 1, l, G, h => det_uncs fun r rest => det_rows fun rs => h (r :: rs)
theorem det_fillS {t : List AV} {T : TT} {fs : List (Nat × Nat)} : ∀ {ps : List (Nat × Operand)} {z : List AV} {G : List AV → (AV → Eff → FP → Prop) → Prop}, (∀ r, Det (G r)) → Det fun k => fillStruct t T fs ps z fun r => G r k
  | [], z, G, h => h z
  | (i, x) :: ps, z, G, h => det_nth fun f => det_ty fun ti => det_ev fun v => det_cells fun cs => det_and (det_over fun z' => det_fillS h)
theorem det_fillA {t : List AV} {es : Nat} : ∀ {ps : List (Nat × Operand)} {z : List AV} {G : List AV → (AV → Eff → FP → Prop) → Prop}, (∀ r, Det (G r)) → Det fun k => fillArr t es ps z fun r => G r k
  | [], z, G, h => h z
  | (i, x) :: ps, z, G, h => det_ev fun v => det_cells fun cs => det_and (det_over fun z' => det_fillA h)
theorem det_bin {op : BinOp} {a b : AV} {G : AV → (AV → Eff → FP → Prop) → Prop} (h : ∀ r, Det (G r)) : Det fun k => aBin op a b fun r => G r k := by
  cases a <;> try exact det_false
  cases b <;> try exact det_false
  cases op <;> first | exact det_and (h _) | exact det_and (det_and (h _))
theorem det_un {op : UnOp} {a : AV} {G : AV → (AV → Eff → FP → Prop) → Prop} (h : ∀ r, Det (G r)) : Det fun k => aUn op a fun r => G r k := by
  cases a <;> try exact det_false
  all_goals cases op <;> first | exact h _ | exact det_false
theorem det_flatEq : ∀ {ks : List CK} {l r : List AV} {G : Bool → (AV → Eff → FP → Prop) → Prop}, (∀ r, Det (G r)) → Det fun k => flatEq ks l r fun e => G e k := by
  intro ks
  induction ks with
  | nil =>
    intro l r G h
    cases l <;> cases r <;> first | exact h _ | exact det_false
  | cons c ks ih =>
    intro l r G h
    cases l with
    | nil => cases c <;> exact det_false
    | cons v l =>
      cases r with
      | nil => cases c <;> cases v <;> exact det_false
      | cons u r =>
        cases c <;> cases v <;> first | exact det_false | (cases u <;> first | exact det_false | exact det_and (ih fun r => h _) | exact ih fun r => h _)
theorem det_eq {ti : TI} {a b : AV} {G : Bool → (AV → Eff → FP → Prop) → Prop} (h : ∀ r, Det (G r)) : Det fun k => aEq ti a b fun r => G r k := by
  rcases ti with ⟨tk, _, _, _, _, _, eqs⟩
  cases a <;> cases b <;> cases tk <;> first | exact det_false | exact h _ | (cases eqs with | none => exact det_false | some ks => exact det_flatEq h)
theorem det_mm {mx : Bool} : ∀ {l : List AV} {a : AV} {G : AV → (AV → Eff → FP → Prop) → Prop}, (∀ r, Det (G r)) → Det fun k => minmaxK mx a l fun r => G r k
  | [], a, G, h => by cases a <;> exact h _
  | b :: l, a, G, h => by
    cases a with
    | int q x => cases b with
      | int q' y => exact det_mm (l := l) (a := .int q (cond mx (if y > x then y else x) (if y < x then y else x))) h
      | _ => exact det_false
    | _ => intro k hk; simp [minmaxK] at hk
theorem det_builtin {T : TT} {ts : List TypeId} {b : Builtin} {vs : List AV} {G : AV → (AV → Eff → FP → Prop) → Prop} (h : ∀ r, Det (G r)) : Det fun k => aBuiltin T ts b vs fun r => G r k := by
  cases b <;> try exact det_false
  case len =>
    cases ts with
    | nil => exact det_false
    | cons ty ts =>
      refine det_ty fun ti => ?_
      rcases ti with ⟨tk, _, _, _, _, _⟩
      cases tk <;> (try exact det_false) <;> rcases vs with _ | ⟨v, _ | ⟨v', vs⟩⟩ <;> (try exact det_false) <;> cases v <;> first | exact det_false | exact h _
  case max => rcases vs with _ | ⟨v, vs⟩ <;> (try exact det_false) <;> cases v <;> first | exact det_false | exact det_mm h
  case min => rcases vs with _ | ⟨v, vs⟩ <;> (try exact det_false) <;> cases v <;> first | exact det_false | exact det_mm h
theorem det_load {ti : TI} {i j id : Nat} {ob : Ob} {G : AV → FP → (AV → Eff → FP → Prop) → Prop} (h : ∀ r f, Det (G r f)) : Det fun k => loadOb ti i j (fun r f => G r f k) id ob := by
  cases ob with
  | dead => exact det_false
  | cells sz c => exact det_drop fun c' => det_cond (det_take fun l => h _ _) (det_nth fun v => h _ _)
  | row own e ks l =>
    simp only [loadOb]
    cases hb : ti.big with
    | some q => obtain ⟨a, b, c⟩ := q; exact det_and (h _ _)
    | none => exact det_and (det_cond (det_drop fun c' => det_take fun l => h _ _) (det_nth fun v => h _ _))
theorem det_store {v : AV} {sz i j : Nat} {ob : Ob} {G : Ob → (AV → Eff → FP → Prop) → Prop} (h : ∀ r, Det (G r)) : Det fun k => storeOb v sz i j (fun r => G r k) ob := by
  cases ob with
  | dead => exact det_false
  | cells osz c => exact det_cells fun vs => det_and (det_over fun c' => h _)
  | row own e ks l =>
    cases own with
    | false => exact det_false
    | true =>
      have hr : Det fun k => cellsK v fun vs => andK (vs.length == sz) (storeRow ks l i j vs fun l' => G (.row true e ks l') k) :=
        det_cells fun vs => det_and (det_and (det_over fun c => det_uncs fun r _ => h _))
      cases v <;> first | exact hr | exact det_and (h _)

/-- **ONE VALUE, ONE CHANGE.** -/
theorem aval_det (T : TT) (id : Nat) (op : Op) (t : List AV) (s : List Ob) : Det (aval T id op t s) := by
  cases op with
  | move x => exact det_ev fun v => det_ret _ _ _
  | assign x => exact det_ev fun v => det_ret _ _ _
  | pick c a b => exact det_ev fun v => det_bool fun q => det_cond (det_ev fun v => det_ret _ _ _) (det_ev fun v => det_ret _ _ _)
  | nilCheck x => exact det_ev fun v => by cases v <;> first | exact det_false | exact det_ret _ _ _
  | alloc e => exact det_ty fun ti => det_and (det_ret _ _ _)
  | box e x =>
    refine det_ty fun ti => det_ev fun v => ?_
    have hc : Det fun k => cellsK v fun c => andK (c.all AV.one) (k (.ptr id 0 0) (.set id (.cells 0 c)) (some (id, true))) := det_cells fun c => det_and (det_ret _ _ _)
    cases v <;> try exact hc
    case arr ks l =>
      simp only
      cases ti.big with
      | none => exact det_false
      | some q => obtain ⟨a, b, c⟩ := q; exact det_and (det_ret _ _ _)
  | build ty parts =>
    refine det_ty fun ti => ?_
    rcases ti with ⟨tk, sz, by', z, ks, big⟩
    cases tk <;> try exact det_false
    case struct fs => exact det_and (det_fillS fun l => det_ret _ _ _)
    case array n e =>
      cases big with
      | none => exact det_and (det_ty fun te => det_fillA fun l => det_ret _ _ _)
      | some q =>
        obtain ⟨a, b, c⟩ := q
        simp only
        cases parts.toList with
        | nil => exact det_ret _ _ _
        | cons => exact det_false
  | buildSlice ty len parts =>
    refine det_ty fun ti => ?_
    rcases ti with ⟨tk, sz, by', z, ks, big⟩
    cases tk <;> try exact det_false
    case slice e =>
      refine det_ty fun te => det_and (det_fillA fun l => ?_)
      cases te.ks with
      | some ks => exact det_rows fun rs => det_ret _ _ _
      | none => exact det_and (det_ret _ _ _)
  | makeSlice ty lx cx =>
    refine det_ty fun ti => ?_
    rcases ti with ⟨tk, sz, by', z, ks, big⟩
    cases tk <;> try exact det_false
    case slice e =>
      refine det_ty fun te => ?_
      cases te.ks with
      | some ks => exact det_ev fun v => det_int fun n => det_ev fun v => det_int fun n => det_and (det_ret _ _ _)
      | none => exact det_false
  | load ty a => exact det_ty fun ti => det_ev fun v => det_ptr fun i r j => det_nth fun ob => det_load fun r f => det_ret _ _ _
  | store ty a x => exact det_ty fun ti => det_ev fun v => det_ptr fun i r j => det_ev fun u => det_nth fun ob => det_store fun ob' => det_ret _ _ _
  | binOp op ty x y ty' =>
    refine det_ev fun a => det_ev fun b => ?_
    cases op <;> cases a <;> first | exact det_bin fun v => det_ret _ _ _ | exact det_false | exact det_ty fun ti => det_eq fun r => det_ret _ _ _
  | unOp op ty x => exact det_ev fun a => det_un fun v => det_ret _ _ _
  | convert src dst x =>
    refine det_ty fun _ => det_ty fun ti => det_ev fun a => ?_
    rcases ti with ⟨tk, sz, by', z, ks, big⟩
    cases tk <;> cases a <;> first | exact det_false | exact det_ret _ _ _
  | makeFunc fn x y =>
    cases fn <;> first | exact det_false | exact det_evs fun a => det_evs fun b => det_ret _ _ _
  | fieldAddr ty x f =>
    refine det_ty fun ti => det_ev fun v => det_ptr fun i r j => ?_
    rcases ti with ⟨tk, sz, by', z, ks, big⟩
    cases tk <;> first | exact det_false | exact det_nth fun fd => det_ty fun tf => det_and (det_ret _ _ _)
  | field ty x f =>
    refine det_ty fun ti => det_ev fun v => ?_
    rcases ti with ⟨tk, sz, by', z, ks, big⟩
    cases tk <;> cases v <;> first | exact det_false | exact det_nth fun fd => det_ty fun tf => det_drop fun l' => det_cond (det_take fun r => det_ret _ _ _) (det_nth fun v => det_ret _ _ _)
  | indexAddr ty x ix =>
    refine det_ty fun ti => det_ev fun iv => det_int fun n => det_ev fun v => ?_
    rcases ti with ⟨tk, sz, by', z, ks, big⟩
    cases tk <;> try exact det_false
    case slice e =>
      cases v <;> first | exact det_false | exact det_and (det_ty fun te => det_nth fun ob => det_sz fun sz => det_and (det_ret _ _ _))
    case array len e =>
      cases v <;> try exact det_false
      case ptr i r j =>
        refine det_and ?_
        cases big with
        | none => exact det_ty fun te => det_ret _ _ _
        | some q =>
          obtain ⟨a, b, c⟩ := q
          refine det_and (det_nth fun ob => ?_)
          cases ob <;> first | exact det_false | exact det_and (det_ret _ _ _)
  | index ty x ix =>
    refine det_ty fun ti => det_ev fun iv => det_int fun n => det_ev fun v => ?_
    rcases ti with ⟨tk, sz, by', z, ks, big⟩
    cases tk <;> try exact det_false
    case array len e =>
      cases v <;> try exact det_false
      case agg l => exact det_and (det_ty fun te => det_drop fun l' => det_cond (det_take fun r => det_ret _ _ _) (det_nth fun v => det_ret _ _ _))
      case arr ks l => exact det_and (det_ty fun te => det_and (det_cond (det_ret _ _ _) (det_nth fun v => det_ret _ _ _)))
    case str =>
      cases v <;> try exact det_false
      case str b => exact det_and (det_ret _ _ _)
  | slice ty x lo hi mx =>
    cases mx with
    | some => exact det_false
    | none =>
      refine det_ty fun ti => det_ev fun v => ?_
      rcases ti with ⟨tk, sz, by', z, ks, big⟩
      cases tk <;> try exact det_false
      case slice e =>
        cases v <;> try exact det_false
        case nils => exact det_bound fun h => det_and (det_bound fun l => det_and (det_ret _ _ _))
        case sl0 => exact det_bound fun h => det_and (det_bound fun l => det_and (det_ret _ _ _))
        case sl => exact det_ty fun te => det_nth fun ob => det_sz fun sz => det_and (det_bound fun h => det_and (det_bound fun l => det_and (det_ret _ _ _)))
  | extract x i => exact det_ev fun v => by cases v <;> first | exact det_false | exact det_nth fun v => det_ret _ _ _
  | call c =>
    rcases c with ⟨callee, args, ats⟩
    cases callee with
    | builtin b => exact det_evs fun vs => det_builtin fun v => det_ret _ _ _
    | value f => exact det_false
    | invoke => exact det_false
  | _ => exact det_false

end Go.AW

/- The engine, 18: an operation does the same where what it looks at is the same. -/
namespace Go.AW
open Go
set_option linter.unusedVariables false
set_option linter.unusedSimpArgs false

/-- what may only be read is there still -/
def RoAgree (s s' : List Ob) : Prop := ∀ (i : Nat) e ks l, s[i]? = some (.row false e ks l) → s'[i]? = some (.row false e ks l)

theorem ev_imp {t t' : List AV} {x : Operand} (h : evF t' x = evF t x) {A B : AV → Prop} (hab : ∀ v, A v → B v) (ha : evK t x A) : evK t' x B := by
  obtain ⟨v, h1, h2⟩ := (evK_ex _ _ _).1 ha
  exact (evK_ex _ _ _).2 ⟨v, by rw [h]; exact h1, hab v h2⟩

theorem evs_imp {t t' : List AV} : ∀ {xs : List Operand} (_ : ∀ x ∈ xs, evF t' x = evF t x) {A B : List AV → Prop}, (∀ v, A v → B v) → evsK t xs A → evsK t' xs B
  | [], _, A, B, hab, ha => hab _ ha
  | x :: xs, h, A, B, hab, ha => ev_imp (h x (by simp)) (fun v hv => evs_imp (fun y hy => h y (by simp [hy])) (fun l hl => hab _ hl) hv) ha

theorem fillS_imp {t t' : List AV} {T : TT} {fs : List (Nat × Nat)} : ∀ {ps : List (Nat × Operand)} (_ : ∀ p ∈ ps, evF t' p.2 = evF t p.2) {z : List AV} {A : List AV → Prop}, fillStruct t T fs ps z A → fillStruct t' T fs ps z A
  | [], _, z, A, h => h
  | (i, x) :: ps, hx, z, A, h => by
    simp only [fillStruct] at h ⊢
    obtain ⟨f, hf, h⟩ := (nthK_iff _ _ _).1 h
    obtain ⟨ti, hti, h⟩ := (tyK_at _ _ _).1 h
    refine (nthK_iff _ _ _).2 ⟨f, hf, (tyK_at _ _ _).2 ⟨ti, hti, ev_imp (hx (i, x) (by simp)) (fun v hv => ?_) h⟩⟩
    have key : ∀ cs, andK (cs.length == ti.size && !(ti.size == 0)) (overK z f.1 cs fun z' => fillStruct t T fs ps z' A) → andK (cs.length == ti.size && !(ti.size == 0)) (overK z f.1 cs fun z' => fillStruct t' T fs ps z' A) := by
      intro cs hc
      obtain ⟨h1, h2⟩ := (andK_iff _ _).1 hc
      refine (andK_iff _ _).2 ⟨h1, ?_⟩
      cases cs with
      | nil =>
        have e1 : ∀ K : List AV → Prop, overK z f.1 [] K ↔ K z := by intro K; cases z <;> cases f.1 <;> simp [overK]
        exact (e1 _).2 (fillS_imp (fun p hp => hx p (by simp [hp])) ((e1 _).1 h2))
      | cons c cs =>
        rw [overK_iff _ _ _ _ (.inl (by simp))] at h2 ⊢
        exact ⟨h2.1, fillS_imp (fun p hp => hx p (by simp [hp])) h2.2⟩
    rcases (cellsK_iff _ _).1 hv with ⟨l, rfl, hv⟩ | ⟨h1, hv⟩
    · exact (cellsK_iff _ _).2 (.inl ⟨l, rfl, key _ hv⟩)
    · exact (cellsK_iff _ _).2 (.inr ⟨h1, key _ hv⟩)

theorem fillA_imp {t t' : List AV} {es : Nat} : ∀ {ps : List (Nat × Operand)} (_ : ∀ p ∈ ps, evF t' p.2 = evF t p.2) {z : List AV} {A : List AV → Prop}, fillArr t es ps z A → fillArr t' es ps z A
  | [], _, z, A, h => h
  | (i, x) :: ps, hx, z, A, h => by
    simp only [fillArr] at h ⊢
    refine ev_imp (hx (i, x) (by simp)) (fun v hv => ?_) h
    have key : ∀ cs, andK (cs.length == es && !(es == 0)) (overK z (i * es) cs fun z' => fillArr t es ps z' A) → andK (cs.length == es && !(es == 0)) (overK z (i * es) cs fun z' => fillArr t' es ps z' A) := by
      intro cs hc
      obtain ⟨h1, h2⟩ := (andK_iff _ _).1 hc
      refine (andK_iff _ _).2 ⟨h1, ?_⟩
      cases cs with
      | nil =>
        have e1 : ∀ K : List AV → Prop, overK z (i * es) [] K ↔ K z := by intro K; cases z <;> cases i * es <;> simp [overK]
        exact (e1 _).2 (fillA_imp (fun p hp => hx p (by simp [hp])) ((e1 _).1 h2))
      | cons c cs =>
        rw [overK_iff _ _ _ _ (.inl (by simp))] at h2 ⊢
        exact ⟨h2.1, fillA_imp (fun p hp => hx p (by simp [hp])) h2.2⟩
    rcases (cellsK_iff _ _).1 hv with ⟨l, rfl, hv⟩ | ⟨h1, hv⟩
    · exact (cellsK_iff _ _).2 (.inl ⟨l, rfl, key _ hv⟩)
    · exact (cellsK_iff _ _).2 (.inr ⟨h1, key _ hv⟩)

theorem bound_imp {t t' : List AV} {o : Option Operand} (h : ∀ x, o = some x → evF t' x = evF t x) {d : Nat} {A B : Int → Prop} (hab : ∀ v, A v → B v) (ha : boundK t o d A) : boundK t' o d B := by
  cases o with
  | none => exact hab _ ha
  | some x =>
    refine ev_imp (h x rfl) (fun v hv => ?_) ha
    cases v <;> simp only [intK] at hv ⊢
    exact hab _ hv

theorem and_imp {b : Bool} {x y : Prop} (h : x → y) (hx : andK b x) : andK b y := by
  obtain ⟨h1, h2⟩ := (andK_iff _ _).1 hx; exact (andK_iff _ _).2 ⟨h1, h h2⟩
theorem ty_imp {T : TT} {n : Nat} {A B : TI → Prop} (h : ∀ v, A v → B v) (ha : tyK T n A) : tyK T n B := by
  obtain ⟨v, h1, h2⟩ := (tyK_at _ _ _).1 ha; exact (tyK_at _ _ _).2 ⟨v, h1, h v h2⟩
theorem ptr_imp {v : AV} {A B : Nat → Nat → Nat → Prop} (h : ∀ i r j, A i r j → B i r j) (ha : ptrK v A) : ptrK v B := by
  cases v <;> simp only [ptrK] at ha ⊢; exact h _ _ _ ha
theorem int_imp {v : AV} {A B : Int → Prop} (h : ∀ i, A i → B i) (ha : intK v A) : intK v B := by
  cases v <;> simp only [intK] at ha ⊢; exact h _ ha

section
variable {T : TT} {id : Nat} {t t' : List AV} {s s' : List Ob} {v0 : AV} {e0 : Eff} {fp0 : FP}

/-- an object that was read: it is recorded, or may only be read -/
theorem ob_imp {i : Nat} (hs : ∀ q b, fp0 = some (q, b) → q ≠ id → s'[q]? = s[q]?) (hid : fp0 = some (id, true) ∨ True) (hro : RoAgree s s') {A : Ob → Prop}
    (hA : ∀ ob, A ob → (∃ b, fp0 = some (i, b) ∧ i ≠ id) ∨ ∃ e ks l, ob = .row false e ks l) (h : nthK s i A) : nthK s' i A := by
  obtain ⟨ob, h1, h2⟩ := (nthK_iff _ _ _).1 h
  refine (nthK_iff _ _ _).2 ⟨ob, ?_, h2⟩
  rcases hA ob h2 with ⟨b, h3, h4⟩ | ⟨e, ks, l, rfl⟩
  · rw [hs i b h3 h4]; exact h1
  · exact hro i e ks l h1

end

/-- **THE SAME WHERE WHAT IT LOOKS AT IS THE SAME.** 'id' is a placeholder: nothing is read there. -/
theorem aval_imp {T : TT} {id : Nat} {op : Op} {t t' : List AV} {s s' : List Ob} {v0 : AV} {e0 : Eff} {fp0 : FP} (hid : s[id]? = some .dead ∨ s[id]? = none)
    (hx : ∀ x ∈ op.operands.toList, evF t' x = evF t x) (hs : ∀ q b, fp0 = some (q, b) → q ≠ id → s'[q]? = s[q]?) (hro : RoAgree s s')
    (h : aval T id op t s fun v e fp => v = v0 ∧ e = e0 ∧ fp = fp0) : aval T id op t' s' fun v e fp => v = v0 ∧ e = e0 ∧ fp = fp0 := by
  have hnd : ∀ (i : Nat) (ob : Ob), s[i]? = some ob → ob ≠ .dead → i ≠ id := by
    rintro i ob h1 h2 rfl
    rcases hid with h3 | h3
    · rw [h3] at h1; exact h2 (Option.some.inj h1).symm
    · rw [h3] at h1; cases h1
  -- one object read
  have rd : ∀ (i : Nat) (A : Ob → Prop), (∀ ob, A ob → (ob ≠ .dead ∧ ∃ b, fp0 = some (i, b)) ∨ ∃ e ks l, ob = .row false e ks l) → nthK s i A → nthK s' i A := by
    intro i A hA hn
    obtain ⟨ob, h1, h2⟩ := (nthK_iff _ _ _).1 hn
    refine (nthK_iff _ _ _).2 ⟨ob, ?_, h2⟩
    rcases hA ob h2 with ⟨h4, b, h3⟩ | ⟨e, ks, l, rfl⟩
    · rw [hs i b h3 (hnd i ob h1 h4)]; exact h1
    · exact hro i e ks l h1
  cases op with
  | move x => exact ev_imp (hx x (by simp [Op.operands])) (fun _ h => h) h
  | assign x => exact ev_imp (hx x (by simp [Op.operands])) (fun _ h => h) h
  | pick c a b =>
    refine ev_imp (hx c (by simp [Op.operands])) (fun v hv => ?_) h
    cases v <;> simp only [boolK] at hv ⊢
    rename_i q
    cases q
    · exact ev_imp (hx b (by simp [Op.operands])) (fun _ h => h) hv
    · exact ev_imp (hx a (by simp [Op.operands])) (fun _ h => h) hv
  | nilCheck x => exact ev_imp (hx x (by simp [Op.operands])) (fun _ h => h) h
  | alloc e => exact h
  | box e x => exact ty_imp (fun ti h => ev_imp (hx x (by simp [Op.operands])) (fun _ h => h) h) h
  | build ty parts =>
    have hp : ∀ p ∈ parts.toList, evF t' p.2 = evF t p.2 := fun p hp => hx p.2 (by simp [Op.operands]; exact ⟨p.1, by simpa using hp⟩)
    refine ty_imp (fun ti h => ?_) h
    rcases ti with ⟨tk, sz, by', z, ks, big⟩
    cases tk <;> try exact h
    case struct fs => exact and_imp (fun h => fillS_imp hp h) h
    case array n e =>
      cases big with
      | none => exact and_imp (fun h => ty_imp (fun te h => fillA_imp hp h) h) h
      | some q =>
        obtain ⟨a, b, c⟩ := q
        simp only at h ⊢
        cases hpl : parts.toList with
        | nil => simpa only [hpl] using h
        | cons => simp only [hpl] at h
  | buildSlice ty len parts =>
    have hp : ∀ p ∈ parts.toList, evF t' p.2 = evF t p.2 := fun p hp => hx p.2 (by simp [Op.operands]; exact ⟨p.1, by simpa using hp⟩)
    refine ty_imp (fun ti h => ?_) h
    rcases ti with ⟨tk, sz, by', z, ks, big⟩
    cases tk <;> try exact h
    case slice e => exact ty_imp (fun te h => and_imp (fun h => fillA_imp hp h) h) h
  | makeSlice ty lx cx =>
    refine ty_imp (fun ti h => ?_) h
    rcases ti with ⟨tk, sz, by', z, ks, big⟩
    cases tk <;> try exact h
    case slice e =>
      refine ty_imp (fun te h => ?_) h
      rcases te with ⟨_, _, _, _, ks', _⟩
      cases ks' with
      | none => exact h
      | some ks' => exact ev_imp (hx lx (by simp [Op.operands])) (fun v h => int_imp (fun n h => ev_imp (hx cx (by simp [Op.operands])) (fun _ h => h) h) h) h
  | load ty a =>
    refine ty_imp (fun ti h => ev_imp (hx a (by simp [Op.operands])) (fun v h => ptr_imp (fun i r j h => rd i _ (fun ob h => ?_) h) h) h) h
    cases ob with
    | dead => exact h.elim
    | cells sz c =>
      left
      obtain ⟨_, h⟩ := (dropK_iff _ _ _).1 h
      rcases (cond_iff _ _ _).1 h with ⟨_, h⟩ | ⟨_, h⟩
      · obtain ⟨_, h⟩ := (takeK_iff _ _ _).1 h; exact ⟨by simp, _, h.2.2.symm⟩
      · obtain ⟨_, _, h⟩ := (nthK_iff _ _ _).1 h; exact ⟨by simp, _, h.2.2.symm⟩
    | row own e ks l =>
      cases own with
      | false => exact .inr ⟨_, _, _, rfl⟩
      | true =>
        left
        refine ⟨by simp, false, ?_⟩
        simp only [loadOb] at h
        cases hb : ti.big with
        | some q =>
          obtain ⟨a, b, c⟩ := q
          simp only [hb] at h
          obtain ⟨_, h⟩ := (andK_iff _ _).1 h; exact h.2.2.symm
        | none =>
          simp only [hb] at h
          obtain ⟨_, h⟩ := (andK_iff _ _).1 h
          rcases (cond_iff _ _ _).1 h with ⟨_, h⟩ | ⟨_, h⟩
          · obtain ⟨_, h⟩ := (dropK_iff _ _ _).1 h
            obtain ⟨_, h⟩ := (takeK_iff _ _ _).1 h; exact h.2.2.symm
          · obtain ⟨_, _, h⟩ := (nthK_iff _ _ _).1 h; exact h.2.2.symm
  | store ty a x =>
    refine ty_imp (fun ti h => ev_imp (hx a (by simp [Op.operands])) (fun v h => ptr_imp (fun i r j h => ev_imp (hx x (by simp [Op.operands])) (fun u h => rd i _ (fun ob h => ?_) h) h) h) h) h
    left
    have key : ob ≠ .dead ∧ ∃ ob', (AV.junk = v0 ∧ Eff.set i ob' = e0 ∧ some (i, true) = fp0) := by
      cases ob with
      | dead => exact h.elim
      | cells osz c =>
        refine ⟨by simp, ?_⟩
        have : ∀ vs, andK (vs.length == ti.size && vs.all AV.one) (overK c (r * osz + j) vs fun c' => AV.junk = v0 ∧ Eff.set i (.cells osz c') = e0 ∧ some (i, true) = fp0) → ∃ ob', (AV.junk = v0 ∧ Eff.set i ob' = e0 ∧ some (i, true) = fp0) := by
          intro vs h
          obtain ⟨_, h⟩ := (andK_iff _ _).1 h
          rcases overK_iff' h with ⟨_, h⟩ | ⟨_, _, h⟩ <;> exact ⟨_, h⟩
        rcases (cellsK_iff _ _).1 h with ⟨l, _, h⟩ | ⟨_, h⟩ <;> exact this _ h
      | row own e ks l =>
        cases own with
        | false => simp [storeOb] at h
        | true =>
          refine ⟨by simp, ?_⟩
          have this : (cellsK u fun vs => andK (vs.length == ti.size) (storeRow ks l r j vs fun l' => AV.junk = v0 ∧ Eff.set i (.row true e ks l') = e0 ∧ some (i, true) = fp0)) → ∃ ob', (AV.junk = v0 ∧ Eff.set i ob' = e0 ∧ some (i, true) = fp0) := by
            intro h
            have : ∀ vs, andK (vs.length == ti.size) (storeRow ks l r j vs fun l' => AV.junk = v0 ∧ Eff.set i (.row true e ks l') = e0 ∧ some (i, true) = fp0) → ∃ ob', (AV.junk = v0 ∧ Eff.set i ob' = e0 ∧ some (i, true) = fp0) := by
              intro vs h
              obtain ⟨_, h⟩ := (andK_iff _ _).1 h
              obtain ⟨_, h⟩ := (andK_iff _ _).1 h
              rcases overK_iff' h with ⟨_, h⟩ | ⟨_, _, h⟩
              all_goals
                obtain ⟨r', rest, h, _⟩ := uncsK_sound _ _ _ h
                exact ⟨_, h⟩
            rcases (cellsK_iff _ _).1 h with ⟨l, _, h⟩ | ⟨_, h⟩ <;> exact this _ h
          cases u <;> first
            | exact this h
            | (obtain ⟨_, h⟩ := (andK_iff _ _).1 h; exact ⟨_, h⟩)
    obtain ⟨h1, ob', _, _, h2⟩ := key
    exact ⟨h1, true, h2.symm⟩
  | binOp op ty x y ty' => exact ev_imp (hx x (by simp [Op.operands])) (fun a h => ev_imp (hx y (by simp [Op.operands])) (fun _ h => h) h) h
  | unOp op ty x => exact ev_imp (hx x (by simp [Op.operands])) (fun _ h => h) h
  | convert src dst x => exact ty_imp (fun _ h => ty_imp (fun ti h => ev_imp (hx x (by simp [Op.operands])) (fun _ h => h) h) h) h
  | makeFunc fn x y =>
    cases fn <;> try exact h
    exact evs_imp (fun z hz => hx z (by simp [Op.operands]; exact .inl (by simpa using hz))) (fun a h => evs_imp (fun z hz => hx z (by simp [Op.operands]; exact .inr (by simpa using hz))) (fun _ h => h) h) h
  | fieldAddr ty x f => exact ty_imp (fun ti h => ev_imp (hx x (by simp [Op.operands])) (fun _ h => h) h) h
  | field ty x f => exact ty_imp (fun ti h => ev_imp (hx x (by simp [Op.operands])) (fun _ h => h) h) h
  | indexAddr ty x ix =>
    refine ty_imp (fun ti h => ev_imp (hx ix (by simp [Op.operands])) (fun iv h => int_imp (fun n h => ev_imp (hx x (by simp [Op.operands])) (fun v h => ?_) h) h) h) h
    rcases ti with ⟨tk, sz, by', z, ks, big⟩
    cases tk <;> try exact h
    case slice e =>
      cases v <;> try exact h
      case sl i off len lim =>
        refine and_imp (fun h => ty_imp (fun te h => rd i _ (fun ob h => ?_) h) h) h
        cases ob with
        | dead => exact h.elim
        | cells osz c => obtain ⟨_, h⟩ := (andK_iff _ _).1 h; exact .inl ⟨by simp, false, h.2.2.symm⟩
        | row own e' ks' l =>
          cases own with
          | false => exact .inr ⟨_, _, _, rfl⟩
          | true => obtain ⟨_, h⟩ := (andK_iff _ _).1 h; exact .inl ⟨by simp, false, h.2.2.symm⟩
    case array len e =>
      cases v <;> try exact h
      case ptr i r j =>
        refine and_imp (fun h => ?_) h
        cases big with
        | none => exact h
        | some q =>
          obtain ⟨a, b, c⟩ := q
          refine and_imp (fun h => rd i _ (fun ob h => ?_) h) h
          cases ob with
          | dead => exact h.elim
          | cells osz c => exact h.elim
          | row own e' ks' l =>
            cases own with
            | false => exact .inr ⟨_, _, _, rfl⟩
            | true => obtain ⟨_, h⟩ := (andK_iff _ _).1 h; exact .inl ⟨by simp, false, h.2.2.symm⟩
  | index ty x ix => exact ty_imp (fun ti h => ev_imp (hx ix (by simp [Op.operands])) (fun iv h => int_imp (fun n h => ev_imp (hx x (by simp [Op.operands])) (fun _ h => h) h) h) h) h
  | slice ty x lo hi mx =>
    cases mx with
    | some => exact h
    | none =>
      have hlo : ∀ y, lo = some y → evF t' y = evF t y := fun y hy => hx y (by simp [Op.operands, hy])
      have hhi : ∀ y, hi = some y → evF t' y = evF t y := fun y hy => hx y (by simp [Op.operands, hy])
      refine ty_imp (fun ti h => ev_imp (hx x (by simp [Op.operands])) (fun v h => ?_) h) h
      rcases ti with ⟨tk, sz, by', z, ks, big⟩
      cases tk <;> try exact h
      case slice e =>
        cases v <;> try exact h
        case nils => exact bound_imp hhi (fun _ h => and_imp (fun h => bound_imp hlo (fun _ h => h) h) h) h
        case sl0 => exact bound_imp hhi (fun _ h => and_imp (fun h => bound_imp hlo (fun _ h => h) h) h) h
        case sl i off len lim =>
          have inner : ∀ ob, (szK ob fun sz => ∀ te : TI, andK (sz == te.size) <| boundK t hi len fun h => andK (decide (0 ≤ h) && decide (h ≤ len)) (boundK t lo 0 fun l => andK (decide (0 ≤ l) && decide (l ≤ h)) (AV.sl i (off + l.toNat) (h.toNat - l.toNat) (lim.map fun c => c - l.toNat) = v0 ∧ Eff.none = e0 ∧ fpOf ob i = fp0))) → True := fun _ _ => trivial
          refine ty_imp (fun te h => ?_) h
          obtain ⟨ob, h1, h2⟩ := (nthK_iff _ _ _).1 h
          have hfp : fpOf ob i = fp0 ∧ ob ≠ .dead := by
            cases ob with
            | dead => exact h2.elim
            | cells osz c =>
              obtain ⟨_, h⟩ := (andK_iff _ _).1 h2
              have : ∀ (o : Option Operand) (d : Nat) (A : Int → Prop), boundK t o d A → ∃ n, A n := by
                intro o d A hb
                cases o with
                | none => exact ⟨_, hb⟩
                | some y => obtain ⟨v, _, hv⟩ := (evK_ex _ _ _).1 hb; cases v <;> simp only [intK] at hv; exact ⟨_, hv⟩
              obtain ⟨_, h⟩ := this _ _ _ h
              obtain ⟨_, h⟩ := (andK_iff _ _).1 h
              obtain ⟨_, h⟩ := this _ _ _ h
              obtain ⟨_, h⟩ := (andK_iff _ _).1 h
              exact ⟨h.2.2, by simp⟩
            | row own e' ks' l =>
              obtain ⟨_, h⟩ := (andK_iff _ _).1 h2
              have : ∀ (o : Option Operand) (d : Nat) (A : Int → Prop), boundK t o d A → ∃ n, A n := by
                intro o d A hb
                cases o with
                | none => exact ⟨_, hb⟩
                | some y => obtain ⟨v, _, hv⟩ := (evK_ex _ _ _).1 hb; cases v <;> simp only [intK] at hv; exact ⟨_, hv⟩
              obtain ⟨_, h⟩ := this _ _ _ h
              obtain ⟨_, h⟩ := (andK_iff _ _).1 h
              obtain ⟨_, h⟩ := this _ _ _ h
              obtain ⟨_, h⟩ := (andK_iff _ _).1 h
              exact ⟨h.2.2, by simp⟩
          refine (nthK_iff _ _ _).2 ⟨ob, ?_, ?_⟩
          · cases ob with
            | dead => exact absurd rfl hfp.2
            | cells osz c => rw [hs i false hfp.1.symm (hnd i _ h1 hfp.2)]; exact h1
            | row own e' ks' l =>
              cases own with
              | false => exact hro i _ _ _ h1
              | true => rw [hs i false hfp.1.symm (hnd i _ h1 hfp.2)]; exact h1
          · cases ob with
            | dead => exact h2.elim
            | cells osz c => exact and_imp (fun h => bound_imp hhi (fun _ h => and_imp (fun h => bound_imp hlo (fun _ h => h) h) h) h) h2
            | row own e' ks' l => exact and_imp (fun h => bound_imp hhi (fun _ h => and_imp (fun h => bound_imp hlo (fun _ h => h) h) h) h) h2
  | extract x i => exact ev_imp (hx x (by simp [Op.operands])) (fun _ h => h) h
  | call c =>
    rcases c with ⟨callee, args, ats⟩
    cases callee with
    | builtin b => exact evs_imp (fun z hz => hx z (by simp [Op.operands, Call.operands]; simpa using hz)) (fun _ h => h) h
    | value f => exact h
    | invoke => exact h
  | _ => exact h

end Go.AW

/- The engine, 19: a region that draws its order: every order does what the text's order does. -/
namespace Go.AW
open Go
set_option linter.unusedVariables false
set_option linter.unusedSimpArgs false

variable {σ : Type}

/-- what a step of a drawn region does to the store -/
structure DE where
  sets : List (Nat × Ob)
  new : List Ob
  call : Bool

def setsL : List (Nat × Ob) → List Ob → List Ob
  | [], s => s
  | p :: r, s => setsL r (s.set p.1 p.2)

def setsK {α : Type} (k : List Ob → α → Prop) (z : α) : List (Nat × Ob) → List Ob → Prop
  | [], s => k s z
  | p :: r, s => setK s p.1 p.2 fun s' => setsK k z r s'

def DE.app (e : DE) (s : List Ob) : List Ob := setsL e.sets s ++ e.new

def deOf : Eff → DE
  | .none => ⟨[], [], false⟩
  | .set c ob => ⟨[(c, ob)], [], false⟩

/-- **A CALL WITHIN A DRAWN REGION**: it hangs on some objects alone (C), and does one thing -/
inductive AQ (P : Program) (f : FuncId) (args : List AV) (s : List Ob) (K : List Nat → AV → List (Nat × Ob) → List Ob → Prop) : Prop
  | mk (C : List Nat) (r : AV) (sets : List (Nat × Ob)) (new : List Ob) (h : ∀ s' : List Ob, s'.length = s.length → (∀ i ∈ C, s'[i]? = s[i]?) → RoAgree s s' → AC P f args s' fun r' s'' => r' = r ∧ s'' = setsL sets s' ++ new) (hk : K C r sets new)

/-- a call that knows no memory -/
theorem AQ_pure {P : Program} {f : FuncId} {args : List AV} {s : List Ob} {r : AV} {K : List Nat → AV → List (Nat × Ob) → List Ob → Prop} (h : ∀ s (Q : AV → List Ob → Prop), Q r s → AC P f args s Q) (hk : K [] r [] []) : AQ P f args s K :=
  ⟨[], r, [], [], fun s' _ _ _ => h s' _ ⟨rfl, by simp [setsL]⟩, hk⟩

def dcallK (P : Program) (fv : AV) (args : List AV) (s : List Ob) (K : AV → DE → List (Nat × Bool) → Prop) : Prop :=
  match fv with
  | .fn f a b => appK args b fun l => appK a l fun l => AQ P f l s fun C r sets new => K r ⟨sets, new, true⟩ (C.map (fun i => (i, false)) ++ sets.map (fun p => (p.1, true)) ++ (List.range new.length).map (fun i => (s.length + i, true)))
  | _ => False

def dop (P : Program) (T : TT) (id : Nat) (o : Oper) (t : List AV) (s : List Ob) (K : AV → DE → List (Nat × Bool) → Prop) : Prop :=
  match o.op with
  | .call c => match c.callee with
    | .value f => evK t f fun fv => evsK t c.args.toList fun args => dcallK P fv args s K
    | .builtin .append => False
    | .builtin b => evsK t c.args.toList fun vs => aBuiltin T c.argTypes.toList b vs fun v => K v ⟨[], [], false⟩ []
    | .invoke .. => False
  | op => aval T id op t s fun v e fp => K v (deOf e) fp.toList

def mkFp (id : Nat) (op : Op) (fp : List (Nat × Bool)) : List (Nat × Bool) := cond (Op.makes op) ((id, true) :: fp) fp

def dstep (P : Program) (T : TT) (all : List Oper) (id : Nat) (o : Oper) (t : List AV) (s : List Ob) (K : AV → DE → List (Nat × Bool) → Prop) : Prop :=
  guardK all o.guard t fun wd => cond wd (dop P T id o t s fun v e fp => K v e (mkFp id o.op fp)) (K (.tup []) ⟨[], [], false⟩ (mkFp id o.op []))

def Ob.ro : Ob → Bool
  | .row false _ _ _ => true
  | _ => false

def effOk (e : DE) (fp : List (Nat × Bool)) (s : List Ob) : Bool :=
  (e.sets.all fun p => fp.contains (p.1, true) && decide (p.1 < s.length) && !p.2.ro && !(s.getD p.1 .dead).ro) &&
  (e.new.all fun o => !o.ro) && ((List.range e.new.length).all fun i => fp.contains (s.length + i, true))

def mkOk (id : Nat) (op : Op) (s : List Ob) : Bool := !Op.makes op || (match s[id]? with | some .dead => true | _ => false)

structure EI where
  fp : List (Nat × Bool)
  call : Bool
  grow : Bool

noncomputable def adops (P : Program) (T : TT) (all : List Oper) (ops : List Oper) : Nat → List AV → List Ob → List EI → (List AV → List Ob → List EI → Prop) → Prop :=
  @List.rec Oper (fun _ => Nat → List AV → List Ob → List EI → (List AV → List Ob → List EI → Prop) → Prop)
    (fun _ t s fps k => k t s fps)
    (fun o _ ih id t s fps k => dstep P T all id o t s fun v e fp => andK (effOk e fp s && mkOk id o.op s) (putK t o.dst v fun t' => setsK (fun s1 z => appK s1 e.new fun s' =>
      idK (Op.makes o.op) id fun id' => ih id' t' s' (fps ++ [z]) k) ⟨fp, e.call, !e.new.isEmpty⟩ e.sets s)) ops

theorem adops_cons {P : Program} {T : TT} {all : List Oper} {o : Oper} {r : List Oper} {id : Nat} {t : List AV} {s : List Ob} {fps : List EI} {k : List AV → List Ob → List EI → Prop} :
    adops P T all (o :: r) id t s fps k = dstep P T all id o t s fun v e fp => andK (effOk e fp s && mkOk id o.op s) (putK t o.dst v fun t' => setsK (fun s1 z => appK s1 e.new fun s' =>
      idK (Op.makes o.op) id fun id' => adops P T all r id' t' s' (fps ++ [z]) k) ⟨fp, e.call, !e.new.isEmpty⟩ e.sets s) := rfl

def maskOf (o : Oper) (acc : List Nat) : Nat := o.after.toList.foldl (fun m e => cond (Region.binds .any e) (m ||| 2 ^ e.on ||| acc.getD e.on 0) m) 0
def masks : List Oper → List Nat → List Nat
  | [], acc => acc
  | o :: r, acc => masks r (acc ++ [maskOf o acc])

def noConf (a b : List (Nat × Bool)) : Bool := a.all fun x => b.all fun y => x.1 != y.1 || (!x.2 && !y.2)

def isIx (o : Oper) : Bool := match o.op with
  | .indexAddr .. => true
  | _ => false
def isSt (o : Oper) : Bool := match o.op with
  | .store .. => true
  | _ => false
/-- a place's address, and a store: the one knows only an object's shape, which the other leaves -/
def soft (a b : Oper) : Bool := (isIx a && isSt b) || (isSt a && isIx b)

def okEdges (all : List Oper) (ms : List Nat) : Bool := (List.range all.length).all fun i => match all[i]? with
  | some o => (o.after.toList.all fun e => !Region.binds .any e || decide (e.on < i)) && ms.getD i 0 == maskOf o ms
  | none => true

def okPairs (all : List Oper) (ms : List Nat) (fps : List EI) : Bool :=
  let aa := all.toArray
  (List.range all.length).all fun j => (List.range j).all fun i =>
    (ms.getD j 0).testBit i || match all[i]?, all[j]?, fps[i]?, fps[j]? with
      | some x, some y, some f, some g => Oper.apart aa x y && (noConf f.fp g.fp || soft x y) && !(f.call && g.grow) && !(g.call && f.grow)
      | _, _, _, _ => false

def okDraw (all : List Oper) (fps : List EI) : Bool := let ms := masks all []; okEdges all ms && okPairs all ms fps

/-! ### one step, alone -/
def LS (P : Program) (T : TT) (all : List Oper) (id : Nat) (o : Oper) (t : List AV) (s : List Ob) (v : AV) (e : DE) (fp : List (Nat × Bool)) : Prop :=
  dstep P T all id o t s fun v' e' fp' => v' = v ∧ e' = e ∧ fp' = fp

section
variable {P : Program} {T : TT} {all : List Oper} {id : Nat} {o : Oper} {t t' : List AV} {s s' : List Ob}

theorem evs_ex {t : List AV} : ∀ {xs : List Operand} {A : List AV → Prop}, evsK t xs A → ∃ l, A l ∧ ∀ B : List AV → Prop, B l → evsK t xs B
  | [], A, h => ⟨[], h, fun B hb => hb⟩
  | x :: xs, A, h => by
    obtain ⟨v, h1, h2⟩ := (evK_ex _ _ _).1 h
    obtain ⟨l, h3, h4⟩ := evs_ex h2
    exact ⟨v :: l, h3, fun B hb => (evK_ex _ _ _).2 ⟨v, h1, h4 _ hb⟩⟩

theorem builtin_ex {T : TT} {ts : List TypeId} {b : Builtin} {vs : List AV} {A : AV → Prop} (h : aBuiltin T ts b vs A) : ∃ v, A v ∧ ∀ B : AV → Prop, B v → aBuiltin T ts b vs B := by
  obtain ⟨v, e, fp, h1, h2⟩ := det_builtin (T := T) (ts := ts) (b := b) (vs := vs) (G := fun v k => k v .none none) (fun r => det_ret _ _ _) (fun v _ _ => A v) h
  exact ⟨v, h1, fun B hb => h2 (fun v _ _ => B v) hb⟩

theorem dop_det {K : AV → DE → List (Nat × Bool) → Prop} (h : dop P T id o t s K) : ∃ v e fp, K v e fp ∧ ∀ K' : AV → DE → List (Nat × Bool) → Prop, K' v e fp → dop P T id o t s K' := by
  unfold dop at h ⊢
  split at h
  case h_1 c ho =>
    split at h
    case h_1 f hf =>
      obtain ⟨fv, h1, h⟩ := (evK_ex _ _ _).1 h
      obtain ⟨args, h, h2⟩ := evs_ex h
      unfold dcallK at h
      split at h
      case h_2 => exact h.elim
      case h_1 fv f a b =>
        simp only [appK_iff] at h
        obtain ⟨C, r, sets, new, h3, h4⟩ := h
        refine ⟨r, _, _, h4, fun K' hk => (evK_ex _ _ _).2 ⟨_, h1, h2 _ ?_⟩⟩
        simp only [dcallK, appK_iff]
        exact ⟨C, r, sets, new, h3, hk⟩
    case h_2 => exact h.elim
    case h_3 =>
      obtain ⟨vs, h, h2⟩ := evs_ex h
      obtain ⟨v, h3, h4⟩ := builtin_ex h
      exact ⟨v, _, _, h3, fun K' hk => h2 _ (h4 _ hk)⟩
    case h_4 => exact h.elim
  case h_2 =>
    obtain ⟨v, e, fp, h1, h2⟩ := aval_det T id o.op t s _ h
    exact ⟨v, _, _, h1, fun K' hk => h2 _ hk⟩

theorem guardK_ex {all : List Oper} {g : Option (Nat × Bool)} {t : List AV} {A : Bool → Prop} (h : guardK all g t A) : ∃ b, A b ∧ ∀ B : Bool → Prop, B b → guardK all g t B := by
  unfold guardK at h ⊢
  split at h
  case h_1 => exact ⟨true, h, fun B hb => hb⟩
  case h_2 j want =>
    obtain ⟨oj, h1, h⟩ := (nthK_iff _ _ _).1 h
    cases hd : oj.dst with
    | none => simp [hd] at h
    | some d =>
      simp only [hd] at h
      obtain ⟨gv, h2, h⟩ := (nthK_iff _ _ _).1 h
      unfold wantK at h
      split at h
      case h_3 => exact h.elim
      case h_1 b =>
        refine ⟨_, h, fun B hb => (nthK_iff _ _ _).2 ⟨oj, h1, ?_⟩⟩
        simp only [hd]
        exact (nthK_iff _ _ _).2 ⟨_, h2, hb⟩
      case h_2 =>
        refine ⟨_, h, fun B hb => (nthK_iff _ _ _).2 ⟨oj, h1, ?_⟩⟩
        simp only [hd]
        exact (nthK_iff _ _ _).2 ⟨_, h2, hb⟩

theorem dstep_det {K : AV → DE → List (Nat × Bool) → Prop} (h : dstep P T all id o t s K) : ∃ v e fp, K v e fp ∧ LS P T all id o t s v e fp := by
  unfold LS dstep at *
  obtain ⟨b, h, h1⟩ := guardK_ex h
  rcases (cond_iff _ _ _).1 h with ⟨hb, h⟩ | ⟨hb, h⟩
  · obtain ⟨v, e, fp, h3, h4⟩ := dop_det h
    exact ⟨v, e, _, h3, h1 _ ((cond_iff _ _ _).2 (.inl ⟨hb, h4 _ ⟨rfl, rfl, rfl⟩⟩))⟩
  · exact ⟨_, _, _, h, h1 _ ((cond_iff _ _ _).2 (.inr ⟨hb, rfl, rfl, rfl⟩))⟩

theorem RoAgree.trans {s1 s2 s3 : List Ob} (h : RoAgree s1 s2) (h' : RoAgree s2 s3) : RoAgree s1 s3 := fun i e ks l hi => h' i e ks l (h i e ks l hi)

/-- the same step elsewhere -/
theorem LS.move {v : AV} {e : DE} {fp : List (Nat × Bool)} (h : LS P T all id o t s v e fp) (hid : Op.makes o.op = true → s[id]? = some .dead)
    (ht : ∀ d ∈ o.looksAt all.toArray, t'[d]? = t[d]?) (hs : ∀ q b, (q, b) ∈ fp → s'[q]? = s[q]?) (hc : e.call = true → s'.length = s.length) (hro : RoAgree s s') :
    LS P T all id o t' s' v e fp := by
  unfold LS dstep at *
  have hg : ∀ A : Bool → Prop, guardK all o.guard t A → guardK all o.guard t' A := by
    intro A hA
    unfold guardK at hA ⊢
    split at hA
    case h_1 => exact hA
    case h_2 j want hgd =>
      obtain ⟨oj, h1, hA⟩ := (nthK_iff _ _ _).1 hA
      cases hd : oj.dst with
      | none => simp [hd] at hA
      | some d =>
        simp only [hd] at hA
        obtain ⟨gv, h2, hA⟩ := (nthK_iff _ _ _).1 hA
        refine (nthK_iff _ _ _).2 ⟨oj, h1, ?_⟩
        simp only [hd]
        refine (nthK_iff _ _ _).2 ⟨gv, ?_, hA⟩
        rw [ht d ?_]; exact h2
        simp [Oper.looksAt, hgd, h1, hd]
  obtain ⟨b, hb, hb'⟩ := guardK_ex (hg _ h)
  refine hb' _ ?_
  rcases (cond_iff _ _ _).1 hb with ⟨hbt, h⟩ | ⟨hbt, h⟩
  case inr => exact (cond_iff _ _ _).2 (.inr ⟨hbt, h⟩)
  refine (cond_iff _ _ _).2 (.inl ⟨hbt, ?_⟩)
  have hx : ∀ x ∈ o.op.operands.toList, evF t' x = evF t x := by
    intro x hx
    cases x with
    | tmp i => simp only [evF]; exact ht i (by simp only [Oper.looksAt, List.mem_append, List.mem_filterMap]; exact .inl ⟨_, hx, rfl⟩)
    | const v => rfl
    | func f => rfl
    | global g => rfl
  unfold dop at h ⊢
  split at h
  case h_1 c ho =>
    simp only [ho] at hx
    split at h
    case h_1 f hf =>
      refine ev_imp (hx f (by simp [Op.operands, Call.operands, hf])) (fun fv h => evs_imp (fun z hz => hx z (by simp [Op.operands, Call.operands, hf]; right; simpa using hz)) (fun args h => ?_) h) h
      unfold dcallK at h ⊢
      split at h
      case h_2 => exact h.elim
      case h_1 fv f a b =>
        simp only [appK_iff] at h ⊢
        obtain ⟨C, r, sets, new, h3, h4, h5, h6⟩ := h
        have hcl : s'.length = s.length := hc (by rw [← h5])
        have hfp : ∀ q b, (q, b) ∈ (C.map (fun i => (i, false)) ++ sets.map (fun p => (p.1, true)) ++ (List.range new.length).map (fun i => (s.length + i, true))) → (q, b) ∈ fp := by
          intro q b hq
          rw [← h6]
          unfold mkFp
          cases Op.makes o.op
          · exact hq
          · exact List.mem_cons_of_mem _ hq
        refine ⟨C, r, sets, new, fun s2 hl hC hR => h3 s2 (hl.trans hcl) (fun i hi => (hC i hi).trans (hs i false (hfp i false (by simpa using hi)))) (hro.trans hR), h4, h5, ?_⟩
        rw [hcl]; exact h6
    case h_2 => exact h.elim
    case h_3 hb => exact evs_imp (fun z hz => hx z (by simp [Op.operands, Call.operands, hb]; simpa using hz)) (fun args h => h) h
    case h_4 => exact h.elim
  case h_2 hnc =>
    obtain ⟨v1, e1, fp1, ⟨h1, h2, h3⟩, h4⟩ := aval_det T id o.op t s _ h
    have hfp : ∀ q b, fp1 = some (q, b) → (q, b) ∈ fp := by
      rintro q b rfl
      rw [← h3]
      unfold mkFp
      cases Op.makes o.op <;> simp
    have key : aval T id o.op t' s' fun v e fp => v = v1 ∧ e = e1 ∧ fp = fp1 := by
      cases hm : Op.makes o.op with
      | true => exact aval_imp (.inl (hid hm)) hx (fun q b hq _ => hs q b (hfp q b hq)) hro (h4 _ ⟨rfl, rfl, rfl⟩)
      | false => exact aval_id hm s.length id (aval_imp (id := s.length) (.inr (by simp)) hx (fun q b hq _ => hs q b (hfp q b hq)) hro (aval_id hm id _ (h4 _ ⟨rfl, rfl, rfl⟩)))
    obtain ⟨v2, e2, fp2, ⟨rfl, rfl, rfl⟩, h6⟩ := aval_det T id o.op t' s' _ key
    exact h6 _ ⟨h1, h2, h3⟩
end

end Go.AW

/- The engine, 20: drawn regions: the exchange of two steps. -/
namespace Go.AW
open Go
set_option linter.unusedVariables false
set_option linter.unusedSimpArgs false

variable {σ : Type}

theorem setsL_length : ∀ (l : List (Nat × Ob)) (s : List Ob), (setsL l s).length = s.length
  | [], s => rfl
  | p :: r, s => by simp only [setsL]; rw [setsL_length r]; simp

theorem setsL_get : ∀ (l : List (Nat × Ob)) (s : List Ob) (q : Nat), (∀ p ∈ l, p.1 ≠ q) → (setsL l s)[q]? = s[q]?
  | [], s, q, _ => rfl
  | p :: r, s, q, h => by
    simp only [setsL]
    rw [setsL_get r _ q fun p' hp => h p' (by simp [hp]), List.getElem?_set_ne (h p (by simp))]

theorem setsL_set : ∀ (l : List (Nat × Ob)) (s : List Ob) (q : Nat) (o : Ob), (∀ p ∈ l, p.1 ≠ q) → setsL l (s.set q o) = (setsL l s).set q o
  | [], s, q, o, _ => rfl
  | p :: r, s, q, o, h => by
    simp only [setsL]
    rw [← setsL_set r _ q o fun p' hp => h p' (by simp [hp]), List.set_comm _ _ (fun e => h p (by simp) e.symm)]

theorem setsL_comm : ∀ (l m : List (Nat × Ob)) (s : List Ob), (∀ p ∈ l, ∀ q ∈ m, p.1 ≠ q.1) → setsL l (setsL m s) = setsL m (setsL l s)
  | [], m, s, _ => rfl
  | p :: r, m, s, h => by
    simp only [setsL]
    rw [← setsL_set m s p.1 p.2 (fun q hq => (h p (by simp) q hq).symm), setsL_comm r m _ fun p' hp => h p' (by simp [hp])]

theorem setsL_append : ∀ (l : List (Nat × Ob)) (s n : List Ob), (∀ p ∈ l, p.1 < s.length) → setsL l (s ++ n) = setsL l s ++ n
  | [], s, n, _ => rfl
  | p :: r, s, n, h => by
    simp only [setsL]
    rw [List.set_append_left _ _ (h p (by simp)), setsL_append r _ n fun p' hp => by simpa using h p' (by simp [hp])]

theorem setsL_ro : ∀ (l : List (Nat × Ob)) (s : List Ob), (∀ p ∈ l, p.2.ro = false) → ∀ (i : Nat) (ob : Ob), (setsL l s)[i]? = some ob → ob.ro = true → s[i]? = some ob
  | [], s, _, i, ob, h, _ => h
  | p :: r, s, hp, i, ob, h, hr => by
    simp only [setsL] at h
    have := setsL_ro r _ (fun p' hp' => hp p' (by simp [hp'])) i ob h hr
    rw [List.getElem?_set] at this
    split at this
    · split at this
      · cases this; rw [hp p (by simp)] at hr; cases hr
      · cases this
    · exact this

theorem DE.app_get {e : DE} {s : List Ob} {fp : List (Nat × Bool)} (he : effOk e fp s = true) {q : Nat} (hq : (q, true) ∉ fp) (hq2 : q < s.length + e.new.length) : (e.app s)[q]? = s[q]? := by
  simp only [effOk, Bool.and_eq_true, List.all_eq_true] at he
  have h1 : ∀ p ∈ e.sets, p.1 ≠ q := by
    rintro p hp rfl
    have := (he.1.1 p hp).1.1.1
    exact hq (by simpa using this)
  have hlt : q < s.length := by
    rcases Nat.lt_or_ge q s.length with h | h
    · exact h
    · have := he.2 (q - s.length) (by simp; omega)
      rw [show s.length + (q - s.length) = q by omega] at this
      exact absurd (by simpa using this) hq
  unfold DE.app
  rw [List.getElem?_append_left (by rw [setsL_length]; exact hlt), setsL_get _ _ _ h1]

/-- what is out of what was written is as it was -/
theorem DE.app_same {e : DE} {s : List Ob} {fp : List (Nat × Bool)} (he : effOk e fp s = true) {q : Nat} (hq : (q, true) ∉ fp) : (e.app s)[q]? = s[q]? := by
  rcases Nat.lt_or_ge q (s.length + e.new.length) with h | h
  · exact DE.app_get he hq h
  · rw [List.getElem?_eq_none (by simp [DE.app, setsL_length]; omega), List.getElem?_eq_none (by omega)]

theorem DE.app_ro {e : DE} {s : List Ob} {fp : List (Nat × Bool)} (he : effOk e fp s = true) : RoAgree (e.app s) s ∧ RoAgree s (e.app s) := by
  simp only [effOk, Bool.and_eq_true, List.all_eq_true, Bool.not_eq_true', decide_eq_true_eq] at he
  constructor
  · intro i e' ks l h
    unfold DE.app at h
    rcases Nat.lt_or_ge i s.length with hl | hl
    · rw [List.getElem?_append_left (by rw [setsL_length]; exact hl)] at h
      exact setsL_ro e.sets s (fun p hp => (he.1.1 p hp).1.2) i _ h rfl
    · rw [List.getElem?_append_right (by rw [setsL_length]; exact hl)] at h
      have := he.1.2 _ (List.mem_of_getElem? h)
      simp [Ob.ro] at this
  · intro i e' ks l h
    have hl := (List.getElem?_eq_some_iff.1 h).1
    unfold DE.app
    rw [List.getElem?_append_left (by rw [setsL_length]; exact hl), setsL_get]
    · exact h
    · rintro p hp rfl
      have := (he.1.1 p hp).2
      simp [List.getD, h, Ob.ro] at this

/-- one of a region's operations, and what it does -/
structure Ent where
  i : Nat
  o : Oper
  id : Nat
  v : AV
  e : DE
  fp : List (Nat × Bool)

def Ent.ei (E : Ent) : EI := ⟨E.fp, E.e.call, !E.e.new.isEmpty⟩

section
variable {P : Program} {T : TT} {all : List Oper}

def Run (P : Program) (T : TT) (all : List Oper) : List Ent → List AV → List Ob → List AV → List Ob → Prop
  | [], t, s, t', s' => t = t' ∧ s = s'
  | E :: R, t, s, t', s' => LS P T all E.id E.o t s E.v E.e E.fp ∧ effOk E.e E.fp s = true ∧ (Op.makes E.o.op = true → s[E.id]? = some .dead ∧ (E.id, true) ∈ E.fp) ∧
      Run P T all R (putL t E.o.dst E.v) (E.e.app s) t' s'

def Apart (all : List Oper) (A B : Ent) : Prop := Oper.apart all.toArray A.o B.o = true ∧ (noConf A.fp B.fp || soft A.o B.o) = true ∧ (A.e.call = true → B.e.new = []) ∧ (B.e.call = true → A.e.new = [])

theorem putL_get {t : List AV} {dst : Option Tmp} {v : AV} {d : Nat} (h : ∀ c, dst = some c → c ≠ d) : (putL t dst v)[d]? = t[d]? := by
  cases dst with
  | none => rfl
  | some c => exact List.getElem?_set_ne (h c rfl)

theorem noConf_spec {a b : List (Nat × Bool)} (h : noConf a b = true) : (∀ q, (q, true) ∈ a → ∀ x, (q, x) ∉ b) ∧ (∀ q, (q, true) ∈ b → ∀ x, (q, x) ∉ a) := by
  simp only [noConf, List.all_eq_true] at h
  refine ⟨fun q hq x hx => ?_, fun q hq x hx => ?_⟩
  · have := h _ hq _ hx; simp at this
  · have := h _ hx _ hq; simp at this

theorem effOk_move {e : DE} {fp : List (Nat × Bool)} {s s' : List Ob} (h : effOk e fp s = true) (hs : ∀ q b, (q, b) ∈ fp → s'[q]? = s[q]?) (hn : e.new = [] ∨ s'.length = s.length) : effOk e fp s' = true := by
  simp only [effOk, Bool.and_eq_true, List.all_eq_true, Bool.not_eq_true', decide_eq_true_eq] at h ⊢
  refine ⟨⟨fun p hp => ?_, h.1.2⟩, fun i hi => ?_⟩
  · obtain ⟨⟨⟨h1, h2⟩, h3⟩, h4⟩ := h.1.1 p hp
    have hq := hs p.1 true (by simpa using h1)
    refine ⟨⟨⟨h1, ?_⟩, h3⟩, ?_⟩
    · rcases Nat.lt_or_ge p.1 s'.length with q | q
      · exact q
      · rw [List.getElem?_eq_none q, List.getElem?_eq_getElem h2] at hq; cases hq
    · rw [List.getD_eq_getElem?_getD] at h4 ⊢; rw [hq]; exact h4
  · rcases hn with hn | hn
    · rw [hn] at hi; simp at hi
    · rw [hn]; exact h.2 i hi

/-! ### shapes -/
def shEq : Option Ob → Option Ob → Prop
  | some (.cells a _), some (.cells b _) => a = b
  | some (.row o e ks _), some (.row o' e' ks' _) => o = o' ∧ e = e' ∧ ks = ks'
  | none, none => True
  | some .dead, some .dead => True
  | _, _ => False
theorem shEq.refl : ∀ a : Option Ob, shEq a a
  | none => trivial
  | some .dead => trivial
  | some (.cells _ _) => rfl
  | some (.row _ _ _ _) => ⟨rfl, rfl, rfl⟩
theorem shEq.symm : ∀ {a b : Option Ob}, shEq a b → shEq b a
  | none, none, _ => trivial
  | some .dead, some .dead, _ => trivial
  | some (.cells _ _), some (.cells _ _), h => Eq.symm h
  | some (.row _ _ _ _), some (.row _ _ _ _), h => ⟨h.1.symm, h.2.1.symm, h.2.2.symm⟩
  | none, some _, h => h.elim
  | some .dead, none, h => h.elim
  | some (.cells _ _), none, h => h.elim
  | some (.row _ _ _ _), none, h => h.elim
  | some .dead, some (.cells _ _), h => h.elim
  | some .dead, some (.row _ _ _ _), h => h.elim
  | some (.cells _ _), some .dead, h => h.elim
  | some (.row _ _ _ _), some .dead, h => h.elim
  | some (.cells _ _), some (.row _ _ _ _), h => h.elim
  | some (.row _ _ _ _), some (.cells _ _), h => h.elim
theorem shEq.some {a : Ob} {b : Option Ob} (h : shEq (some a) b) : ∃ b', b = some b' ∧ shEq (some a) (some b') := by
  cases b with
  | none => cases a <;> exact h.elim
  | some b => exact ⟨b, rfl, h⟩

theorem ix_soft {id : Nat} {ty : TypeId} {x ix : Operand} {t t' : List AV} {s s' : List Ob} {v0 : AV} {e0 : Eff} {fp0 : FP} (hx : ∀ y ∈ (Op.indexAddr ty x ix).operands.toList, evF t' y = evF t y) (hsh : ∀ i : Nat, shEq s[i]? s'[i]?)
    (h : aval T id (.indexAddr ty x ix) t s fun v e fp => v = v0 ∧ e = e0 ∧ fp = fp0) : aval T id (.indexAddr ty x ix) t' s' fun v e fp => v = v0 ∧ e = e0 ∧ fp = fp0 := by
  refine ty_imp (fun ti h => ev_imp (hx ix (by simp [Op.operands])) (fun iv h => int_imp (fun n h => ev_imp (hx x (by simp [Op.operands])) (fun v h => ?_) h) h) h) h
  rcases ti with ⟨tk, sz, by', z, ks, big⟩
  cases tk <;> try exact h
  case slice e =>
    cases v <;> try exact h
    case sl i off len lim =>
      refine and_imp (fun h => ty_imp (fun te h => ?_) h) h
      obtain ⟨ob, h1, h2⟩ := (nthK_iff _ _ _).1 h
      have hs := hsh i
      rw [h1] at hs
      obtain ⟨ob', h3, h4⟩ := hs.some
      refine (nthK_iff _ _ _).2 ⟨ob', h3, ?_⟩
      cases ob with
      | dead => exact h2.elim
      | cells a c =>
        cases ob' with
        | dead => exact h4.elim
        | row => exact h4.elim
        | cells b c' => obtain rfl : a = b := h4; exact h2
      | row o e1 k1 l1 =>
        cases ob' with
        | dead => exact h4.elim
        | cells => exact h4.elim
        | row o' e2 k2 l2 => obtain ⟨rfl, rfl, rfl⟩ := h4; exact h2
  case array len e =>
    cases v <;> try exact h
    case ptr i r j =>
      refine and_imp (fun h => ?_) h
      cases big with
      | none => exact h
      | some q =>
        obtain ⟨a, b, c⟩ := q
        refine and_imp (fun h => ?_) h
        obtain ⟨ob, h1, h2⟩ := (nthK_iff _ _ _).1 h
        have hs := hsh i
        rw [h1] at hs
        obtain ⟨ob', h3, h4⟩ := hs.some
        refine (nthK_iff _ _ _).2 ⟨ob', h3, ?_⟩
        cases ob with
        | dead => exact h2.elim
        | cells a c => exact h2.elim
        | row o e1 k1 l1 =>
          cases ob' with
          | dead => exact h4.elim
          | cells => exact h4.elim
          | row o' e2 k2 l2 => obtain ⟨rfl, rfl, rfl⟩ := h4; exact h2

theorem ix_eff {id : Nat} {ty : TypeId} {x ix : Operand} {t : List AV} {s : List Ob} {v0 : AV} {e0 : Eff} {fp0 : FP}
    (h : aval T id (.indexAddr ty x ix) t s fun v e fp => v = v0 ∧ e = e0 ∧ fp = fp0) : e0 = .none := by
  obtain ⟨ti, _, h⟩ := (tyK_at _ _ _).1 h
  obtain ⟨iv, hiv, h⟩ := (evK_ex _ _ _).1 h
  cases iv <;> simp only [intK] at h
  obtain ⟨v, _, h⟩ := (evK_ex _ _ _).1 h
  rcases ti with ⟨tk, sz, by', z, ks, big⟩
  cases tk <;> try exact h.elim
  case slice e =>
    cases v <;> try exact h.elim
    case sl i off len lim =>
      obtain ⟨_, h⟩ := (andK_iff _ _).1 h
      obtain ⟨te, _, h⟩ := (tyK_at _ _ _).1 h
      obtain ⟨ob, h1, h2⟩ := (nthK_iff _ _ _).1 h
      cases ob with
      | dead => exact h2.elim
      | cells a c => obtain ⟨_, h⟩ := (andK_iff _ _).1 h2; exact h.2.1.symm
      | row o e1 k1 l1 => obtain ⟨_, h⟩ := (andK_iff _ _).1 h2; exact h.2.1.symm
  case array len e =>
    cases v <;> try exact h.elim
    case ptr i r j =>
      obtain ⟨_, h⟩ := (andK_iff _ _).1 h
      cases big with
      | none => obtain ⟨te, _, h⟩ := (tyK_at _ _ _).1 h; exact h.2.1.symm
      | some q =>
        obtain ⟨a, b, c⟩ := q
        obtain ⟨_, h⟩ := (andK_iff _ _).1 h
        obtain ⟨ob, h1, h2⟩ := (nthK_iff _ _ _).1 h
        cases ob with
        | dead => exact h2.elim
        | cells a c => exact h2.elim
        | row o e1 k1 l1 => obtain ⟨_, h⟩ := (andK_iff _ _).1 h2; exact h.2.1.symm

theorem st_sh {id : Nat} {ty : TypeId} {a x : Operand} {t : List AV} {s : List Ob} {v0 : AV} {e0 : Eff} {fp0 : FP}
    (h : aval T id (.store ty a x) t s fun v e fp => v = v0 ∧ e = e0 ∧ fp = fp0) : ∃ i ob ob', e0 = .set i ob' ∧ s[i]? = some ob ∧ shEq (some ob) (some ob') := by
  obtain ⟨ti, _, h⟩ := (tyK_at _ _ _).1 h
  obtain ⟨av, hav, h⟩ := (evK_ex _ _ _).1 h
  cases av <;> simp only [ptrK] at h
  rename_i i r j
  obtain ⟨u, _, h⟩ := (evK_ex _ _ _).1 h
  obtain ⟨ob, h1, h⟩ := (nthK_iff _ _ _).1 h
  cases ob with
  | dead => exact h.elim
  | cells osz c =>
    have : ∀ vs, andK (vs.length == ti.size && vs.all AV.one) (overK c (r * osz + j) vs fun c' => AV.junk = v0 ∧ Eff.set i (.cells osz c') = e0 ∧ some (i, true) = fp0) → ∃ c', e0 = .set i (.cells osz c') := by
      intro vs h
      obtain ⟨_, h⟩ := (andK_iff _ _).1 h
      rcases overK_iff' h with ⟨_, h⟩ | ⟨_, _, h⟩ <;> exact ⟨_, h.2.1.symm⟩
    obtain ⟨c', hc⟩ : ∃ c', e0 = .set i (.cells osz c') := by rcases (cellsK_iff _ _).1 h with ⟨l, _, h⟩ | ⟨_, h⟩ <;> exact this _ h
    exact ⟨i, _, _, hc, h1, rfl⟩
  | row own e ks l =>
    cases own with
    | false => simp [storeOb] at h
    | true =>
      have key : ∃ l', e0 = .set i (.row true e ks l') := by
        have this : (cellsK u fun vs => andK (vs.length == ti.size) (storeRow ks l r j vs fun l' => AV.junk = v0 ∧ Eff.set i (.row true e ks l') = e0 ∧ some (i, true) = fp0)) → ∃ l', e0 = .set i (.row true e ks l') := by
          intro h
          have : ∀ vs, andK (vs.length == ti.size) (storeRow ks l r j vs fun l' => AV.junk = v0 ∧ Eff.set i (.row true e ks l') = e0 ∧ some (i, true) = fp0) → ∃ l', e0 = .set i (.row true e ks l') := by
            intro vs h
            obtain ⟨_, h⟩ := (andK_iff _ _).1 h
            obtain ⟨_, h⟩ := (andK_iff _ _).1 h
            rcases overK_iff' h with ⟨_, h⟩ | ⟨_, _, h⟩
            all_goals
              obtain ⟨r', rest, h, _⟩ := uncsK_sound _ _ _ h
              exact ⟨_, h.2.1.symm⟩
          rcases (cellsK_iff _ _).1 h with ⟨l, _, h⟩ | ⟨_, h⟩ <;> exact this _ h
        cases u <;> first
          | exact this h
          | (obtain ⟨_, h⟩ := (andK_iff _ _).1 h; exact ⟨_, h.2.1.symm⟩)
      obtain ⟨l', hl⟩ := key
      exact ⟨i, _, _, hl, h1, rfl, rfl, rfl⟩

section
variable {id : Nat} {o : Oper} {t t' : List AV} {s s' : List Ob} {v : AV} {e : DE} {fp : List (Nat × Bool)}

theorem guardK_at {g : Option (Nat × Bool)} (ht : ∀ d ∈ o.looksAt all.toArray, t'[d]? = t[d]?) (hg : o.guard = g) (A : Bool → Prop) (hA : guardK all g t A) : guardK all g t' A := by
  subst hg
  unfold guardK at hA ⊢
  split at hA
  case h_1 => exact hA
  case h_2 j want hgd =>
    obtain ⟨oj, h1, hA⟩ := (nthK_iff _ _ _).1 hA
    cases hd : oj.dst with
    | none => simp [hd] at hA
    | some d =>
      simp only [hd] at hA
      obtain ⟨gv, h2, hA⟩ := (nthK_iff _ _ _).1 hA
      refine (nthK_iff _ _ _).2 ⟨oj, h1, ?_⟩
      simp only [hd]
      refine (nthK_iff _ _ _).2 ⟨gv, ?_, hA⟩
      rw [ht d ?_]; exact h2
      simp [Oper.looksAt, hgd, h1, hd]

theorem LS.ix (h : LS P T all id o t s v e fp) (ho : isIx o = true) : e = ⟨[], [], false⟩ ∧ ∀ {t' : List AV} {s' : List Ob}, (∀ d ∈ o.looksAt all.toArray, t'[d]? = t[d]?) → (∀ i : Nat, shEq s[i]? s'[i]?) → LS P T all id o t' s' v e fp := by
  rcases o with ⟨dst, op, tyy, pos, after, guard⟩
  cases op <;> simp only [isIx, Bool.false_eq_true] at ho
  rename_i ty x ix
  unfold LS dstep at h
  obtain ⟨b, h, hb⟩ := guardK_ex h
  rcases (cond_iff _ _ _).1 h with ⟨rfl, h⟩ | ⟨rfl, h⟩
  · have hd : aval T id (.indexAddr ty x ix) t s fun v' e' fp' => v' = v ∧ deOf e' = e ∧ mkFp id (.indexAddr ty x ix) fp'.toList = fp := h
    obtain ⟨v1, e1, fp1, ⟨g1, g2, g3⟩, g4⟩ := aval_det T id _ t s _ hd
    have g5 := g4 (fun v e fp => v = v1 ∧ e = e1 ∧ fp = fp1) ⟨rfl, rfl, rfl⟩
    have g6 := ix_eff g5
    refine ⟨by rw [← g2, g6]; rfl, fun {t' s'} ht hsh => ?_⟩
    unfold LS dstep
    have hbg := guardK_at (o := ⟨dst, .indexAddr ty x ix, tyy, pos, after, guard⟩) ht rfl _ (hb (fun b => b = true) rfl)
    obtain ⟨b', hb1, hb2⟩ := guardK_ex hbg
    subst hb1
    refine hb2 _ ?_
    have hx : ∀ y ∈ (Op.indexAddr ty x ix).operands.toList, evF t' y = evF t y := by
      intro y hy
      cases y with
      | tmp i => simp only [evF]; exact ht i (by simp only [Oper.looksAt, List.mem_append, List.mem_filterMap]; exact .inl ⟨_, hy, rfl⟩)
      | const v => rfl
      | func f => rfl
      | global g => rfl
    have g7 := ix_soft hx hsh g5
    obtain ⟨v2, e2, fp2, ⟨rfl, rfl, rfl⟩, g8⟩ := aval_det T id _ t' s' _ g7
    exact g8 (fun v' e' fp' => v' = v ∧ deOf e' = e ∧ mkFp id (.indexAddr ty x ix) fp'.toList = fp) ⟨g1, g2, g3⟩
  · refine ⟨h.2.1.symm, fun {t' s'} ht hsh => ?_⟩
    unfold LS dstep
    have hbg := guardK_at (o := ⟨dst, .indexAddr ty x ix, tyy, pos, after, guard⟩) ht rfl _ (hb (fun b => b = false) rfl)
    obtain ⟨b', hb1, hb2⟩ := guardK_ex hbg
    subst hb1
    exact hb2 _ h

theorem LS.st (h : LS P T all id o t s v e fp) (ho : isSt o = true) : ∀ i : Nat, shEq s[i]? (e.app s)[i]? := by
  rcases o with ⟨dst, op, tyy, pos, after, guard⟩
  cases op <;> simp only [isSt, Bool.false_eq_true] at ho
  rename_i ty a x
  unfold LS dstep at h
  obtain ⟨b, h, hb⟩ := guardK_ex h
  rcases (cond_iff _ _ _).1 h with ⟨rfl, h⟩ | ⟨rfl, h⟩
  · have hd : aval T id (.store ty a x) t s fun v' e' fp' => v' = v ∧ deOf e' = e ∧ mkFp id (.store ty a x) fp'.toList = fp := h
    obtain ⟨v1, e1, fp1, ⟨g1, g2, g3⟩, g4⟩ := aval_det T id _ t s _ hd
    obtain ⟨q, ob, ob', rfl, g5, g6⟩ := st_sh (g4 (fun v e fp => v = v1 ∧ e = e1 ∧ fp = fp1) ⟨rfl, rfl, rfl⟩)
    intro i
    rw [← g2]
    simp only [deOf, DE.app, setsL, List.append_nil]
    by_cases hq : q = i
    · subst hq
      have hl := (List.getElem?_eq_some_iff.1 g5).1
      rw [List.getElem?_set_self hl, g5]; exact g6
    · rw [List.getElem?_set_ne hq]; exact shEq.refl _
  · intro i
    rw [← h.2.1]
    simp only [DE.app, setsL, List.append_nil]
    exact shEq.refl _
end

theorem DE.app_none (s : List Ob) : (⟨[], [], false⟩ : DE).app s = s := by simp [DE.app, setsL]
theorem RoAgree.refl (s : List Ob) : RoAgree s s := fun _ _ _ _ h => h

theorem isSt_makes {o : Oper} (h : isSt o = true) : Op.makes o.op = false := by
  rcases o with ⟨dst, op, tyy, pos, after, guard⟩
  cases op <;> simp only [isSt, Bool.false_eq_true] at h
  rfl
theorem isIx_makes {o : Oper} (h : isIx o = true) : Op.makes o.op = false := by
  rcases o with ⟨dst, op, tyy, pos, after, guard⟩
  cases op <;> simp only [isIx, Bool.false_eq_true] at h
  rfl

theorem putL_comm {t : List AV} {x y : Option Tmp} {v w : AV} (h : ∀ d, x = some d → y ≠ some d) : putL (putL t y w) x v = putL (putL t x v) y w := by
  cases hA : x with
  | none => rfl
  | some d =>
    cases hB : y with
    | none => rfl
    | some d' =>
      simp only [putL]
      exact List.set_comm _ _ (fun e => h d hA (by rw [hB, e]))

/-- an address and a store -/
theorem Run.swapS {A B : Ent} {R : List Ent} {t t' : List AV} {s s' : List Ob} (h1 : Oper.apart all.toArray A.o B.o = true) (hs : soft A.o B.o = true) (h : Run P T all (A :: B :: R) t s t' s') : Run P T all (B :: A :: R) t s t' s' := by
  obtain ⟨a1, a2, a3, b1, b2, b3, h⟩ := h
  obtain ⟨p1, p2, p3⟩ := Oper.apart_spec h1
  rcases Bool.or_eq_true_iff.1 hs with hs | hs <;> rw [Bool.and_eq_true] at hs
  · obtain ⟨eA, mv⟩ := a1.ix hs.1
    have sA : A.e.app s = s := by rw [eA]; exact DE.app_none s
    rw [sA] at b1 b2 b3 h
    have b1' : LS P T all B.id B.o t s B.v B.e B.fp := b1.move (fun hm => (b3 hm).1) (fun d hd => (putL_get fun c hc e => p1 c hc (by rw [e]; exact hd)).symm) (fun _ _ _ => rfl) (fun _ => rfl) (RoAgree.refl s)
    have sh := b1'.st hs.2
    refine ⟨b1', b2, b3, mv (fun d hd => putL_get fun c hc e => p3 c hc (by rw [e]; exact hd)) sh, by rw [eA]; simp [effOk], fun hm => (by rw [isIx_makes hs.1] at hm; cases hm), ?_⟩
    rw [eA, DE.app_none, putL_comm p2]
    exact h
  · have shA := a1.st hs.1
    obtain ⟨eB, mv⟩ := b1.ix hs.2
    have sB : ∀ z, B.e.app z = z := fun z => by rw [eB]; exact DE.app_none z
    rw [sB] at h
    refine ⟨mv (fun d hd => (putL_get fun c hc e => p1 c hc (by rw [e]; exact hd)).symm) (fun i => (shA i).symm), by rw [eB]; simp [effOk], fun hm => (by rw [isIx_makes hs.2] at hm; cases hm), ?_⟩
    rw [sB]
    refine ⟨a1.move (fun hm => (a3 hm).1) (fun d hd => putL_get fun c hc e => p3 c hc (by rw [e]; exact hd)) (fun _ _ _ => rfl) (fun _ => rfl) (RoAgree.refl s), a2, a3, ?_⟩
    rw [putL_comm p2]
    exact h

/-- **THE EXCHANGE** -/
theorem Run.swap {A B : Ent} {R : List Ent} {t t' : List AV} {s s' : List Ob} (hap : Apart all A B) (h : Run P T all (A :: B :: R) t s t' s') : Run P T all (B :: A :: R) t s t' s' := by
  have hall := h
  obtain ⟨a1, a2, a3, b1, b2, b3, h⟩ := h
  obtain ⟨h1, h2, h3, h4⟩ := hap
  rcases Bool.or_eq_true_iff.1 h2 with h2 | h2
  case inr => exact Run.swapS h1 h2 hall
  obtain ⟨n1, n2⟩ := noConf_spec h2
  obtain ⟨p1, p2, p3⟩ := Oper.apart_spec h1
  -- B at the first state
  have ro := DE.app_ro a2
  have agB : ∀ q b, (q, b) ∈ B.fp → s[q]? = (A.e.app s)[q]? := fun q b hq => (DE.app_same a2 fun hA => n1 q hA b hq).symm
  have hlA : B.e.call = true → (A.e.app s).length = s.length := fun hc => by rw [DE.app, h4 hc]; simp [setsL_length]
  have b1' : LS P T all B.id B.o t s B.v B.e B.fp := by
    refine b1.move (fun hm => (b3 hm).1) (fun d hd => ?_) agB (fun hc => (hlA hc).symm) ro.1
    exact (putL_get fun c hc e => p1 c hc (by rw [e]; exact hd)).symm
  -- who grows is a call
  have grow : ∀ {E : Ent} {t s}, LS P T all E.id E.o t s E.v E.e E.fp → E.e.new = [] ∨ E.e.call = true := by
    intro E t s h
    unfold LS dstep at h
    obtain ⟨b, h, _⟩ := guardK_ex h
    rcases (cond_iff _ _ _).1 h with ⟨hb, h⟩ | ⟨hb, h⟩
    · obtain ⟨v, e, fp, h3, h4⟩ := dop_det h
      obtain ⟨_, h5, _⟩ := h3
      subst h5
      have h6 := h4 (fun v' e' fp' => e' = E.e) rfl
      unfold dop at h6
      split at h6
      case h_1 c ho =>
        split at h6
        case h_1 f hf =>
          obtain ⟨fv, _, h6⟩ := (evK_ex _ _ _).1 h6
          obtain ⟨args, h6, _⟩ := evs_ex h6
          unfold dcallK at h6
          split at h6
          case h_2 => exact h6.elim
          case h_1 fv f a b =>
            simp only [appK_iff] at h6
            obtain ⟨C, r, sets, new, _, h6⟩ := h6
            right; rw [← h6]
        case h_2 => exact h6.elim
        case h_3 =>
          obtain ⟨vs, h6, _⟩ := evs_ex h6
          obtain ⟨v, h6, _⟩ := builtin_ex h6
          left; rw [← h6]
        case h_4 => exact h6.elim
      case h_2 =>
        obtain ⟨v, e', fp, h6, _⟩ := aval_det T _ _ _ _ _ h6
        left; rw [← h6]; cases e' <;> rfl
    · left; rw [← h.2.1]
  have b2' : effOk B.e B.fp s = true := effOk_move b2 agB (by
    rcases grow b1 with hn | hc
    · exact .inl hn
    · exact .inr (hlA hc).symm)
  have b3' : Op.makes B.o.op = true → s[B.id]? = some .dead ∧ (B.id, true) ∈ B.fp := fun hm => ⟨(agB _ _ (b3 hm).2).trans (b3 hm).1, (b3 hm).2⟩
  -- A behind B
  have ro' := DE.app_ro b2'
  have agA : ∀ q b, (q, b) ∈ A.fp → (B.e.app s)[q]? = s[q]? := fun q b hq => DE.app_same b2' fun hB => n2 q hB b hq
  have hlB : A.e.call = true → (B.e.app s).length = s.length := fun hc => by rw [DE.app, h3 hc]; simp [setsL_length]
  have a1' : LS P T all A.id A.o (putL t B.o.dst B.v) (B.e.app s) A.v A.e A.fp := by
    refine a1.move (fun hm => (a3 hm).1) (fun d hd => ?_) agA hlB ro'.2
    exact putL_get fun c hc e => p3 c hc (by rw [e]; exact hd)
  have a2' : effOk A.e A.fp (B.e.app s) = true := effOk_move a2 agA (by
    rcases grow a1 with hn | hc
    · exact .inl hn
    · exact .inr (hlB hc))
  have a3' : Op.makes A.o.op = true → (B.e.app s)[A.id]? = some .dead ∧ (A.id, true) ∈ A.fp := fun hm => ⟨(agA _ _ (a3 hm).2).trans (a3 hm).1, (a3 hm).2⟩
  refine ⟨b1', b2', b3', a1', a2', a3', ?_⟩
  have e1 : putL (putL t B.o.dst B.v) A.o.dst A.v = putL (putL t A.o.dst A.v) B.o.dst B.v := by
    cases hA : A.o.dst with
    | none => rfl
    | some d =>
      cases hB : B.o.dst with
      | none => rfl
      | some d' =>
        simp only [putL]
        exact List.set_comm _ _ (fun e => p2 d hA (by rw [hB, e]))
  have e2 : A.e.app (B.e.app s) = B.e.app (A.e.app s) := by
    have sA : ∀ p ∈ A.e.sets, (p.1, true) ∈ A.fp ∧ p.1 < s.length := fun p hp => by
      simp only [effOk, Bool.and_eq_true, List.all_eq_true, decide_eq_true_eq] at a2
      exact ⟨by simpa using (a2.1.1 p hp).1.1.1, (a2.1.1 p hp).1.1.2⟩
    have sB : ∀ p ∈ B.e.sets, (p.1, true) ∈ B.fp ∧ p.1 < s.length := fun p hp => by
      simp only [effOk, Bool.and_eq_true, List.all_eq_true, decide_eq_true_eq] at b2'
      exact ⟨by simpa using (b2'.1.1 p hp).1.1.1, (b2'.1.1 p hp).1.1.2⟩
    simp only [DE.app]
    rw [setsL_append _ _ _ (fun p hp => by rw [setsL_length]; exact (sA p hp).2), setsL_append _ _ _ (fun p hp => by rw [setsL_length]; exact (sB p hp).2)]
    rw [setsL_comm A.e.sets B.e.sets s fun p hp q hq e => n1 p.1 (sA p hp).1 true (by rw [e]; exact (sB q hq).1)]
    rcases grow a1 with hn | hc
    · simp [hn]
    · simp [h3 hc]
  rw [e1, e2]
  exact h

theorem Run.front {E : Ent} : ∀ {R1 R2 : List Ent} {t t' : List AV} {s s' : List Ob}, (∀ A ∈ R1, Apart all A E) → Run P T all (R1 ++ E :: R2) t s t' s' → Run P T all (E :: (R1 ++ R2)) t s t' s'
  | [], R2, t, t', s, s', _, h => h
  | A :: R1, R2, t, t', s, s', ha, h => by
    obtain ⟨h1, h2, h3, h⟩ := h
    have := Run.front (R1 := R1) (fun B hB => ha B (by simp [hB])) h
    exact Run.swap (ha A (by simp)) ⟨h1, h2, h3, this⟩
end
end Go.AW

/- The engine, 21: drawn regions: every order. -/
namespace Go.AW
open Go
set_option linter.unusedVariables false
set_option linter.unusedSimpArgs false

variable {σ : Type}

theorem foldl_bits {α : Type} (c : α → Bool) (g h : α → Nat) : ∀ (l : List α) (m : Nat) (j : Nat), (l.foldl (fun m e => cond (c e) (m ||| 2 ^ g e ||| h e) m) m).testBit j = true →
    m.testBit j = true ∨ ∃ e ∈ l, c e = true ∧ (j = g e ∨ (h e).testBit j = true)
  | [], m, j, hj => .inl hj
  | e :: l, m, j, hj => by
    simp only [List.foldl_cons] at hj
    rcases foldl_bits c g h l _ j hj with h1 | ⟨e', he', h1, h2⟩
    · cases hc : c e with
      | false => rw [hc] at h1; exact .inl h1
      | true =>
        rw [hc] at h1
        simp only [cond_true, Nat.testBit_or, Bool.or_eq_true, Nat.testBit_two_pow, decide_eq_true_eq] at h1
        rcases h1 with (h1 | h1) | h1
        · exact .inl h1
        · exact .inr ⟨e, by simp, hc, .inl h1.symm⟩
        · exact .inr ⟨e, by simp, hc, .inr h1⟩
    · exact .inr ⟨e', by simp [he'], h1, h2⟩

/-- an operation that is ready has all listed that come ahead of it -/
theorem masks_listed {all : List Oper} {ms : List Nat} (hok : okEdges all ms = true) {L : Nat → Prop}
    (hcl : ∀ i o, L i → all[i]? = some o → ∀ e ∈ o.after.toList, Region.binds .any e = true → L e.on) :
    ∀ (n i : Nat) (o : Oper), i ≤ n → all[i]? = some o → (∀ e ∈ o.after.toList, Region.binds .any e = true → L e.on) → ∀ j, (ms.getD i 0).testBit j = true → L j := by
  intro n
  induction n with
  | zero =>
    intro i o hi ho hL j hj
    have hlt := (List.getElem?_eq_some_iff.1 ho).1
    simp only [okEdges, List.all_eq_true, List.mem_range] at hok
    have := hok i hlt
    simp only [ho, Bool.and_eq_true, List.all_eq_true, beq_iff_eq, Bool.or_eq_true, Bool.not_eq_true', decide_eq_true_eq] at this
    rw [this.2] at hj
    rcases foldl_bits _ _ _ _ _ j hj with h | ⟨e, he, hb, h⟩
    · simp at h
    · have := (this.1 e he).resolve_left (by simp [hb])
      omega
  | succ n ih =>
    intro i o hi ho hL j hj
    have hlt := (List.getElem?_eq_some_iff.1 ho).1
    have hok' := hok
    simp only [okEdges, List.all_eq_true, List.mem_range] at hok'
    have := hok' i hlt
    simp only [ho, Bool.and_eq_true, List.all_eq_true, beq_iff_eq, Bool.or_eq_true, Bool.not_eq_true', decide_eq_true_eq] at this
    rw [this.2] at hj
    rcases foldl_bits _ _ _ _ _ j hj with h | ⟨e, he, hb, h⟩
    · simp at h
    · have hlt' := (this.1 e he).resolve_left (by simp [hb])
      rcases h with rfl | h
      · exact hL e he hb
      · have hon : e.on < all.length := by omega
        exact ih e.on all[e.on] (by omega) (List.getElem?_eq_getElem hon) (hcl e.on _ (hL e he hb) (List.getElem?_eq_getElem hon)) j h

section
variable {P : Program} {T : TT} {all : List Oper} {O : Outer σ} {n0 : Nat} {r : Option Nat}

theorem deOf_app (e : Eff) (s : List Ob) : (deOf e).app s = effApply e s := by cases e <;> simp [deOf, DE.app, setsL, effApply]

theorem dop_aoper {o : Oper} {id : Nat} {t : List AV} {s : List Ob} {v : AV} {e : DE} {fp : List (Nat × Bool)} (x : σ) {k : List AV → List Ob → σ → Prop}
    (h : dop P T id o t s fun v' e' fp' => v' = v ∧ e' = e ∧ mkFp id o.op fp' = fp) (hk : k (putL t o.dst v) (e.app s) x) : aoper P O T n0 id o t s x k := by
  unfold dop at h
  unfold aoper
  split at h
  case h_1 c ho =>
    simp only [ho]
    split at h
    case h_1 f hf =>
      simp only [hf]
      obtain ⟨fv, h1, h⟩ := (evK_ex _ _ _).1 h
      refine (evK_ex _ _ _).2 ⟨fv, h1, ?_⟩
      obtain ⟨args, h, h2⟩ := evs_ex h
      refine h2 _ ?_
      unfold dcallK at h
      unfold callK
      split at h
      case h_2 => exact h.elim
      case h_1 fv f a b =>
        simp only [appK_iff] at h ⊢
        obtain ⟨C, r, sets, new, h3, h4, h5, h6⟩ := h
        refine ⟨ACo.mono (h3 s rfl (fun _ _ => rfl) (fun _ _ _ _ h => h)).of ?_⟩
        rintro r' s' x' ⟨rfl, rfl⟩
        subst h4 h5
        simp only [putK_iff]
        exact hk
    case h_2 => exact h.elim
    case h_3 b hne hb =>
      obtain ⟨vs, h, h2⟩ := evs_ex h
      obtain ⟨v', ⟨rfl, rfl, _⟩, h4⟩ := builtin_ex h
      have : aBuiltin T c.argTypes.toList b vs fun v => putK t o.dst v fun t' => k t' s x := h4 _ (by
        simp only [putK_iff]
        simpa [DE.app, setsL] using hk)
      have h3 := h2 (fun vs => aBuiltin T c.argTypes.toList b vs fun v => putK t o.dst v fun t' => k t' s x) this
      simp only [hb]
      cases b <;> first | exact h3 | exact (hne rfl).elim
    case h_4 => exact h.elim
  case h_2 hnc =>
    obtain ⟨v', e', fp', ⟨rfl, rfl, _⟩, h4⟩ := aval_det T id o.op t s _ h
    have : aval T id o.op t s fun v e _ => putK t o.dst v fun t' => effK s e fun s' => k t' s' x := h4 _ (by
      simp only [putK_iff, effK_iff]
      rw [← deOf_app]; exact hk)
    split
    case h_1 c hc => exact absurd hc (hnc c)
    case h_2 => exact this

/-- **EVERY ORDER** -/
theorem any_sound (hT : TOk P T) {ms : List Nat} (hms : okEdges all ms = true) {Q : Exit → Act → World → Prop} {tf : List AV} {sf : List Ob} {x : σ} :
    ∀ (fuel : Nat) (R : List Ent) (listed : Array Bool) (μ : MM) (t : List AV) (s : List Ob) (B : Nat → Prop) (a : Act) (w : World),
    R.length = fuel → listed.size = all.length →
    R.Pairwise (fun A B => A.i < B.i ∧ ((ms.getD B.i 0).testBit A.i = true ∨ Apart all A B)) →
    (∀ E ∈ R, all[E.i]? = some E.o ∧ listed[E.i]? = some false ∧ n0 ≤ E.id) →
    (∀ i, listed[i]? = some false → ∃ E ∈ R, E.i = i) →
    (∀ (i : Nat) (o : Oper), listed[i]? = some true → all[i]? = some o → ∀ e ∈ o.after.toList, Region.binds .any e = true → listed[e.on]? = some true) →
    Run P T all R t s tf sf → SR O μ t s x B a w → n0 ≤ s.length →
    (∀ μ' B' a' w', SR O μ' tf sf x B' a' w' → After n0 μ s B w μ' sf B' w' → a'.defers = a.defers → s.length ≤ sf.length → Q .normal a' w') →
    wpAnyIn (FR r) 0 P .any all.toArray Q fuel listed a w := by
  intro fuel
  induction fuel with
  | zero =>
    intro R listed μ t s B a w hlen hsz hpw hR hL hcl hrun hsr hn hQ
    obtain rfl : R = [] := List.length_eq_zero_iff.1 hlen
    obtain ⟨rfl, rfl⟩ := hrun
    refine ⟨?_, hQ μ B a w hsr (After.refl hn hsr.sep) rfl (Nat.le_refl _)⟩
    unfold Region.ready
    rw [List.filter_eq_nil_iff]
    intro i hi
    simp only [List.mem_range, List.size_toArray] at hi
    have : listed[i]? = some true := by
      rw [Array.getElem?_eq_getElem (by omega)]
      cases hb : listed[i] with
      | true => rfl
      | false => obtain ⟨E, hE, _⟩ := hL i (by rw [Array.getElem?_eq_getElem (by omega), hb]); cases hE
    simp [Array.getD_eq_getD_getElem?, this]
  | succ fuel ih =>
    intro R listed μ t s B a w hlen hsz hpw hR hL hcl hrun hsr hn hQ
    have hready : ∀ i, i ∈ Region.ready .any all.toArray listed → ∃ o, all[i]? = some o ∧ listed[i]? = some false ∧ ∀ e ∈ o.after.toList, Region.binds .any e = true → listed[e.on]? = some true := by
      intro i hi
      unfold Region.ready at hi
      simp only [List.mem_filter, List.mem_range, List.size_toArray, Bool.and_eq_true, Bool.not_eq_true', List.getElem?_toArray] at hi
      obtain ⟨h1, h2, h3⟩ := hi
      refine ⟨all[i], List.getElem?_eq_getElem h1, ?_, ?_⟩
      · have hlt : i < listed.size := by omega
        rw [Array.getElem?_eq_getElem hlt]
        simpa [Array.getD_eq_getD_getElem?, Array.getElem?_eq_getElem hlt] using h2
      · intro e he hb
        rw [List.getElem?_eq_getElem h1] at h3
        simp only [Option.map_some, Option.getD_some, Array.all_eq_true', Bool.or_eq_true, Bool.not_eq_true'] at h3
        have := (h3 e (by simpa using he)).resolve_left (by simp [hb])
        rw [Array.getD_eq_getD_getElem?] at this
        cases hq : listed[e.on]? with
        | none => simp [hq] at this
        | some b => simp [hq] at this; rw [this]
    constructor
    · -- something is ready
      intro hnil
      exfalso
      cases R with
      | nil => simp at hlen
      | cons E R =>
        obtain ⟨h1, h2, h3⟩ := hR E (by simp)
        have hlt := (List.getElem?_eq_some_iff.1 h1).1
        have : E.i ∈ Region.ready .any all.toArray listed := by
          unfold Region.ready
          simp only [List.mem_filter, List.mem_range, List.size_toArray, Bool.and_eq_true, Bool.not_eq_true', List.getElem?_toArray]
          refine ⟨hlt, by simp [Array.getD_eq_getD_getElem?, h2], ?_⟩
          rw [h1]
          simp only [Option.map_some, Option.getD_some, Array.all_eq_true', Bool.or_eq_true, Bool.not_eq_true']
          intro e he
          cases hb : Region.binds .any e with
          | false => exact .inl rfl
          | true =>
            right
            have hok := hms
            simp only [okEdges, List.all_eq_true, List.mem_range] at hok
            have hok := hok E.i hlt
            simp only [h1, Bool.and_eq_true, List.all_eq_true, beq_iff_eq, Bool.or_eq_true, Bool.not_eq_true', decide_eq_true_eq] at hok
            have hlt' := (hok.1 e (by simpa using he)).resolve_left (by simp [hb])
            have hsz' : e.on < listed.size := by omega
            rw [Array.getD_eq_getD_getElem?, Array.getElem?_eq_getElem hsz', Option.getD_some]
            cases hq : listed[e.on] with
            | true => rfl
            | false =>
              obtain ⟨E', hE', he'⟩ := hL e.on (by rw [Array.getElem?_eq_getElem hsz', hq])
              rcases List.mem_cons.1 hE' with rfl | hE'
              · omega
              · have := ((List.pairwise_cons.1 hpw).1 E' hE').1
                omega
        rw [hnil] at this
        cases this
    · intro i hi
      obtain ⟨o, ho, hli, haf⟩ := hready i hi
      obtain ⟨E, hE, rfl⟩ := hL i hli
      obtain ⟨ho', _, hid⟩ := hR E hE
      obtain rfl : E.o = o := Option.some.inj (ho'.symm.trans ho)
      obtain ⟨R1, R2, rfl⟩ := List.append_of_mem hE
      have hms' := masks_listed hms (L := fun j => listed[j]? = some true) (fun i o hi ho => hcl i o hi ho) E.i E.i E.o (Nat.le_refl _) ho haf
      have hap : ∀ A ∈ R1, Apart all A E := by
        intro A hA
        have h1 := (List.pairwise_append.1 hpw).2.2 A hA E (by simp)
        refine h1.2.resolve_left fun hb => ?_
        have := hms' A.i hb
        rw [(hR A (by simp [hA])).2.1] at this
        cases this
      have hrun' := Run.front hap hrun
      obtain ⟨g1, g2, g3, g4⟩ := hrun'
      -- what is left
      have hpw' : (R1 ++ R2).Pairwise (fun A B => A.i < B.i ∧ ((ms.getD B.i 0).testBit A.i = true ∨ Apart all A B)) := hpw.sublist (by simp)
      have hne : ∀ A ∈ R1 ++ R2, A.i ≠ E.i := by
        intro A hA
        rcases List.mem_append.1 hA with hA | hA
        · have := ((List.pairwise_append.1 hpw).2.2 A hA E (by simp)).1
          omega
        · have := ((List.pairwise_cons.1 (List.pairwise_append.1 hpw).2.1).1 A hA).1
          omega
      have hlt : E.i < listed.size := by
        rcases Nat.lt_or_ge E.i listed.size with q | q
        · exact q
        · rw [Array.getElem?_eq_none q] at hli; cases hli
      have hset : ∀ j, (listed.setIfInBounds E.i true)[j]? = if j = E.i then some true else listed[j]? := by
        intro j
        rw [Array.getElem?_setIfInBounds]
        by_cases hj : E.i = j
        · subst hj; simp [hlt]
        · simp [hj, Ne.symm hj]
      have next : ∀ (μ' : MM) (B' : Nat → Prop) (a' : Act) (w' : World), SR O μ' (putL t E.o.dst E.v) (E.e.app s) x B' a' w' → After n0 μ s B w μ' (E.e.app s) B' w' → a'.defers = a.defers → s.length ≤ (E.e.app s).length →
          wpAnyIn (FR r) 0 P .any all.toArray Q fuel (listed.setIfInBounds E.i true) a' w' := by
        intro μ' B' a' w' hsr' haft hdf hle
        refine ih (R1 ++ R2) _ μ' _ _ B' a' w' ?_ ?_ hpw' ?_ ?_ ?_ g4 hsr' haft.len ?_
        · simp at hlen ⊢; omega
        · simpa using hsz
        · intro A hA
          have := hR A (by simp at hA ⊢; rcases hA with h | h <;> simp [h])
          refine ⟨this.1, ?_, this.2.2⟩
          rw [hset, if_neg (hne A hA)]; exact this.2.1
        · intro j hj
          rw [hset] at hj
          split at hj
          · cases hj
          · rename_i hji
            obtain ⟨A, hA, rfl⟩ := hL j hj
            refine ⟨A, ?_, rfl⟩
            simp only [List.mem_append, List.mem_cons] at hA ⊢
            rcases hA with h | rfl | h
            · exact .inl h
            · exact absurd rfl hji
            · exact .inr h
        · intro j o hj hoj e he hb
          rw [hset]
          split
          · rfl
          · rw [hset] at hj
            split at hj
            · rename_i hji
              subst hji
              obtain rfl : E.o = o := Option.some.inj (ho.symm.trans hoj)
              exact haf e he hb
            · exact hcl j o hj hoj e he hb
        · intro μ'' B'' a'' w'' h1 h2 h3 h4
          exact hQ _ _ _ _ h1 (haft.trans h2) (h3.trans hdf) (Nat.le_trans hle h4)
      unfold wpOpIn
      simp only [List.getElem?_toArray, ho]
      unfold LS dstep at g1
      have hg := guardK_sound hsr.tm g1
      rcases (cond_iff _ _ _).1 hg with ⟨hw, hg⟩ | ⟨hw, hg⟩
      · rw [if_pos hw]
        have hop := dop_aoper (O := O) (n0 := n0) (k := fun t' s' x' => t' = putL t E.o.dst E.v ∧ s' = E.e.app s ∧ x' = x) x hg ⟨rfl, rfl, rfl⟩
        refine Oper.wpIn_mono ?_ (aoper_sound hT hsr hn hid (fun hm => (g3 hm).1) hop)
        rintro a' w' ⟨t', s', x', μ', B', ⟨rfl, rfl, rfl⟩, hsr', haft, hdf, hle, _⟩
        exact next μ' B' a' w' hsr' haft hdf hle
      · rw [if_neg (by rw [hw]; simp)]
        obtain ⟨hv, he, _⟩ := hg
        refine ⟨fun f _ => trivial, ?_⟩
        obtain ⟨h2, h3⟩ := hsr.step (Stp.refl (id := E.id) hsr.rel) hn hid (dst := E.o.dst) (v := .tup []) (c := undef) (by simp only [VR]; exact ⟨[], rfl, by simp [VRL]⟩)
        have happ : E.e.app s = s := by rw [← he]; simp [DE.app, setsL]
        refine next μ B _ w ?_ ?_ (put_defers _ _ _) ?_
        · rw [happ, ← hv]; exact h2
        · rw [happ]; exact After.refl hn hsr.sep
        · rw [happ]; exact Nat.le_refl _
end
end Go.AW

/- The engine, 22: the rule of a drawn region. -/
namespace Go.AW
open Go
set_option linter.unusedVariables false
set_option linter.unusedSimpArgs false

variable {σ : Type}

theorem setsK_iff {α : Type} (k : List Ob → α → Prop) (z : α) : ∀ (l : List (Nat × Ob)) (s : List Ob), setsK k z l s ↔ k (setsL l s) z
  | [], s => Iff.rfl
  | p :: r, s => by simp only [setsK, setsL, setK_iff]; exact setsK_iff k z r _

theorem deads_length : ∀ n, (deads n).length = n
  | 0 => rfl
  | n + 1 => by simp [deads, deads_length n]

theorem deads_get : ∀ n j, j < n → (deads n)[j]? = some Ob.dead
  | 0, j, h => by omega
  | n + 1, 0, _ => rfl
  | n + 1, j + 1, h => by simpa [deads] using deads_get n j (by omega)

section
variable {P : Program} {T : TT} {all : List Oper} {O : Outer σ} {n0 : Nat} {r : Option Nat} {μ : MM} {t : List AV} {s : List Ob} {x : σ} {B : Nat → Prop} {a : Act} {w : World}

/-- room for what is made -/
theorem room_sound (hn : n0 ≤ s.length) (hs : SR O μ t s x B a w) {n : Nat} {k : Nat → List Ob → Prop} (h : mkK n0 s n k) :
    ∃ base s1, k base s1 ∧ (∀ j, j < n → s1[base + j]? = some .dead) ∧ n0 ≤ base ∧ SR O μ t s1 x B a w ∧ After n0 μ s B w μ s1 B w := by
  unfold mkK at h
  split at h
  case h_1 => exact ⟨n0, s, h, by intro j hj; omega, Nat.le_refl _, hs, After.refl hn hs.sep⟩
  case h_2 m =>
    rw [extK_iff, Nat.zero_add] at h
    have hget : ∀ (i : Nat) (ob : Ob), (s ++ deads (m + 1))[i]? = some ob → ob ≠ Ob.dead → s[i]? = some ob := by
      intro i ob hi hne
      by_cases hl : i < s.length
      · rwa [List.getElem?_append_left hl] at hi
      · rw [List.getElem?_append_right (by omega)] at hi
        have hlt := (List.getElem?_eq_some_iff.1 hi).1
        rw [deads_length] at hlt
        rw [deads_get _ _ hlt] at hi
        exact absurd (Option.some.inj hi).symm hne
    have hget2 : ∀ (i : Nat) (ob : Ob), s[i]? = some ob → (s ++ deads (m + 1))[i]? = some ob := by
      intro i ob hi
      rw [List.getElem?_append_left (List.getElem?_eq_some_iff.1 hi).1]; exact hi
    have hlv : ∀ i, Live s i → Live (s ++ deads (m + 1)) i := fun i ⟨ob, h1, h2⟩ => ⟨ob, hget2 i ob h1, h2⟩
    have hlv2 : ∀ b, LV μ (s ++ deads (m + 1)) b → LV μ s b := fun b ⟨i, ob, h1, h2, h3⟩ => ⟨i, ob, hget i ob h1 h2, h2, h3⟩
    have hrel : Rel μ (s ++ deads (m + 1)) w := by
      refine ⟨fun i ob hi => ?_, fun i i' ob ob' hi hi' hne hw hd => ?_⟩
      · by_cases hd : ob = .dead
        · subst hd; simp [OR]
        · exact (hs.rel.ob i ob (hget i ob hi hd)).mono fun q hq => ⟨hlv q hq, rfl⟩
      · have hd1 : ob ≠ .dead := by rintro rfl; simp [Ob.own] at hw
        exact hs.rel.sep i i' ob ob' (hget i ob hi hd1) (hget i' ob' hi' hd) hne hw hd
    have hs1 : SR O μ t (s ++ deads (m + 1)) x B a w := hs.weaken (hs.tm.mono fun q hq => ⟨hlv q hq, rfl⟩) hrel hlv2
    refine ⟨s.length, _, h, fun j hj => ?_, hn, hs1, ⟨fun _ _ => rfl, fun j _ hj => hlv j hj, fun j hj hd => hget2 j _ hd, by simp; omega, Fr.refl _ _, fun b hb => .inl ?_, fun b hb => .inl (hlv2 b hb), fun b hb => .inl hb, hs1.sep⟩⟩
    · rw [List.getElem?_append_right (by omega), deads_get _ _ (by omega)]
    · obtain ⟨i, ob, h1, h2, h3⟩ := hb
      exact ⟨i, ob, hget i ob h1 (by rintro rfl; simp [Ob.own] at h2), h2, h3⟩

/-- the text's order, entry by entry -/
theorem adops_run {K : List AV → List Ob → List EI → Prop} : ∀ (ops : List Oper) (i id : Nat) (t : List AV) (s : List Ob) (fps : List EI), all.drop i = ops → n0 ≤ id → adops P T all ops id t s fps K →
    ∃ R tf sf, Run P T all R t s tf sf ∧ K tf sf (fps ++ R.map Ent.ei) ∧ R.length = ops.length ∧ ∀ (n : Nat) (E : Ent), R[n]? = some E → E.i = i + n ∧ all[i + n]? = some E.o ∧ n0 ≤ E.id
  | [], i, id, t, s, fps, hi, hid, h => ⟨[], t, s, ⟨rfl, rfl⟩, by simpa [adops] using h, rfl, by simp⟩
  | o :: ops, i, id, t, s, fps, hi, hid, h => by
    simp only [adops_cons, idK_iff] at h
    obtain ⟨v, e, fp, h, hls⟩ := dstep_det h
    obtain ⟨hok, h⟩ := (andK_iff _ _).1 h
    rw [putK_iff, setsK_iff, appK_iff] at h
    have hoi : all[i]? = some o := by
      have := congrArg (·[0]?) hi
      simpa using this
    have hrest : all.drop (i + 1) = ops := by rw [← List.drop_drop, hi]; rfl
    obtain ⟨R, tf, sf, h1, h2, h3, h4⟩ := adops_run ops (i + 1) _ _ _ _ hrest (by cases Op.makes o.op <;> simp <;> omega) h
    rw [Bool.and_eq_true] at hok
    have hfp : Op.makes o.op = true → (id, true) ∈ fp := by
      intro hm
      unfold LS dstep at hls
      obtain ⟨b, hls, _⟩ := guardK_ex hls
      rcases (cond_iff _ _ _).1 hls with ⟨_, hls⟩ | ⟨_, hls⟩
      · obtain ⟨_, _, fp', ⟨_, _, h5⟩, _⟩ := dop_det hls
        rw [← h5]; simp [mkFp, hm]
      · rw [← hls.2.2]; simp [mkFp, hm]
    refine ⟨⟨i, o, id, v, e, fp⟩ :: R, tf, sf, ⟨hls, hok.1, fun hm => ⟨?_, hfp hm⟩, h1⟩, ?_, by simp [h3], ?_⟩
    · have := hok.2
      simp only [mkOk, hm, Bool.not_true, Bool.false_or] at this
      split at this
      · assumption
      · cases this
    · simpa [Ent.ei] using h2
    · intro n E hE
      cases n with
      | zero =>
        obtain rfl : _ = E := by simpa using hE
        exact ⟨rfl, hoi, hid⟩
      | succ n =>
        obtain ⟨g1, g2, g3⟩ := h4 n E (by simpa using hE)
        refine ⟨by omega, ?_, g3⟩
        rw [← g2]; congr 1; omega

/-- (a reckoning stops there) -/
structure OkD (all : List Oper) (fps : List EI) : Prop where
  ok : okDraw all fps = true

def drawK (P : Program) (T : TT) (n0 : Nat) (ops : Array Oper) (t : List AV) (s : List Ob) (k : List AV → List Ob → Prop) : Prop :=
  mkK n0 s (nMakes ops.toList) fun base s1 => adops P T ops.toList ops.toList base t s1 [] fun t' s' fps => OkD ops.toList fps ∧ k t' s'

/-- **A REGION THAT DRAWS ITS ORDER.** -/
theorem AW_draw (hT : TOk P T) (hP : P.follows .mixedOrders = true) {id : Nat} {ops : Array Oper} {k : AExit → List AV → List Ob → σ → Prop} (h : drawK P T n0 ops t s fun t' s' => k .normal t' s' x) :
    AWs P O n0 r (.region id ops true) t s x k := by
  refine ⟨?_⟩
  intro hn nb μ B a w hs hm
  refine wpIn_region_any hP ?_
  obtain ⟨base, s1, h, hdd, hb, hs1, haf⟩ := room_sound hn hs h
  obtain ⟨R, tf, sf, hrun, hk, hlen, hR⟩ := adops_run (n0 := n0) ops.toList 0 base t s1 [] rfl hb h
  obtain ⟨⟨hok⟩, hk⟩ := hk
  simp only [okDraw, Bool.and_eq_true, List.nil_append] at hok
  -- the drawn world
  have hfr : ∀ R', Fr R' w { w with drawn := w.drawn + 1 } := fun _ => ⟨rfl, rfl, rfl, Nat.le_refl _, fun _ _ _ => rfl, fun _ h => h⟩
  have hrel : Rel μ s1 { w with drawn := w.drawn + 1 } := ⟨hs1.rel.ob, hs1.rel.sep⟩
  have hs2 : SR O μ t s1 x B a { w with drawn := w.drawn + 1 } := ⟨hs1.tm, hrel, O.keep _ _ _ _ (fun _ => False) hs1.out (hfr _) (fun _ _ h => h), hs1.sep⟩
  have hle : n0 ≤ s1.length := haf.len
  have haf1 : After n0 μ s1 B w μ s1 B { w with drawn := w.drawn + 1 } := ⟨fun _ _ => rfl, fun _ _ h => h, fun _ _ h => h, hle, hfr _, fun _ h => .inl h, fun _ h => .inl h, fun _ h => .inl h, hs1.sep⟩
  have := any_sound (O := O) (n0 := n0) (r := r) (all := ops.toList) (x := x) (Q := APost O nb n0 μ s B w k) hT hok.1 ops.size R (Array.replicate ops.size false) μ t s1 B a _ (by simpa using hlen) (by simp) ?_ ?_ ?_ ?_ hrun hs2 hle ?_
  · simpa using this
  · rw [List.pairwise_iff_getElem]
    intro i j hi hj hij
    have e1 := hR i R[i] (List.getElem?_eq_getElem hi)
    have e2 := hR j R[j] (List.getElem?_eq_getElem hj)
    refine ⟨by omega, ?_⟩
    have hq := hok.2
    simp only [okPairs, List.all_eq_true, List.mem_range] at hq
    have hq := hq j (by simp at hlen ⊢; omega) i hij
    rw [Bool.or_eq_true] at hq
    rw [e1.1, e2.1, Nat.zero_add, Nat.zero_add]
    rcases hq with hq | hq
    · exact .inl hq
    · right
      rw [Nat.zero_add] at e1 e2
      simp only [e1.2.1, e2.2.1, List.getElem?_map, List.getElem?_eq_getElem hi, List.getElem?_eq_getElem hj, Option.map_some, Ent.ei, Bool.and_eq_true, Bool.not_eq_true', Bool.and_eq_false_iff, Bool.not_eq_false'] at hq
      obtain ⟨⟨⟨h1, h2⟩, h3⟩, h4⟩ := hq
      exact ⟨by simpa using h1, h2, fun hc => by rcases h3 with h | h; rw [hc] at h; cases h; simpa using h, fun hc => by rcases h4 with h | h; rw [hc] at h; cases h; simpa using h⟩
  · intro E hE
    obtain ⟨n, hn', rfl⟩ := List.mem_iff_getElem.1 hE
    obtain ⟨g1, g2, g3⟩ := hR n _ (List.getElem?_eq_getElem hn')
    rw [Nat.zero_add] at g1 g2
    refine ⟨by rw [g1]; exact g2, ?_, g3⟩
    rw [g1]
    have : n < ops.size := by have := (List.getElem?_eq_some_iff.1 g2).1; simpa using this
    rw [Array.getElem?_eq_getElem (by simpa using this)]
    simp
  · intro i hi
    have hlt : i < R.length := by
      rcases Nat.lt_or_ge i ops.size with q | q
      · rw [hlen]; simpa using q
      · rw [Array.getElem?_eq_none (by simpa using q)] at hi; cases hi
    exact ⟨R[i], List.getElem_mem _, by have := (hR i _ (List.getElem?_eq_getElem hlt)).1; omega⟩
  · intro i o hi
    rcases Nat.lt_or_ge i ops.size with q | q
    · rw [Array.getElem?_eq_getElem (by simpa using q)] at hi; simp at hi
    · rw [Array.getElem?_eq_none (by simpa using q)] at hi; cases hi
  · intro μ' B' a' w' h1 h2 h3 h4
    have haf2 := haf.trans (haf1.trans h2)
    exact ⟨.normal, tf, sf, x, μ', B', rfl, hk, h1, haf2, hm.after hs.rel haf2 h3⟩
end
end Go.AW

/- The engine, 23: what a walk is made with. -/
namespace Go.AW
open Go
set_option linter.unusedVariables false
set_option linter.unusedSimpArgs false

variable {σ : Type}

theorem andI {b : Bool} {x : Prop} (hb : b = true) (h : x) : andK b x := by subst hb; exact h
theorem ifI {b : Bool} {x y : Prop} (h1 : b = true → x) (h2 : b = false → y) : cond b x y := by cases b; exact h2 rfl; exact h1 rfl
theorem ifT' {b : Bool} {x y : Prop} (hb : b = true) (h : x) : cond b x y := by subst hb; exact h
theorem ifF' {b : Bool} {x y : Prop} (hb : b = false) (h : y) : cond b x y := by subst hb; exact h
theorem ifP {p : Prop} [Decidable p] {x y : Prop} (h1 : p → x) (h2 : ¬p → y) : cond (decide p) x y := by by_cases h : p; exact ifT' (decide_eq_true h) (h1 h); exact ifF' (decide_eq_false h) (h2 h)
theorem andP {p : Prop} [Decidable p] {x : Prop} (h1 : p) (h : x) : andK (decide p) x := andI (decide_eq_true h1) h
theorem ifT {b : Bool} {x y : Prop} (hb : b = true) (h : x) : cond b x y := by subst hb; exact h
theorem ifF {b : Bool} {x y : Prop} (hb : b = false) (h : y) : cond b x y := by subst hb; exact h

/-- some values forgotten -/
def junkM : List Bool → List AV → List AV
  | _, [] => []
  | [], _ :: l => .junk :: junkM [] l
  | b :: m, v :: l => cond b v .junk :: junkM m l

def keepN : Nat → List Bool
  | 0 => []
  | n + 1 => true :: keepN n

theorem VRL_junkM {D : Nat → Prop} {μ : MM} : ∀ {l : List AV} (m : List Bool) {cs : List Value}, VRL D μ l cs → VRL D μ (junkM m l) cs
  | [], _, _, h => h
  | v :: l, [], cs, h => by
    simp only [VRL] at h
    obtain ⟨c, r, e, h1, h2⟩ := h
    simp only [junkM, VRL]
    exact ⟨c, r, e, by simp [VR], VRL_junkM [] h2⟩
  | v :: l, b :: m, cs, h => by
    simp only [VRL] at h
    obtain ⟨c, r, e, h1, h2⟩ := h
    simp only [junkM, VRL]
    refine ⟨c, r, e, ?_, VRL_junkM m h2⟩
    cases b
    · simp [VR]
    · exact h1

section
variable {P : Program} {T : TT} {O : Outer σ} {n0 : Nat} {r : Option Nat} {t : List AV} {s : List Ob} {x : σ} {k : AExit → List AV → List Ob → σ → Prop} {b : Code}

theorem ALs.junk (m : List Bool) (h : ALs P O n0 r b (junkM m t) s x k) : ALs P O n0 r b t s x k :=
  ⟨fun hn nb μ B a w hs hm => h.of hn nb μ B a w ⟨VRL_junkM m hs.tm, hs.rel, hs.out, hs.sep⟩ hm⟩

/-- **A LOOP BY AN INVARIANT.** -/
theorem ALs.inv {ι : Type} (hT : TOk P T) (N : Nat) (msk : List Bool) (I : ι → Prop) (m : ι → Nat) (tt : ι → List AV) (ss : ι → List Ob) (xx : ι → σ) (i0 : ι) (h0 : I i0) (ht : junkM msk t = tt i0) (hs : s = ss i0) (hx : x = xx i0)
    (step : ∀ i, I i → awp P O T n0 r N b (tt i) (ss i) (xx i) fun e t' s' x' => match e with
      | .normal => ∃ j, junkM msk t' = tt j ∧ s' = ss j ∧ x' = xx j ∧ m j < m i ∧ I j
      | e => k e t' s' x') : ALs P O n0 r b t s x k := by
  have key : ∀ n i, m i ≤ n → I i → ∀ t, junkM msk t = tt i → ALs P O n0 r b t (ss i) (xx i) k := by
    intro n
    induction n with
    | zero =>
      intro i hm hI t ht
      refine .junk msk ?_
      rw [ht]
      refine ⟨AL_round ((awp_sound hT b _ _ _ _ (step i hI)).mono fun e t' s' x' h' => ?_)⟩
      cases e with
      | normal => obtain ⟨j, _, _, _, h2, _⟩ := h'; omega
      | exit => exact h'
      | goto => exact h'
      | ret => exact h'
    | succ n ih =>
      intro i hm hI t ht
      refine .junk msk ?_
      rw [ht]
      refine ⟨AL_round ((awp_sound hT b _ _ _ _ (step i hI)).mono fun e t' s' x' h' => ?_)⟩
      cases e with
      | normal =>
        obtain ⟨j, h3, rfl, rfl, h2, h1⟩ := h'
        exact (ih j (by omega) h1 t' h3).of
      | exit => exact h'
      | goto => exact h'
      | ret => exact h'
  subst hs hx
  exact key (m i0) i0 (Nat.le_refl _) h0 t ht
end
end Go.AW

/- The engine, 24: numbers. -/
namespace Go.AW
open Go
set_option linter.unusedVariables false

namespace Z
theorem wrap_u (n : Int) : IntKind.u64.wrap n = n % 18446744073709551616 := by
  show (if IntKind.u64.signed && decide (n % (2 ^ IntKind.u64.bits : Int) ≥ (2 ^ (IntKind.u64.bits - 1) : Int)) then n % (2 ^ IntKind.u64.bits : Int) - (2 ^ IntKind.u64.bits : Int) else n % (2 ^ IntKind.u64.bits : Int)) = _
  rfl
theorem wrap_uid {n : Int} (h : 0 ≤ n) (h' : n < 18446744073709551616) : IntKind.u64.wrap n = n := by rw [wrap_u]; omega
theorem wrap_u_lo (n : Int) : 0 ≤ IntKind.u64.wrap n := by rw [wrap_u]; omega
theorem wrap_u_hi (n : Int) : IntKind.u64.wrap n < 18446744073709551616 := by rw [wrap_u]; omega
theorem wrap_iid {n : Int} (h : -9223372036854775808 ≤ n) (h' : n < 9223372036854775808) : IntKind.i64.wrap n = n := IntWalk.i64_in n ⟨h, by omega⟩

theorem ofInt_u (a : Int) (h : 0 ≤ a) (h' : a < 18446744073709551616) : (BitVec.ofInt IntKind.u64.bits a).toNat = a.toNat := by
  show (BitVec.ofInt 64 a).toNat = _
  rw [BitVec.toNat_ofInt]; omega

theorem cast_lt {n : Nat} (h : n < 2 ^ 64) : IntKind.u64.wrap (n : Int) = (n : Int) := wrap_uid (by omega) (by omega)

section
variable {a b : Int} (ha : 0 ≤ a) (ha' : a < 18446744073709551616) (hb : 0 ≤ b) (hb' : b < 18446744073709551616)
include ha ha' hb hb'
theorem and_u : Z.and .u64 a b = ((a.toNat &&& b.toNat : Nat) : Int) := by
  unfold Z.and
  rw [BitVec.toNat_and, ofInt_u a ha ha', ofInt_u b hb hb']
  exact cast_lt (Nat.and_lt_two_pow _ (by omega))
theorem or_u : Z.or .u64 a b = ((a.toNat ||| b.toNat : Nat) : Int) := by
  unfold Z.or
  rw [BitVec.toNat_or, ofInt_u a ha ha', ofInt_u b hb hb']
  exact cast_lt (Nat.or_lt_two_pow (by omega) (by omega))
theorem xor_u : Z.xor .u64 a b = ((a.toNat ^^^ b.toNat : Nat) : Int) := by
  unfold Z.xor
  rw [BitVec.toNat_xor, ofInt_u a ha ha', ofInt_u b hb hb']
  exact cast_lt (Nat.xor_lt_two_pow (by omega) (by omega))
end

theorem mask_u {a m : Int} (n : Nat) (hm : m = 2 ^ n - 1) (hn : n ≤ 64) (ha : 0 ≤ a) (ha' : a < 18446744073709551616) : Z.and .u64 a m = a % 2 ^ n := by
  have h1 : 2 ^ n ≤ 2 ^ 64 := Nat.pow_le_pow_right (by omega) hn
  have h0 : 0 < 2 ^ n := Nat.two_pow_pos n
  have hm' : m = ((2 ^ n - 1 : Nat) : Int) := by rw [hm, Int.natCast_sub h0]; simp
  rw [and_u ha ha' (by rw [hm']; omega) (by rw [hm']; omega), hm', Int.toNat_natCast, Nat.and_two_pow_sub_one_eq_mod, Int.natCast_emod, Int.toNat_of_nonneg ha]
  simp

theorem shr_eq {K : IntKind} {a k : Int} (n : Nat) (hk : min k.toNat K.bits = n) : Z.shr K a k = a / 2 ^ n := by
  unfold Z.shr
  rw [hk, Int.fdiv_eq_ediv_of_nonneg]
  exact Int.le_of_lt (Int.pow_pos (by omega))

/-- the upper half of a product -/
theorem hi_eq {a b : Int} (ha : 0 ≤ a) (ha' : a < 18446744073709551616) (hb : 0 ≤ b) (hb' : b < 18446744073709551616) :
    a * b / 18446744073709551616 = (a / 4294967296) * (b / 4294967296) + ((a / 4294967296) * (b % 4294967296) + (a % 4294967296) * (b / 4294967296) + (a % 4294967296) * (b % 4294967296) / 4294967296) / 4294967296 ∧
    a * b = ((a / 4294967296) * (b / 4294967296)) * 18446744073709551616 + ((a / 4294967296) * (b % 4294967296) + (a % 4294967296) * (b / 4294967296)) * 4294967296 + (a % 4294967296) * (b % 4294967296) := by
  have e : a * b = ((a / 4294967296) * (b / 4294967296)) * 18446744073709551616 + ((a / 4294967296) * (b % 4294967296) + (a % 4294967296) * (b / 4294967296)) * 4294967296 + (a % 4294967296) * (b % 4294967296) := by
    have h1 : a = 4294967296 * (a / 4294967296) + a % 4294967296 := by omega
    have h2 : b = 4294967296 * (b / 4294967296) + b % 4294967296 := by omega
    generalize a / 4294967296 = a1 at *
    generalize a % 4294967296 = a0 at *
    generalize b / 4294967296 = b1 at *
    generalize b % 4294967296 = b0 at *
    subst h1 h2
    simp only [Int.add_mul, Int.mul_add]
    have e1 : 4294967296 * a1 * (4294967296 * b1) = a1 * b1 * 18446744073709551616 := by
      rw [Int.mul_assoc, Int.mul_left_comm a1, ← Int.mul_assoc]; omega
    have e2 : 4294967296 * a1 * b0 = a1 * b0 * 4294967296 := by rw [Int.mul_assoc]; omega
    have e3 : a0 * (4294967296 * b1) = a0 * b1 * 4294967296 := by rw [Int.mul_left_comm]; omega
    omega
  refine ⟨?_, e⟩
  rw [e]
  generalize (a / 4294967296) * (b / 4294967296) = s
  generalize (a / 4294967296) * (b % 4294967296) = q
  generalize (a % 4294967296) * (b / 4294967296) = r
  generalize (a % 4294967296) * (b % 4294967296) = p
  omega

theorem half_mul {a b : Int} (ha : 0 ≤ a) (ha' : a < 4294967296) (hb : 0 ≤ b) (hb' : b < 4294967296) : 0 ≤ a * b ∧ a * b ≤ 18446744065119617025 := by
  refine ⟨Int.mul_nonneg ha hb, ?_⟩
  have : a * b ≤ 4294967295 * 4294967295 := Int.mul_le_mul (by omega) (by omega) hb (by omega)
  omega
end Z
end Go.AW
namespace Go.AW
open Go
theorem Qeq {Q : AV → List Ob → Prop} {v v' : AV} {s : List Ob} (e : v' = v) (h : Q v s) : Q v' s := by rw [e]; exact h
namespace Z
theorem mask_w (z m : Int) (n : Nat) (hm : m = 2 ^ n - 1) (hn : n ≤ 64) : Z.and .u64 (IntKind.u64.wrap z) m = IntKind.u64.wrap z % 2 ^ n := mask_u n hm hn (wrap_u_lo z) (wrap_u_hi z)
end Z
end Go.AW

/- The engine, 25: contracts of calls that make objects, or change flat ones. -/
namespace Go.AW
open Go
set_option linter.unusedVariables false

/-- a call of values alone that makes objects -/
theorem AC_new {P : Program} {f : FuncId} {args : List AV} {s : List Ob} {Q : AV → List Ob → Prop} (hargs : AV.flat.flatL args = true)
    (h : AC P f args [] fun r s' => ∃ r' l, Kept 0 r s' r' l ∧ Q (r'.ren (rho [] s.length)) (s ++ l.map (Ob.ren (rho [] s.length)))) : AC P f args s Q := by
  have e : AV.ren.renL (rho [] s.length) args = args := ren_flatL _ _ hargs
  have := ACo_local (x := ()) (O := Outer.none) (P := P) (f := f) (args' := args) (s := s) (L := []) (Q := fun r s _ => Q r s) [] (by simp) rfl (by simp) ?_
  · rw [e] at this
    exact ⟨this⟩
  · refine ACo_export (h.of.mono ?_)
    rintro r s' _ ⟨r', l, hk, hq⟩
    exact ⟨r', l, hk, by simpa [setAll] using hq⟩

theorem Kept.one {r : AV} {s' : List Ob} {ob : Ob} (j : Nat) (hj : s'[j]? = some ob) (hf : ob.flat = true) {o q : Nat} (hr : r = .ptr j o q) : Kept 0 r s' (.ptr 0 o q) [ob] := by
  refine ⟨[j], by simp, rfl, by simp, fun i hi => by omega, fun i j' ob' h1 h2 => ?_, ?_⟩
  · cases i with
    | zero =>
      simp at h1 h2
      subst h1 h2
      rw [Ob.ren_flat _ hf]; exact hj
    | succ i => simp at h1
  · rw [hr]; simp [AV.ren, rho]

/-- a call of values alone that makes one flat object -/
theorem AC_new1 {P : Program} {f : FuncId} {args : List AV} {s : List Ob} {Q : AV → List Ob → Prop} (hargs : AV.flat.flatL args = true) (j o q : Nat)
    (h : AC P f args [] fun r s' => r = .ptr j o q ∧ nthK s' j fun ob => ob.flat = true ∧ Q (.ptr s.length o q) (s ++ [ob])) : AC P f args s Q := by
  refine AC_new hargs ⟨h.of.mono ?_⟩
  rintro r s' _ ⟨rfl, h⟩
  obtain ⟨ob, h1, h2, h3⟩ := (nthK_iff _ _ _).1 h
  refine ⟨_, _, Kept.one j h1 h2 rfl, ?_⟩
  simpa [AV.ren, rho, Ob.ren_flat _ h2] using h3

/-- a call that changes one flat object -/
theorem AC_one {P : Program} {f : FuncId} {args' : List AV} {s : List Ob} {ob : Ob} {Q : AV → List Ob → Prop} (i : Nat) (hs : s[i]? = some ob) (hf : ob.flat = true)
    (h : AC P f args' [ob] fun r s' => nthK s' 0 fun ob' => r.flat = true ∧ ob'.flat = true ∧ Q r (s.set i ob')) : AC P f (AV.ren.renL (rho [i] s.length) args') s Q := by
  refine ⟨ACo_flat (L := [ob]) [i] (by simp) rfl (by simp [hf]) (by rintro (_ | i') j o h1 h2 <;> simp at h1 h2; subst h1 h2; exact hs) (h.of.mono fun r s' x hk => ?_)⟩
  obtain ⟨ob', h0, h1, h2, h3⟩ := (nthK_iff _ _ _).1 hk
  cases s' with
  | nil => simp at h0
  | cons o s' =>
    simp at h0
    subst h0
    refine (takeK_iff _ _ _).2 ⟨by simp, h1, by simp [h2], ?_⟩
    simpa [setAll] using h3
end Go.AW

/- The engine, 26: a law's walk, as the row asks for it. -/
namespace Go.AW
open Go
set_option linter.unusedVariables false

theorem grown_of {R : Nat → Prop} {w w' : World} (h : Fr R w w') (hR : ∀ b, b < w.heap.size → ¬ R b) : RowKit.Grown w w' := by
  refine ⟨⟨h.os, h.output, fun i hi => ?_⟩, fun a => ?_, h.size⟩
  · rw [h.block i hi (hR i hi)]
    cases hq : w.heap[i]? with
    | none => simp
    | some o => cases o <;> simp
  · cases hb : w.frozen? a with
    | true =>
      have hlt : a.block < w.heap.size := by
        rcases Nat.lt_or_ge a.block w.heap.size with q | q
        · exact q
        · unfold World.frozen? at hb
          rw [Array.getElem?_eq_none q] at hb
          cases hb
      have := h.block _ hlt (hR _ hlt)
      unfold World.frozen? at hb ⊢
      rw [this]; exact hb
    | false =>
      cases hq : w'.frozen? a with
      | false => rfl
      | true => rw [h.froz a hq] at hb; cases hb

/-- a function with a body is called -/
theorem Ran.calls {P : Program} {f : FuncId} {args : Array Value} {w : World} {R : Ending → World → Prop} (hb : ∃ fn, P.funcs[f]? = some fn ∧ fn.body.isNone = false ∧ (fn.name == "runtime.NumGoroutine") = false) (h : Ran P f args w R) : Calls P f args w R := by
  rcases h with ⟨_, h⟩ | ⟨v, w', h, _⟩
  · exact h
  · obtain ⟨fn, h1, h2, h3⟩ := hb
    rw [run_callFunc h1 h2 h3] at h
    cases h

/-- **A LAW OF VALUES ALONE RETURNS TRUE.** -/
theorem law_calls {P : Program} {f : FuncId} {args : List AV} {cargs : Array Value} {w : World} (hargs : VRL (fun _ => False) (fun _ => default) args cargs.toList) (hfl : AV.flat.flatL args = true)
    (hb : ∃ fn, P.funcs[f]? = some fn ∧ fn.body.isNone = false ∧ (fn.name == "runtime.NumGoroutine") = false) (h : AC P f args [] fun r _ => r = .bool true) : Calls P f cargs w fun e w' => e = .returned (.bool true) ∧ RowKit.Grown w w' := by
  have hr0 : Rel (fun _ => default) [] w := ⟨fun id o ho => by simp at ho, fun id id' o o' ho => by simp at ho⟩
  refine (Ran.calls hb (h.of (fun _ => default) cargs w (fun _ => False) hr0 (VRL.flat hfl hargs) (fun b hb => hb) (fun b hb => hb.elim))).mono ?_
  rintro e w' ⟨r, s', x', μ', B', v, rfl, rfl, hv, hrel, hI, haf⟩
  refine ⟨by simp only [VR] at hv; rw [hv], grown_of haf.fr fun b _ hb => ?_⟩
  rcases hb with ⟨i, o, ho, _⟩ | hb
  · simp at ho
  · exact hb

theorem wf_u64 {a : Int} (h : (Lit.int .u64 a).wf = true) : 0 ≤ a ∧ a < 18446744073709551616 := by
  have h' : IntKind.u64.min ≤ a ∧ a ≤ IntKind.u64.max := by simpa [Lit.wf] using h
  exact ⟨h'.1, Int.lt_of_le_of_lt h'.2 (by decide)⟩
theorem wf_i64 {a : Int} (h : (Lit.int .i64 a).wf = true) : -9223372036854775808 ≤ a ∧ a < 9223372036854775808 := by
  have h' : IntKind.i64.min ≤ a ∧ a ≤ IntKind.i64.max := by simpa [Lit.wf] using h
  exact ⟨h'.1, Int.lt_of_le_of_lt h'.2 (by decide)⟩
end Go.AW

/- The engine, 27: what comes in: a parameter's cells, by the row's own reading. -/
namespace Go.AW
open Go
set_option linter.unusedVariables false
set_option linter.unusedSimpArgs false

/-- what a cell of a parameter holds: a number or a bool; a slice of flat rows -/
inductive PK where
  | flat (c : CK)
  | sl (e : TypeId) (ks : List CK)
  deriving DecidableEq

def PK.ck? : PK → Option CK
  | .flat c => some c
  | .sl _ _ => none

def allFlat : List PK → Option (List CK)
  | [] => some []
  | k :: l => match k.ck?, allFlat l with
    | some c, some cs => some (c :: cs)
    | _, _ => none

def catK (P : Program) (g : TypeId → Option (List PK)) : Nat → List Field → Option (List PK)
  | _, [] => some []
  | off, f :: fs => match g f.type with
    | some l => if f.offset = off ∧ l.length = P.cellsOf f.type then (catK P g (off + l.length) fs).map (l ++ ·) else none
    | none => none

def repK : Nat → List PK → List PK
  | 0, _ => []
  | n + 1, l => l ++ repK n l

def kindsK (P : Program) : Nat → TypeId → Option (List PK)
  | 0, _ => none
  | n + 1, t => match P.underlying t with
    | some .bool => some [.flat .bl]
    | some (.int k) => some [.flat (.ik k)]
    | some (.slice e) => match (kindsK P n e).bind allFlat with
      | some ks => if ks.length = P.cellsOf e ∧ 0 < ks.length then some [.sl e ks] else none
      | none => none
    | some (.struct fs) => match catK P (kindsK P n) 0 fs.toList with
      | some l => if l.length = P.cellsOf t then some l else none
      | none => none
    | some (.array m e) => match kindsK P n e with
      | some l => if l.length = P.cellsOf e ∧ (repK m l).length = P.cellsOf t then some (repK m l) else none
      | none => none
    | _ => none

/-- numbers fit their kinds -/
def fitK : List CK → List Int → Prop
  | [], l => l = []
  | .ik k :: cs, l => ∃ n r, l = n :: r ∧ (Lit.int k n).wf = true ∧ fitK cs r
  | .bl :: cs, l => ∃ n r, l = n :: r ∧ (n = 0 ∨ n = 1) ∧ fitK cs r

def CellO (w : World) : PK → Value → Prop
  | .flat (.ik k), c => ∃ n, c = .int k n ∧ (Lit.int k n).wf = true
  | .flat .bl, c => ∃ b, c = .bool b
  | .sl _ ks, c => c = .slice none 0 0 ∨ ∃ (a : Addr) (len cap : Nat) (rows : List (List Int)), c = .slice (some a) len cap ∧ len ≤ cap ∧ cap ≤ maxLen ∧ rows.length = len ∧ (∀ r ∈ rows, fitK ks r) ∧
      (0 < cap → a.spot = none ∧ (∃ cs e fr, w.heap[a.block]? = some (.cells cs e fr)) ∧
        ∀ i j, i < len → j < ks.length → w.cell? ⟨a.block, a.off + (i * ks.length + j), none⟩ = (rowV ks (rows.getD i []))[j]?)

def AllO (w : World) : List PK → List Value → Prop
  | [], cs => cs = []
  | k :: l, cs => ∃ c r, cs = c :: r ∧ CellO w k c ∧ AllO w l r

theorem AllO.length {w : World} : ∀ {l : List PK} {cs : List Value}, AllO w l cs → cs.length = l.length
  | [], _, h => by rw [h]; rfl
  | k :: l, cs, h => by obtain ⟨c, r, rfl, _, h⟩ := h; simp [AllO.length h]

theorem AllO.append {w : World} : ∀ {l l' : List PK} {cs cs' : List Value}, AllO w l cs → AllO w l' cs' → AllO w (l ++ l') (cs ++ cs')
  | [], l', cs, cs', h, h' => by rw [show cs = [] from h]; exact h'
  | k :: l, l', cs, cs', h, h' => by
    obtain ⟨c, r, rfl, h1, h⟩ := h
    exact ⟨c, r ++ cs', rfl, h1, h.append h'⟩

/-- flat cells are a row's values -/
theorem row_of_flat {w : World} : ∀ {l : List PK} {ks : List CK} {cs : List Value}, allFlat l = some ks → AllO w l cs → ∃ r, fitK ks r ∧ cs = rowV ks r
  | [], ks, cs, h, ho => by
    simp only [allFlat, Option.some.injEq] at h
    subst h
    exact ⟨[], rfl, ho⟩
  | k :: l, ks, cs, h, ho => by
    obtain ⟨c, r, rfl, hc, ho⟩ := ho
    simp only [allFlat] at h
    cases k with
    | sl e q => simp [PK.ck?] at h
    | flat q =>
      cases hl : allFlat l with
      | none => simp [hl, PK.ck?] at h
      | some qs =>
        simp only [hl, PK.ck?, Option.some.injEq] at h
        subst h
        obtain ⟨row, h1, rfl⟩ := row_of_flat hl ho
        cases q with
        | ik kd =>
          obtain ⟨n, rfl, hw⟩ := hc
          exact ⟨n :: row, ⟨n, row, rfl, hw, h1⟩, by simp [rowV, ckV]⟩
        | bl =>
          obtain ⟨b, rfl⟩ := hc
          refine ⟨(if b then 1 else 0) :: row, ⟨_, row, rfl, by cases b <;> simp, h1⟩, by cases b <;> simp [rowV, ckV]⟩

section
variable {H : Type} {enc : TypeId × Value → H} {P : Program} {w : World} {base : Nat} {held : Bool}

theorem catK_open {n : Nat} {g : TypeId → Option (List PK)} {cs : List Value} (hg : ∀ t l cs' y, g t = some l → DataW.trod enc P w base (fun _ => true) held n t cs' = some y → AllO w l cs') :
    ∀ (fs : List Field) (off : Nat) (l : List PK), catK P g off fs = some l → (∀ f ∈ fs, ∃ y, DataW.trod enc P w base (fun _ => true) held n f.type ((cs.drop f.offset).take (P.cellsOf f.type)) = some y) →
      off + l.length = cs.length → AllO w l (cs.drop off)
  | [], off, l, h, _, hl => by
    simp only [catK, Option.some.injEq] at h
    subst h
    exact List.drop_eq_nil_of_le (by simp at hl; omega)
  | f :: fs, off, l, h, hf, hl => by
    simp only [catK] at h
    cases hq : g f.type with
    | none => simp [hq] at h
    | some l1 =>
      simp only [hq] at h
      split at h
      · rename_i hc
        obtain ⟨l2, h2, rfl⟩ := Option.map_eq_some_iff.1 h
        obtain ⟨y, hy⟩ := hf f (by simp)
        have h3 := hg _ _ _ _ hq hy
        rw [hc.1, ← hc.2] at h3
        have h4 := catK_open hg fs (off + l1.length) l2 h2 (fun f' hf' => hf f' (by simp [hf'])) (by simp at hl; omega)
        have := h3.append h4
        rwa [← List.drop_drop, List.take_append_drop] at this
      · cases h

theorem open_kinds : ∀ (n : Nat) (t : TypeId) (l : List PK) (fuel : Nat) (cs : List Value) (x : DataW H × List MemPlace), kindsK P n t = some l → DataW.trod enc P w base (fun _ => true) held fuel t cs = some x → AllO w l cs := by
  intro n
  induction n with
  | zero => intro t l fuel cs x h; simp [kindsK] at h
  | succ n ih =>
    intro t l fuel cs x h hx
    simp only [kindsK] at h
    split at h
    case h_1 ht =>
      obtain ⟨b, rfl, _⟩ := DataW.trod_bool ht hx
      obtain rfl := (Option.some.inj h).symm
      exact ⟨_, _, rfl, ⟨b, rfl⟩, rfl⟩
    case h_2 k ht =>
      obtain ⟨m, rfl, _, hw⟩ := DataW.trod_int ht hx
      obtain rfl := (Option.some.inj h).symm
      exact ⟨_, _, rfl, ⟨m, rfl, hw⟩, rfl⟩
    case h_3 e ht =>
      split at h
      case h_2 => cases h
      case h_1 ks hks =>
        split at h
        case isFalse => cases h
        case isTrue hc =>
          obtain rfl := (Option.some.inj h).symm
          obtain ⟨le, hle, hfl⟩ := Option.bind_eq_some_iff.1 hks
          rcases DataW.trod_slice ht hx with ⟨rfl, _⟩ | ⟨a, len, cap, elems, rest, m, _, rfl, _, hb, hlc, hcm, hel, hat, hsp, _⟩
          · exact ⟨_, _, rfl, .inl rfl, rfl⟩
          · refine ⟨_, _, rfl, .inr ?_, rfl⟩
            obtain ⟨hrl, hrest⟩ := hsp rfl
            -- each element
            have each : ∀ i, i < cap → ∃ r, fitK ks r ∧ w.cells? base (a.add (i * P.cellsOf e)) (P.cellsOf e) = some (rowV ks r) := by
              intro i hi
              have : ∃ y, (w.cells? base (a.add (i * P.cellsOf e)) (P.cellsOf e)).bind (DataW.trod enc P w base (fun _ => true) held m e) = some y := by
                by_cases hl : i < len
                · exact ⟨elems[i]'(by omega), by rw [hat i hl, List.getElem?_eq_getElem]⟩
                · have := hrest (i - len) (by omega)
                  rw [show len + (i - len) = i by omega] at this
                  exact ⟨rest[i - len]'(by omega), by rw [this, List.getElem?_eq_getElem]⟩
              obtain ⟨y, hy⟩ := this
              obtain ⟨cs', h1, h2⟩ := Option.bind_eq_some_iff.1 hy
              obtain ⟨r, h3, rfl⟩ := row_of_flat hfl (ih e le m cs' y hle h2)
              exact ⟨r, h3, h1⟩
            let row : Nat → List Int := fun i => if h : i < cap then Classical.choose (each i h) else []
            have hrow : ∀ i, i < cap → fitK ks (row i) ∧ w.cells? base (a.add (i * P.cellsOf e)) (P.cellsOf e) = some (rowV ks (row i)) := by
              intro i hi
              simp only [row, dif_pos hi]
              exact Classical.choose_spec (each i hi)
            refine ⟨a, len, cap, (List.range len).map row, rfl, hlc, hcm, by simp, ?_, fun hcap => ?_⟩
            · intro r hr
              obtain ⟨i, hi, rfl⟩ := List.mem_map.1 hr
              exact (hrow i (by simp at hi; omega)).1
            · have h0 := World.cells?_some (hrow 0 hcap).2
              have hks0 : 0 < (rowV ks (row 0)).length := by rw [h0.2.1]; omega
              have hc0 : w.cell? a = some (rowV ks (row 0))[0] := by
                have := h0.2.2 0 (by omega)
                rw [List.getElem?_eq_getElem hks0] at this
                rw [← this, Nat.zero_mul]
                simp [Addr.add]
              have hsp' : a.spot = none ∧ ∃ cs e fr, w.heap[a.block]? = some (.cells cs e fr) := by
                unfold World.cell? at hc0
                cases hh : w.heap[a.block]? with
                | none => simp [hh] at hc0
                | some o =>
                  cases o with
                  | cells c' e' fr =>
                    simp only [hh] at hc0
                    cases hs : a.spot with
                    | none => exact ⟨rfl, _, _, _, rfl⟩
                    | some q => simp [hs] at hc0
                  | _ => simp [hh] at hc0
              refine ⟨hsp'.1, hsp'.2, fun i j hi hj => ?_⟩
              have h1 := World.cells?_some (hrow i (by omega)).2
              have h2 := h1.2.2 j (by omega)
              have h3 : ((List.range len).map row).getD i [] = row i := by simp [List.getD, hi]
              rw [h3, ← h2]
              obtain ⟨ab, ao, asp⟩ := a
              obtain rfl : asp = none := hsp'.1
              rw [addr_add, addr_add, hc.1, Nat.add_assoc]
    case h_4 fs ht =>
      split at h
      case h_2 => cases h
      case h_1 l' hl' =>
        split at h
        case isFalse => cases h
        case isTrue hc =>
          obtain rfl := (Option.some.inj h).symm
          obtain ⟨xs, m, _, _, hlen, hxs, hf⟩ := DataW.trod_struct ht hx
          have := catK_open (n := m) (cs := cs) (fun t l cs' y h1 h2 => ih t l m cs' y h1 h2) fs.toList 0 l hl' (fun f hf' => by
            obtain ⟨i, hi⟩ := List.mem_iff_getElem?.1 hf'
            have hi' : fs[i]? = some f := by simpa using hi
            have hlt : i < xs.length := by have := (Array.getElem?_eq_some_iff.1 hi').1; omega
            exact ⟨xs[i], by rw [hf i f hi', List.getElem?_eq_getElem hlt]⟩) (by omega)
          simpa using this
    case h_5 m e ht =>
      split at h
      case h_2 => cases h
      case h_1 le hle =>
        split at h
        case isFalse => cases h
        case isTrue hc =>
          obtain rfl := (Option.some.inj h).symm
          obtain ⟨xs, q, _, _, hlen, hxs, hf⟩ := DataW.trod_array ht hx
          have key : ∀ (k i : Nat), i + k = m → AllO w (repK k le) (cs.drop (i * P.cellsOf e)) := by
            intro k
            induction k with
            | zero =>
              intro i hi
              refine List.drop_eq_nil_of_le ?_
              have : ∀ k, (repK k le).length = k * le.length := by
                intro k; induction k with
                | zero => simp [repK]
                | succ k ih => simp [repK, ih, Nat.succ_mul, Nat.add_comm]
              rw [hlen, ← hc.2, this m, hc.1]
              simp at hi; rw [hi]; exact Nat.le_refl _
            | succ k ihk =>
              intro i hi
              have h1 := ih e le q _ _ hle ((hf i (by omega)).trans (List.getElem?_eq_getElem (by omega)))
              have h2 := ihk (i + 1) (by omega)
              have := h1.append h2
              rwa [Nat.succ_mul, ← List.drop_drop, List.take_append_drop] at this
          simpa using key m 0 (by omega)
    case h_6 => cases h
end
end Go.AW

/- The engine, 28: what comes in, as a state: a law of any plain parameters. -/
namespace Go.AW
open Go
set_option linter.unusedVariables false
set_option linter.unusedSimpArgs false

/-- **WHAT MAY COME IN**: a slice's rows are the object of its place -/
inductive ArgC : Nat → List PK → List AV → List Ob → Prop
  | nil {p : Nat} : ArgC p [] [] []
  | int {p : Nat} {k : IntKind} {n : Int} {l : List PK} {avs : List AV} {obs : List Ob} : (Lit.int k n).wf = true → ArgC p l avs obs → ArgC p (.flat (.ik k) :: l) (.int k n :: avs) obs
  | bool {p : Nat} {b : Bool} {l : List PK} {avs : List AV} {obs : List Ob} : ArgC p l avs obs → ArgC p (.flat .bl :: l) (.bool b :: avs) obs
  | nils {p : Nat} {e : TypeId} {ks : List CK} {l : List PK} {avs : List AV} {obs : List Ob} : ArgC (p + 1) l avs obs → ArgC p (.sl e ks :: l) (.nils :: avs) (.dead :: obs)
  | sl0 {p : Nat} {e : TypeId} {ks : List CK} {l : List PK} {avs : List AV} {obs : List Ob} : ArgC (p + 1) l avs obs → ArgC p (.sl e ks :: l) (.sl0 :: avs) (.dead :: obs)
  | sl {p : Nat} {e : TypeId} {ks : List CK} {rows : List (List Int)} {l : List PK} {avs : List AV} {obs : List Ob} : rows.length ≤ maxLen → (∀ r ∈ rows, fitK ks r) → ArgC (p + 1) l avs obs →
      ArgC p (.sl e ks :: l) (.sl p 0 rows.length none :: avs) (.row false e ks rows :: obs)

theorem open_cells {w : World} : ∀ {l : List PK} {cs : List Value} (p : Nat), AllO w l cs →
    ∃ (avs : List AV) (obs : List Ob) (ms : List MA), ArgC p l avs obs ∧ ms.length = obs.length ∧ (∀ ob ∈ obs, ob.own = false) ∧ (∀ (i : Nat) (ob : Ob) (m : MA), obs[i]? = some ob → ms[i]? = some m → ∀ D μ, OR D μ w m ob) ∧
      ∀ (D : Nat → Prop) (μ : MM), (∀ (i : Nat) (m : MA), ms[i]? = some m → μ (p + i) = m) → (∀ (i : Nat) (ob : Ob), obs[i]? = some ob → ob ≠ .dead → D (p + i)) → VRL D μ avs cs
  | [], cs, p, h => ⟨[], [], [], .nil, rfl, by simp, by simp, fun D μ _ _ => by rw [show cs = [] from h]; simp [VRL]⟩
  | k :: l, cs, p, h => by
    obtain ⟨c, r, rfl, hc, h⟩ := h
    cases k with
    | flat q =>
      obtain ⟨avs, obs, ms, h1, h2, h3, h4, h5⟩ := open_cells p h
      cases q with
      | ik kd =>
        obtain ⟨n, rfl, hw⟩ := hc
        exact ⟨_, obs, ms, .int hw h1, h2, h3, h4, fun D μ hm hd => by simp only [VRL]; exact ⟨_, _, rfl, by simp [VR], h5 D μ hm hd⟩⟩
      | bl =>
        obtain ⟨b, rfl⟩ := hc
        exact ⟨.bool b :: avs, obs, ms, .bool h1, h2, h3, h4, fun D μ hm hd => by simp only [VRL]; exact ⟨_, _, rfl, by simp [VR], h5 D μ hm hd⟩⟩
    | sl e ks =>
      obtain ⟨avs, obs, ms, h1, h2, h3, h4, h5⟩ := open_cells (p + 1) h
      have shift : ∀ {α : Type} {x : α} {xs : List α} {Q : Nat → α → Prop}, (∀ (i : Nat) (a : α), (x :: xs)[i]? = some a → Q i a) → ∀ (i : Nat) (a : α), xs[i]? = some a → Q (i + 1) a :=
        fun hq i a hi => hq (i + 1) a (by simpa using hi)
      have dead : ∀ (v : AV), (∀ D μ, VR D μ v c) → ArgC p (.sl e ks :: l) (v :: avs) (.dead :: obs) → ∃ (avs : List AV) (obs : List Ob) (ms : List MA), ArgC p (.sl e ks :: l) avs obs ∧ ms.length = obs.length ∧ (∀ ob ∈ obs, ob.own = false) ∧ (∀ (i : Nat) (ob : Ob) (m : MA), obs[i]? = some ob → ms[i]? = some m → ∀ D μ, OR D μ w m ob) ∧
          ∀ (D : Nat → Prop) (μ : MM), (∀ (i : Nat) (m : MA), ms[i]? = some m → μ (p + i) = m) → (∀ (i : Nat) (ob : Ob), obs[i]? = some ob → ob ≠ .dead → D (p + i)) → VRL D μ avs (c :: r) := by
        intro v hv ha
        refine ⟨_, _, default :: ms, ha, by simp [h2], ?_, ?_, fun D μ hm hd => ?_⟩
        · intro ob hob
          rcases List.mem_cons.1 hob with rfl | hob
          · rfl
          · exact h3 ob hob
        · intro i ob m hi hm D μ
          cases i with
          | zero => simp at hi; subst hi; simp [OR]
          | succ i => exact h4 i ob m (by simpa using hi) (by simpa using hm) D μ
        · simp only [VRL]
          refine ⟨_, _, rfl, hv D μ, h5 D μ (fun i m hi => ?_) (fun i ob hi hnd => ?_)⟩
          · rw [show p + 1 + i = p + (i + 1) by omega]; exact shift hm i m hi
          · rw [show p + 1 + i = p + (i + 1) by omega]; exact shift hd i ob hi hnd
      rcases hc with rfl | ⟨a, len, cap, rows, rfl, hlc, hcm, hrl, hfit, hcap⟩
      · exact dead .nils (fun D μ => by simp [VR]) (.nils h1)
      · rcases Nat.eq_zero_or_pos cap with rfl | hpos
        · have hl0 : len = 0 := by omega
          subst hl0
          exact dead .sl0 (fun D μ => by simp [VR]) (.sl0 h1)
        · obtain ⟨hspot, hblk, hcells⟩ := hcap hpos
          obtain ⟨ab, ao, asp⟩ := a
          obtain rfl : asp = none := hspot
          subst hrl
          refine ⟨_, _, ⟨ab, ao, ks.length, cap⟩ :: ms, .sl (by omega) hfit h1, by simp [h2], ?_, ?_, fun D μ hm hd => ?_⟩
          · intro ob hob
            rcases List.mem_cons.1 hob with rfl | hob
            · rfl
            · exact h3 ob hob
          · intro i ob m hi hm D μ
            cases i with
            | zero =>
              simp at hi hm
              subst hi hm
              simp only [OR]
              exact ⟨trivial, hlc, hblk, hcells⟩
            | succ i => exact h4 i ob m (by simpa using hi) (by simpa using hm) D μ
          · simp only [VRL]
            refine ⟨_, _, rfl, ?_, h5 D μ (fun i m hi => ?_) (fun i ob hi hnd => ?_)⟩
            · have h0 := hm 0 _ rfl
              simp only [Nat.add_zero] at h0
              simp only [VR]
              refine ⟨by simpa using hd 0 _ rfl (by simp), cap, _, rfl, fun _ => by rw [h0]; simp, hlc, by rw [h0]; simp, by rw [h0]; simp⟩
            · rw [show p + 1 + i = p + (i + 1) by omega]; exact shift hm i m hi
            · rw [show p + 1 + i = p + (i + 1) by omega]; exact shift hd i ob hi hnd

/-- single cells, and structs and arrays -/
def groupK : List (Option Nat) → List AV → List AV
  | [], _ => []
  | none :: r, v :: l => v :: groupK r l
  | none :: _, [] => []
  | some n :: r, l => .agg (l.take n) :: groupK r (l.drop n)

inductive ArgV (w : World) : List (Option Nat) → List PK → List Value → Prop
  | nil : ArgV w [] [] []
  | one {k : PK} {v : Value} {gs : List (Option Nat)} {l : List PK} {vs : List Value} : CellO w k v → ArgV w gs l vs → ArgV w (none :: gs) (k :: l) (v :: vs)
  | agg {l1 : List PK} {cs : List Value} {gs : List (Option Nat)} {l : List PK} {vs : List Value} : AllO w l1 cs → ArgV w gs l vs → ArgV w (some l1.length :: gs) (l1 ++ l) (.agg cs.toArray :: vs)

theorem ArgV.cells {w : World} {gs : List (Option Nat)} {l : List PK} {vs : List Value} (h : ArgV w gs l vs) : ∃ cs, AllO w l cs ∧ ∀ D μ avs, VRL D μ avs cs → VRL D μ (groupK gs avs) vs := by
  induction h with
  | nil => exact ⟨[], rfl, fun D μ avs hv => by cases avs <;> simp [VRL, groupK] at hv ⊢⟩
  | one hc _ ih =>
    obtain ⟨cs, h1, h2⟩ := ih
    refine ⟨_ :: cs, ⟨_, _, rfl, hc, h1⟩, fun D μ avs hv => ?_⟩
    cases avs with
    | nil => simp [VRL] at hv
    | cons a avs =>
      simp only [VRL] at hv
      obtain ⟨v, r, e, hv1, hv2⟩ := hv
      cases e
      simp only [groupK, VRL]
      exact ⟨_, _, rfl, hv1, h2 D μ avs hv2⟩
  | @agg l1 cs1 gs l vs hc _ ih =>
    obtain ⟨cs, h1, h2⟩ := ih
    refine ⟨cs1 ++ cs, hc.append h1, fun D μ avs hv => ?_⟩
    have hl := hc.length
    simp only [groupK, VRL]
    refine ⟨_, _, rfl, ?_, h2 D μ _ ?_⟩
    · simp only [VR]
      refine ⟨cs1, rfl, ?_⟩
      have := hv.take cs1.length
      rw [List.take_left] at this
      rwa [hl] at this
    · have := hv.drop cs1.length
      rw [List.drop_left] at this
      rwa [hl] at this

/-- **A LAW OF ANY PLAIN PARAMETERS RETURNS TRUE, AND LEAVES WHAT CAME IN.** -/
theorem law_open {P : Program} {f : FuncId} {w : World} {gs : List (Option Nat)} {l : List PK} {vs : List Value} (hb : ∃ fn, P.funcs[f]? = some fn ∧ fn.body.isNone = false ∧ (fn.name == "runtime.NumGoroutine") = false) (ha : ArgV w gs l vs)
    (h : ∀ avs obs, ArgC 0 l avs obs → AC P f (groupK gs avs) obs fun r _ => r = .bool true) : Calls P f vs.toArray w fun e w' => e = .returned (.bool true) ∧ Fr (fun _ => False) w w' := by
  obtain ⟨cs, h1, h2⟩ := ha.cells
  obtain ⟨avs, obs, ms, h3, h4, h5, h6, h7⟩ := open_cells 0 h1
  let μ : MM := fun i => ms.getD i default
  have hμ : ∀ (i : Nat) (m : MA), ms[i]? = some m → μ (0 + i) = m := fun i m hi => by simp [μ, List.getD, hi]
  have hrel : Rel μ obs w := by
    refine ⟨fun i ob hi => ?_, fun i i' ob ob' hi hi' hne hw hd => ?_⟩
    · have hlt := (List.getElem?_eq_some_iff.1 hi).1
      have hm : ms[i]? = some ms[i] := List.getElem?_eq_getElem (by omega)
      have := h6 i ob _ hi hm (Live obs) μ
      rw [← hμ i _ hm] at this
      simpa using this
    · rw [h5 ob (List.mem_of_getElem? hi)] at hw; cases hw
  have hargs := h2 (Live obs) μ avs (h7 (Live obs) μ hμ fun i ob hi hnd => by simpa using ⟨ob, hi, hnd⟩)
  refine (Ran.calls hb ((h avs obs h3).of μ vs.toArray w (fun _ => False) hrel (by simpa using hargs) (fun b hb => hb) (fun b hb => hb.elim))).mono ?_
  rintro e w' ⟨r, s', x', μ', B', v, rfl, rfl, hv, hrel', hI, haf⟩
  refine ⟨by simp only [VR] at hv; rw [hv], haf.fr.mono fun b _ hb => ?_⟩
  rcases hb with ⟨i, o, ho, hw, _⟩ | hb
  · rw [h5 o (List.mem_of_getElem? ho)] at hw; cases hw
  · exact hb

/-! ### one parameter, by the row's own facts -/
section
variable {H : Type} {enc : TypeId × Value → H} {P : Program} {w : World} {base b0 : Nat} {held : Bool} {r : Reach} {t : TypeId} {v : Value} {d : DataW H} {ps : List MemPlace}

theorem arg_one {k : PK} (n : Nat) (hk : kindsK P n t = some [k]) (hu : ∀ fs, P.underlying t ≠ some (.struct fs)) (hu' : ∀ m e, P.underlying t ≠ some (.array m e))
    (hval : Value.okWide P w r b0 t v) (hd : DataW.Trod enc P w base (fun _ => true) held t v d ps) : CellO w k v := by
  obtain ⟨m, hm⟩ := hd
  obtain ⟨c, rest, hc, h1, h2⟩ := open_kinds n t _ m _ _ hk hm
  obtain rfl : rest = [] := h2
  have hv : ∀ cs, v ≠ .agg cs := by
    rintro cs rfl
    cases n with
    | zero => simp [kindsK] at hk
    | succ n =>
      simp only [kindsK] at hk
      split at hk
      case h_1 ht => obtain ⟨b, hb⟩ := WideShapes.okWide_bool ht hval; cases hb
      case h_2 q ht => obtain ⟨b, hb⟩ := WideShapes.okWide_int ht hval; cases hb
      case h_3 e ht => obtain ⟨_, _, _, hb⟩ := WideShapes.okWide_slice ht hval; cases hb
      case h_4 fs ht => exact hu fs ht
      case h_5 q e ht => exact hu' q e ht
      case h_6 => cases hk
  have hcells : v.cells = #[v] := by cases v <;> first | rfl | exact absurd rfl (hv _)
  rw [hcells] at hc
  obtain rfl : v = c := by simpa using hc
  exact h1

theorem arg_struct {l : List PK} (n : Nat) (hk : kindsK P n t = some l) {fs : Array Field} (hu : P.underlying t = some (.struct fs))
    (hval : Value.okWide P w r b0 t v) (hd : DataW.Trod enc P w base (fun _ => true) held t v d ps) : ∃ cs : List Value, v = .agg cs.toArray ∧ AllO w l cs := by
  obtain ⟨m, hm⟩ := hd
  obtain ⟨cs, rfl, _⟩ := WideShapes.okWide_struct hu hval
  exact ⟨cs.toList, rfl, open_kinds n t _ m _ _ hk hm⟩

theorem arg_array {l : List PK} (n : Nat) (hk : kindsK P n t = some l) {q : Nat} {e : TypeId} (hu : P.underlying t = some (.array q e))
    (hval : Value.okWide P w r b0 t v) (hd : DataW.Trod enc P w base (fun _ => true) held t v d ps) : ∃ cs : List Value, v = .agg cs.toArray ∧ AllO w l cs := by
  obtain ⟨m, hm⟩ := hd
  simp only [Value.okWide, hu] at hval
  obtain ⟨cs, rfl, _⟩ := hval
  exact ⟨cs.toList, rfl, open_kinds n t _ m _ _ hk hm⟩
end

theorem same_of {w w' : World} (h : Fr (fun _ => False) w w') {p : MemPlace} (hp : p.block < w.heap.size) : w.sameAt w' p := by
  cases p with
  | cell b off =>
    have := h.block b hp (fun f => f)
    show w'.cell? ⟨b, off, none⟩ = w.cell? ⟨b, off, none⟩
    unfold World.cell?
    rw [this]
  | map b => exact h.block b hp (fun f => f)
end Go.AW

/- The engine, 29: a range over a function: what the loop's body sees of the caller's store, and what the function that is ranged over does. -/
namespace Go.AW
open Go
set_option linter.unusedVariables false
set_option linter.unusedSimpArgs false

/-! ### values that bear some ids alone -/
mutual
def AV.only (p : Nat → Bool) : AV → Bool
  | .ptr i _ _ => p i
  | .sl i _ _ _ => p i
  | .agg l => AV.onlyL p l
  | .tup l => AV.onlyL p l
  | .fn _ a b => AV.onlyL p a && AV.onlyL p b
  | .iface _ v => AV.only p v
  | _ => true
def AV.onlyL (p : Nat → Bool) : List AV → Bool
  | [] => true
  | v :: r => AV.only p v && AV.onlyL p r
end

mutual
theorem VR.only {D D' : Nat → Prop} {μ μ' : MM} {p : Nat → Bool} (hD : ∀ j, p j = true → D j → D' j ∧ μ' j = μ j) : ∀ {a : AV} {v : Value}, a.only p = true → VR D μ a v → VR D' μ' a v
  | .junk, _, _, _ => by simp [VR]
  | .bool _, _, _, h => by simpa only [VR] using h
  | .int _ _, _, _, h => by simpa only [VR] using h
  | .str _, _, _, h => by simpa only [VR] using h
  | .agg l, _, hf, h => by
    simp only [VR] at h ⊢
    obtain ⟨cs, e, h⟩ := h
    exact ⟨cs, e, VRL.only hD (by simpa only [AV.only] using hf) h⟩
  | .arr _ _, _, _, h => by simpa only [VR] using h
  | .tup l, _, hf, h => by
    simp only [VR] at h ⊢
    obtain ⟨cs, e, h⟩ := h
    exact ⟨cs, e, VRL.only hD (by simpa only [AV.only] using hf) h⟩
  | .nilp, _, _, h => by simpa only [VR] using h
  | .ptr id _ _, _, hf, h => by
    simp only [VR] at h ⊢
    obtain ⟨h1, h2⟩ := h
    have hp := hD id (by simpa only [AV.only] using hf) h1
    rw [hp.2]
    exact ⟨hp.1, h2⟩
  | .nils, _, _, h => by simpa only [VR] using h
  | .sl0, _, _, h => by simpa only [VR] using h
  | .sl id _ _ _, _, hf, h => by
    simp only [VR] at h ⊢
    obtain ⟨h1, h2⟩ := h
    have hp := hD id (by simpa only [AV.only] using hf) h1
    rw [hp.2]
    exact ⟨hp.1, h2⟩
  | .fn _ a b, _, hf, h => by
    simp only [VR] at h ⊢
    simp only [AV.only, Bool.and_eq_true] at hf
    obtain ⟨as, bs, e, h1, h2⟩ := h
    exact ⟨as, bs, e, VRL.only hD hf.1 h1, VRL.only hD hf.2 h2⟩
  | .yld _, _, _, h => by simpa only [VR] using h
  | .nilf, _, _, h => by simpa only [VR] using h
  | .nili, _, _, h => by simpa only [VR] using h
  | .iface _ v, _, hf, h => by
    simp only [VR] at h ⊢
    obtain ⟨u, e, h⟩ := h
    exact ⟨u, e, VR.only hD (by simpa only [AV.only] using hf) h⟩
theorem VRL.only {D D' : Nat → Prop} {μ μ' : MM} {p : Nat → Bool} (hD : ∀ j, p j = true → D j → D' j ∧ μ' j = μ j) : ∀ {l : List AV} {vs : List Value}, AV.onlyL p l = true → VRL D μ l vs → VRL D' μ' l vs
  | [], _, _, h => by simpa only [VRL] using h
  | a :: l, _, hf, h => by
    simp only [VRL] at h ⊢
    simp only [AV.onlyL, Bool.and_eq_true] at hf
    obtain ⟨v, r, e, h1, h2⟩ := h
    exact ⟨v, r, e, VR.only hD hf.1 h1, VRL.only hD hf.2 h2⟩
end

def Ob.only (p : Nat → Bool) : Ob → Bool
  | .cells _ c => AV.onlyL p c
  | _ => true

theorem OR.only {D D' : Nat → Prop} {μ μ' : MM} {p : Nat → Bool} (hD : ∀ j, p j = true → D j → D' j ∧ μ' j = μ j) {w : World} {m : MA} : ∀ {ob : Ob}, ob.only p = true → OR D μ w m ob → OR D' μ' w m ob
  | .dead, _, _ => by simp [OR]
  | .cells sz c, hf, h => by
    simp only [OR] at h ⊢
    obtain ⟨h1, h2, cs, e, h3, h4⟩ := h
    exact ⟨h1, h2, cs, e, h3, h4.only hD (by simpa only [Ob.only] using hf)⟩
  | .row true e ks l, _, h => by simpa only [OR] using h
  | .row false e ks l, _, h => by simpa only [OR] using h

/-! ### the store, parted in two -/
def pickOb : List Bool → List Ob → List Ob
  | _, [] => []
  | [], _ :: s => .dead :: pickOb [] s
  | b :: m, o :: s => cond b o .dead :: pickOb m s
def leaveOb : List Bool → List Ob → List Ob
  | _, [] => []
  | [], o :: s => o :: leaveOb [] s
  | b :: m, o :: s => cond b .dead o :: leaveOb m s
def gone (m : List Bool) (i : Nat) : Bool := m.getD i false
def left (m : List Bool) (i : Nat) : Bool := !(m.getD i false)

theorem pick_get : ∀ (m : List Bool) (s : List Ob) (i : Nat), (pickOb m s)[i]? = s[i]?.map fun o => cond (gone m i) o .dead
  | _, [], i => by simp [pickOb]
  | [], o :: s, 0 => by simp [pickOb, gone]
  | [], o :: s, i + 1 => by simpa [pickOb, gone] using pick_get [] s i
  | b :: m, o :: s, 0 => by simp [pickOb, gone]
  | b :: m, o :: s, i + 1 => by simpa [pickOb, gone] using pick_get m s i
theorem leave_get : ∀ (m : List Bool) (s : List Ob) (i : Nat), (leaveOb m s)[i]? = s[i]?.map fun o => cond (gone m i) .dead o
  | _, [], i => by simp [leaveOb]
  | [], o :: s, 0 => by simp [leaveOb, gone]
  | [], o :: s, i + 1 => by simpa [leaveOb, gone] using leave_get [] s i
  | b :: m, o :: s, 0 => by simp [leaveOb, gone]
  | b :: m, o :: s, i + 1 => by simpa [leaveOb, gone] using leave_get m s i
theorem length_pick : ∀ (m : List Bool) (s : List Ob), (pickOb m s).length = s.length
  | _, [] => by simp [pickOb]
  | [], _ :: s => by simp [pickOb, length_pick [] s]
  | _ :: m, _ :: s => by simp [pickOb, length_pick m s]
theorem length_leave : ∀ (m : List Bool) (s : List Ob), (leaveOb m s).length = s.length
  | _, [] => by simp [leaveOb]
  | [], _ :: s => by simp [leaveOb, length_leave [] s]
  | _ :: m, _ :: s => by simp [leaveOb, length_leave m s]

theorem live_pick {m : List Bool} {s : List Ob} {i : Nat} : Live (pickOb m s) i ↔ Live s i ∧ gone m i = true := by
  unfold Live
  rw [pick_get]
  cases hs : s[i]? with
  | none => simp
  | some o => cases hg : gone m i <;> simp
theorem live_leave {m : List Bool} {s : List Ob} {i : Nat} : Live (leaveOb m s) i ↔ Live s i ∧ gone m i = false := by
  unfold Live
  rw [leave_get]
  cases hs : s[i]? with
  | none => simp
  | some o => cases hg : gone m i <;> simp

/-- both parts, together again: what comes back bears ids of those that went alone -/
def mergeK (p : Nat → Bool) : List Bool → List Ob → List Ob → (List Ob → Prop) → Prop
  | [], _, s2, k => k s2
  | b :: m, o1 :: s1, o2 :: s2, k => cond b (andK (o1.only p) (mergeK p m s1 s2 fun r => k (o1 :: r))) (mergeK p m s1 s2 fun r => k (o2 :: r))
  | _ :: _, [], _, _ => False
  | _ :: _, _ :: _, [], _ => False

theorem mergeK_ex (p : Nat → Bool) : ∀ (m : List Bool) (s1 s2 : List Ob) (k : List Ob → Prop), mergeK p m s1 s2 k → ∃ r, k r ∧ ∀ i, r[i]? = (if gone m i then s1[i]? else s2[i]?) ∧ (gone m i = true → ∀ o, s1[i]? = some o → o.only p = true)
  | [], s1, s2, k, h => ⟨s2, h, fun i => by simp [gone]⟩
  | b :: m, [], s2, k, h => h.elim
  | b :: m, _ :: _, [], k, h => h.elim
  | b :: m, o1 :: s1, o2 :: s2, k, h => by
    simp only [mergeK] at h
    rcases (cond_iff _ _ _).1 h with ⟨rfl, h⟩ | ⟨rfl, h⟩
    · obtain ⟨ho, h⟩ := (andK_iff _ _).1 h
      obtain ⟨r, hk, hr⟩ := mergeK_ex p m s1 s2 _ h
      refine ⟨_, hk, fun i => ?_⟩
      cases i with
      | zero => simpa [gone] using ho
      | succ i => simpa [gone] using hr i
    · obtain ⟨r, hk, hr⟩ := mergeK_ex p m s1 s2 _ h
      refine ⟨_, hk, fun i => ?_⟩
      cases i with
      | zero => simp [gone]
      | succ i => simpa [gone] using hr i

/-- the caller's temporaries, without what bears other ids -/
def leaveT (p : Nat → Bool) : List AV → List AV
  | [] => []
  | v :: l => cond (v.only p) v .junk :: leaveT p l

theorem VRL.leave {D D' : Nat → Prop} {μ : MM} {p : Nat → Bool} (hD : ∀ j, p j = true → D j → D' j) : ∀ {l : List AV} {vs : List Value}, VRL D μ l vs → VRL D' μ (leaveT p l) vs
  | [], _, h => by simpa only [VRL, leaveT] using h
  | a :: l, _, h => by
    simp only [VRL, leaveT] at h ⊢
    obtain ⟨v, r, e, h1, h2⟩ := h
    refine ⟨v, r, e, ?_, h2.leave hD⟩
    cases hp : a.only p
    · simp [VR]
    · exact h1.only (fun j hj hd => ⟨hD j hj hd, rfl⟩) hp

/-! ### what the caller keeps while the function runs -/
def exitCode : AExit → Code
  | .normal => .skip
  | .exit id => .exit id
  | .goto l => .goto l
  | .ret => .ret

def loopOb (fn : FuncId) (tmps : Array Value) (ps : Array Tmp) (assign body : Code) (db : Nat) (p : Option AExit) : Obj :=
  .loop { state := if p.isNone then .ready else .done, pending := p.map exitCode, fn, tmps, params := ps, assign, body, defers := db }

structure RI (s0 : List Ob) (μ0 : MM) (w0 : World) (rc : Option AExit → Obj) (x : List Ob × Option AExit) (B : Nat → Prop) (w : World) (μ : MM) : Prop where
  rel : Rel μ x.1 w
  b : ∀ b, B b ↔ (LV μ x.1 b ∨ b = w0.heap.size + 1 ∨ b = w0.heap.size)
  agree : ∀ i, i < s0.length → μ i = μ0 i
  keep : ∀ i, Live s0 i → Live x.1 i
  dead : ∀ i : Nat, s0[i]? = some .dead → x.1[i]? = some .dead
  len : s0.length ≤ x.1.length
  since : ∀ b, b < w0.heap.size → LV μ0 s0 b → ¬ RW μ0 s0 b → w.heap[b]? = w0.heap[b]?
  rw : ∀ b, RW μ x.1 b → RW μ0 s0 b ∨ w0.heap.size ≤ b
  lv : ∀ b, LV μ x.1 b → LV μ0 s0 b ∨ w0.heap.size ≤ b
  rc : w.heap[w0.heap.size + 1]? = some (rc x.2)
  df : w.heap[w0.heap.size]? = some (.deferred (some []))

theorem RI.lv0 {s0 : List Ob} {μ0 : MM} {w0 : World} {rc : Option AExit → Obj} {x : List Ob × Option AExit} {B : Nat → Prop} {w : World} {μ : MM} (h : RI s0 μ0 w0 rc x B w μ) {b : Nat} (hb : LV μ0 s0 b) : LV μ x.1 b := by
  obtain ⟨i, o, h1, h2, rfl⟩ := hb
  have hl : Live s0 i := ⟨o, h1, h2⟩
  obtain ⟨o', h3, h4⟩ := h.keep i hl
  exact ⟨i, o', h3, h4, by rw [h.agree i hl.lt]⟩

theorem Fr.blk {R : Nat → Prop} {w w' : World} (h : Fr R w w') {k : Nat} {o : Obj} (hk : w.heap[k]? = some o) (hn : ¬ R k) : w'.heap[k]? = some o := by
  rw [h.block k (Array.getElem?_eq_some_iff.1 hk).1 hn, hk]

def RO (s0 : List Ob) (μ0 : MM) (w0 : World) (rc : Option AExit → Obj) : Outer (List Ob × Option AExit) where
  I x B w := ∃ μ, RI s0 μ0 w0 rc x B w μ
  keep := by
    rintro x B w w' R ⟨μ, h⟩ hfr hB
    refine ⟨μ, h.rel.block fun i o hi hd => ?_, h.b, h.agree, h.keep, h.dead, h.len, fun b hb hl hr => ?_, h.rw, h.lv, hfr.blk h.rc (hB _ ((h.b _).2 (.inr (.inl rfl)))), hfr.blk h.df (hB _ ((h.b _).2 (.inr (.inr rfl))))⟩
    · exact hfr.block _ (h.rel.lt hi hd) (hB _ ((h.b _).2 (.inl ⟨i, o, hi, hd, rfl⟩)))
    · have hl' := h.lv0 hl
      obtain ⟨i, o, hi, hd, rfl⟩ := hl'
      rw [hfr.block _ (h.rel.lt hi hd) (hB _ ((h.b _).2 (.inl ⟨i, o, hi, hd, rfl⟩)))]
      exact h.since _ hb hl hr
  bound := by
    rintro x B w b ⟨μ, h⟩ hb
    rcases (h.b b).1 hb with hl | rfl | rfl
    · obtain ⟨i, o, hi, hd, rfl⟩ := hl
      exact h.rel.lt hi hd
    · exact (Array.getElem?_eq_some_iff.1 h.rc).1
    · exact (Array.getElem?_eq_some_iff.1 h.df).1

/-! ### a round -/
def setPs : List Tmp → List AV → List AV → (List AV → Prop) → Prop
  | [], [], t, k => k t
  | p :: ps, v :: vs, t, k => setK t p v fun t' => setPs ps vs t' k
  | _, _, _, _ => False

theorem setPs_sound {D : Nat → Prop} {μ : MM} : ∀ (ps : List Tmp) (args : List AV) (t : List AV) (k : List AV → Prop) (tm : Array Value) (cargs : List Value), setPs ps args t k → VRL D μ t tm.toList → VRL D μ args cargs →
    cargs.length = ps.length ∧ ∃ t', k t' ∧ VRL D μ t' ((ps.zip cargs).foldl (fun tmps x => tmps.setIfInBounds x.1 x.2) tm).toList
  | [], [], t, k, tm, cargs, h, ht, ha => by
    simp only [VRL] at ha
    subst ha
    exact ⟨rfl, t, h, by simpa using ht⟩
  | [], _ :: _, t, k, tm, cargs, h, ht, ha => h.elim
  | _ :: _, [], t, k, tm, cargs, h, ht, ha => h.elim
  | p :: ps, v :: vs, t, k, tm, cargs, h, ht, ha => by
    simp only [VRL] at ha
    obtain ⟨c, cs, rfl, hc, hcs⟩ := ha
    simp only [setPs] at h
    rw [setK_iff] at h
    obtain ⟨h1, t', h2, h3⟩ := setPs_sound ps vs (t.set p v) k (tm.setIfInBounds p c) cs h (by simpa using ht.set p hc) hcs
    exact ⟨by simp [h1], t', h2, by simpa using h3⟩

structure YR (P : Program) (T : TT) (n0 : Nat) (t0 : List AV) (ps : List Tmp) (assign body : Code) (l : Nat) (O : Outer (List Ob × Option AExit)) : Prop where
  yield : ∀ (N : Nat) {s : List Ob} {args : List AV} {Q : Bool → List Ob × Option AExit → Prop}, 
    (setPs ps args t0 fun t => awp P Outer.none T n0 (some l) N assign t s () fun e t1 s1 _ => match e with
      | .normal => awp P Outer.none T n0 (some l) N body t1 s1 () fun e t2 s2 _ => match e with
        | .normal => Q true (s2, none)
        | e => Q false (s2, some e)
      | _ => False) → AV.flat.flatL args = true → AY P O l args (s, none) Q

theorem Fr.putObj {w : World} {l : Nat} {o : Obj} (ho : ∀ cs e fr, o ≠ .cells cs e fr) : Fr (fun k => k = l) w (w.putObj l o) :=
  ⟨rfl, rfl, rfl, by simp, fun k _ hk => World.putObj_heap_other hk, fun a ha => frozen_putObj ho a ha⟩

theorem loopOb_nc (fn : FuncId) (tmps : Array Value) (ps : Array Tmp) (assign body : Code) (db : Nat) (p : Option AExit) : ∀ cs e fr, loopOb fn tmps ps assign body db p ≠ .cells cs e fr := by
  intro cs e fr h; cases h

theorem yr_ro {P : Program} {T : TT} (hT : TOk P T) {s0 : List Ob} {μ0 : MM} {w0 : World} {fn : FuncId} {tmps : Array Value} {ps : Array Tmp} {assign body : Code} {t0 : List AV} (hv0 : VRL (Live s0) μ0 t0 tmps.toList) :
    YR P T s0.length t0 ps.toList assign body (w0.heap.size + 1) (RO s0 μ0 w0 (loopOb fn tmps ps assign body w0.heap.size)) := by
  refine ⟨fun N {s args Q} h hfl cargs w B hargs hI => ?_⟩
  obtain ⟨μ, hI⟩ := hI
  generalize hl : w0.heap.size + 1 = l at *
  have hrec : w.heap[l]? = some (loopOb fn tmps ps assign body w0.heap.size none) := by rw [← hl]; exact hI.rc
  have ht : VRL (Live s) μ t0 tmps.toList := hv0.mono fun i hi => ⟨hI.keep i hi, hI.agree i hi.lt⟩
  obtain ⟨hsz, t', h, ht'⟩ := setPs_sound ps.toList args t0 _ tmps cargs.toList h ht (VRL.flat hfl hargs)
  have hsz' : cargs.size = ps.size := by simpa using hsz
  refine ⟨_, _, _, _, run_yield hrec hsz', roundIn_of_wpIn trivial ?_⟩
  have hfold : ((ps.zip cargs).foldl (fun tmps (x : Tmp × Value) => tmps.setIfInBounds x.1 x.2) tmps) = ((ps.toList.zip cargs.toList).foldl (fun tmps (x : Tmp × Value) => tmps.setIfInBounds x.1 x.2) tmps) := by
    rw [← Array.foldl_toList, Array.toList_zip]
  have hsr : SR Outer.none μ t' s () (fun _ => False) { tmps := (ps.zip cargs).foldl (fun tmps (x : Tmp × Value) => tmps.setIfInBounds x.1 x.2) tmps, defers := [] } w :=
    ⟨by rw [hfold]; exact ht', hI.rel, fun b hb => hb, fun b hb => hb.elim⟩
  have nl : ∀ {μ' : MM} {s' : List Ob} {w' : World} {o : Option AExit → Obj}, Rel μ' s' w' → ∀ {r : Loop}, w'.heap[l]? = some (.loop r) → ¬ LV μ' s' l := by
    intro μ' s' w' o hr r hx hlv
    obtain ⟨cs, e, fr, hc⟩ := LV.cells hr hlv
    rw [hx] at hc; cases hc
  have nrw : ∀ {μ' : MM} {s' : List Ob} {w' : World}, Rel μ' s' w' → ∀ {r : Loop}, w'.heap[l]? = some (.loop r) → ¬ RW μ' s' l := by
    intro μ' s' w' hr r hx hlv
    exact nl (o := fun _ => .deferred none) hr hx hlv.lv
  have hw := awp_sound (r := some l) hT assign t' s () _ h hI.len w.heap.size μ (fun _ => False) _ w hsr ⟨Nat.le_refl _, [], rfl, List.nodup_nil, fun k hk => by simp at hk⟩
  refine wpIn_mono hw ?_
  rintro e a1 w1 ⟨ae, t1, s1, x1, μ1, B1, rfl, hk, hs1, haf1, hm1⟩
  cases ae with
  | exit => exact hk.elim
  | goto => exact hk.elim
  | ret => exact hk.elim
  | normal =>
    have hB1 : ∀ b, ¬ B1 b := hs1.out
    have hrec1 : w1.heap[l]? = some (loopOb fn tmps ps assign body w0.heap.size none) := haf1.fr.blk hrec (by rintro (q | q); exact nrw hI.rel hrec q; exact q)
    refine ⟨_, run_beginRound hrec1 rfl, ?_⟩
    generalize hbusy : (Obj.loop _) = ob
    have hnc : ∀ cs e fr, ob ≠ .cells cs e fr := by rw [← hbusy]; intro cs e fr hh; cases hh
    have hlt1 : l < w1.heap.size := (Array.getElem?_eq_some_iff.1 hrec1).1
    have hf1 : Fr (fun k => k = l) w1 (w1.putObj l ob) := Fr.putObj hnc
    have nl1 : ¬ LV μ1 s1 l := nl (o := fun _ => .deferred none) hs1.rel hrec1
    have hrel1 : Rel μ1 s1 (w1.putObj l ob) := hs1.rel.block fun i o hi hd => World.putObj_heap_other fun e => nl1 ⟨i, o, hi, hd, e⟩
    have hsr1 : SR Outer.none μ1 t1 s1 () B1 a1 (w1.putObj l ob) := ⟨hs1.tm, hrel1, hB1, fun b hb => absurd hb (hB1 b)⟩
    have hm1' : Marks w.heap.size B1 a1 (w1.putObj l ob) := by
      obtain ⟨q0, ms, q1, q2, q3⟩ := hm1
      refine ⟨by simpa using q0, ms, q1, q2, fun q hq => ⟨(q3 q hq).1, ?_, hB1 q⟩⟩
      rw [World.putObj_heap_other]
      · exact (q3 q hq).2.1
      · intro e
        have := (q3 q hq).2.1
        rw [e, hrec1] at this
        cases this
    have hw2 := awp_sound (r := some l) hT body t1 s1 () _ hk haf1.len w.heap.size μ1 B1 a1 _ hsr1 hm1'
    refine wpIn_mono hw2 ?_
    rintro e a2 w2 ⟨ae, t2, s2, x2, μ2, B2, rfl, hk2, hs2, haf2, hm2⟩
    have hrec1b : (w1.putObj l ob).heap[l]? = some ob := World.putObj_heap_same hlt1
    have nrw1 : ¬ RW μ1 s1 l := fun hh => nl1 hh.lv
    have hrec2 : w2.heap[l]? = some ob := haf2.fr.blk hrec1b (by rintro (q | q); exact nrw1 q; exact hB1 l q)
    obtain ⟨r2, hr2⟩ : ∃ r2, ob = .loop r2 := ⟨_, hbusy.symm⟩
    have hrec2' : w2.heap[l]? = some (.loop r2) := by rw [hrec2, hr2]
    have nl2 : ¬ LV μ2 s2 l := nl (o := fun _ => .deferred none) hs2.rel hrec2'
    have hlt2 : l < w2.heap.size := (Array.getElem?_eq_some_iff.1 hrec2).1
    have fin : ∀ (p : Option AExit), (∀ e, p = some e → e ≠ .normal) → Q p.isNone (s2, p) → ∃ v w', (Instr.endRound l (p.map exitCode)).run P w2 = .ok v w' ∧
        ∃ b x' B', Q b x' ∧ (Ending.returned v) = .returned (.bool b) ∧ (RO s0 μ0 w0 (loopOb fn tmps ps assign body w0.heap.size)).I x' B' w' ∧ Fr B w w' ∧ ∀ k, B' k → B k ∨ w.heap.size ≤ k := by
      intro p hp hq
      refine ⟨_, _, run_endRound _ hrec2', p.isNone, (s2, p), fun b => LV μ2 s2 b ∨ b = w0.heap.size + 1 ∨ b = w0.heap.size, hq, by cases p <;> rfl, ⟨μ2, ?_⟩, ?_, ?_⟩
      · have hob : (Obj.loop { r2 with state := if (p.map exitCode).isNone then .ready else .done, pending := p.map exitCode }) = loopOb fn tmps ps assign body w0.heap.size p := by
          have : Obj.loop r2 = ob := hr2.symm
          rw [← hbusy] at this
          cases this
          cases p <;> rfl
        have hfr : Fr (fun k => RW μ s k ∨ k = l) w (w2.putObj l (.loop { r2 with state := if (p.map exitCode).isNone then .ready else .done, pending := p.map exitCode })) := by
          rw [hob]
          refine Fr.trans (R' := fun k => RW μ1 s1 k ∨ k = l) (haf1.fr.mono fun k _ hk => hk.elim .inl False.elim) ?_ fun k hkw hk => ?_
          · refine Fr.trans (R' := fun k => RW μ1 s1 k ∨ k = l) (hf1.mono fun k _ hk => .inr hk) ?_ fun k _ hk => hk
            refine Fr.trans (R' := fun k => k = l) (haf2.fr.mono fun k _ hk => hk.elim .inl fun q => absurd q (hB1 k)) (Fr.putObj (loopOb_nc _ _ _ _ _ _ _)) fun k _ hk => .inr hk
          · rcases hk with hk | hk
            · rcases haf1.rw k hk with q | q
              · exact .inl q
              · omega
            · exact .inr hk
        rw [hob] at hfr ⊢
        have hsize : w.heap.size ≤ w2.heap.size := by have := hfr.size; simpa using this
        refine ⟨hs2.rel.block fun i o hi hd => World.putObj_heap_other fun e => nl2 ⟨i, o, hi, hd, e⟩, fun b => Iff.rfl, fun i hi => ?_, fun i hi => ?_, fun i hi => ?_, haf2.len, fun b hb hlv hrw => ?_, fun b hb => ?_, fun b hb => ?_, ?_, ?_⟩
        · rw [haf2.agree i hi, haf1.agree i hi, hI.agree i hi]
        · exact haf2.keep i hi.lt (haf1.keep i hi.lt (hI.keep i hi))
        · have hlt := (List.getElem?_eq_some_iff.1 hi).1
          exact haf2.dead i hlt (haf1.dead i hlt (hI.dead i hi))
        · have hlv' := hI.lv0 hlv
          have hblt : b < w.heap.size := by obtain ⟨i, o, hi, hd, rfl⟩ := hlv'; exact hI.rel.lt hi hd
          rw [hfr.block b hblt ?_]
          · exact hI.since b hb hlv hrw
          · rintro (q | q)
            · rcases hI.rw b q with q' | q'
              · exact hrw q'
              · omega
            · omega
        · rcases haf2.rw b hb with q | q
          · rcases haf1.rw b q with q | q
            · exact hI.rw b q
            · have := hI.rel; have : w0.heap.size < w.heap.size := (Array.getElem?_eq_some_iff.1 hI.df).1; exact .inr (by omega)
          · have h3 := hf1.size; have h4 := haf1.fr.size; have : w0.heap.size < w.heap.size := (Array.getElem?_eq_some_iff.1 hI.df).1; exact .inr (by omega)
        · rcases haf2.lv b hb with q | q
          · rcases haf1.lv b q with q | q
            · exact hI.lv b q
            · have : w0.heap.size < w.heap.size := (Array.getElem?_eq_some_iff.1 hI.df).1; exact .inr (by omega)
          · have h3 := hf1.size; have h4 := haf1.fr.size; have : w0.heap.size < w.heap.size := (Array.getElem?_eq_some_iff.1 hI.df).1; exact .inr (by omega)
        · rw [hl]; exact World.putObj_heap_same hlt2
        · refine hfr.blk hI.df ?_
          rintro (q | q)
          · obtain ⟨cs, e, fr, hc⟩ := RW.cells hI.rel q
            rw [hI.df] at hc; cases hc
          · omega
      · refine Fr.mono (R := fun k => RW μ s k ∨ k = l) ?_ fun k _ hk => ?_
        · refine Fr.trans (R' := fun k => RW μ1 s1 k ∨ k = l) (haf1.fr.mono fun k _ hk => hk.elim .inl False.elim) ?_ fun k hkw hk => ?_
          · refine Fr.trans (R' := fun k => RW μ1 s1 k ∨ k = l) (hf1.mono fun k _ hk => .inr hk) ?_ fun k _ hk => hk
            refine Fr.trans (R' := fun k => k = l) (haf2.fr.mono fun k _ hk => hk.elim .inl fun q => absurd q (hB1 k)) (Fr.putObj (by intro cs e fr hh; cases hh)) fun k _ hk => .inr hk
          · rcases hk with hk | hk
            · rcases haf1.rw k hk with q | q
              · exact .inl q
              · omega
            · exact .inr hk
        · rcases hk with hk | hk
          · exact (hI.b k).2 (.inl hk.lv)
          · exact (hI.b k).2 (.inr (.inl (by omega)))
      · rintro k (hk | hk | hk)
        · rcases haf2.lv k hk with q | q
          · rcases haf1.lv k q with q | q
            · exact .inl ((hI.b k).2 (.inl q))
            · exact .inr q
          · have h3 := hf1.size; have h4 := haf1.fr.size; exact .inr (by omega)
        · exact .inl ((hI.b k).2 (.inr (.inl hk)))
        · exact .inl ((hI.b k).2 (.inr (.inr hk)))
    cases ae with
    | normal => exact fin none (by simp) hk2
    | exit id => exact fin (some (.exit id)) (by simp) hk2
    | goto g => exact fin (some (.goto g)) (by simp) hk2
    | ret => exact fin (some .ret) (by simp) hk2
end Go.AW

/- The engine, 30: a range over a function: the statement. -/
namespace Go.AW
open Go
set_option linter.unusedVariables false
set_option linter.unusedSimpArgs false

theorem Fr.alloc' (R : Nat → Prop) (w : World) (o : Obj) (ho : ∀ cs e fr, o ≠ .cells cs e fr) : Fr R w (w.alloc o) := by
  refine ⟨rfl, rfl, rfl, by rw [World.size_alloc]; omega, fun k hk _ => ?_, fun a ha => ?_⟩
  · show (w.heap.push o)[k]? = _
    rw [Array.getElem?_push, if_neg (by omega)]
  · unfold World.frozen? at ha ⊢
    have : (w.alloc o).heap[a.block]? = (w.heap.push o)[a.block]? := rfl
    rw [this, Array.getElem?_push] at ha
    rcases Nat.lt_or_ge a.block w.heap.size with q | q
    · rw [if_neg (by omega)] at ha; exact ha
    · exfalso
      split at ha
      · rename_i hq
        split at hq
        · exact ho _ _ _ (Option.some.inj hq)
        · rw [Array.getElem?_eq_none q] at hq; cases hq
      · cases ha

theorem gone_left (m : List Bool) (i : Nat) : left m i = !gone m i := rfl

theorem LV.pick {μ : MM} {m : List Bool} {s : List Ob} {b : Nat} (h : LV μ (pickOb m s) b) : LV μ s b := by
  obtain ⟨i, o, h1, h2, rfl⟩ := h
  obtain ⟨o', h3, h4⟩ := (live_pick.1 ⟨o, h1, h2⟩).1
  exact ⟨i, o', h3, h4, rfl⟩
theorem LV.leave {μ : MM} {m : List Bool} {s : List Ob} {b : Nat} (h : LV μ (leaveOb m s) b) : LV μ s b := by
  obtain ⟨i, o, h1, h2, rfl⟩ := h
  obtain ⟨o', h3, h4⟩ := (live_leave.1 ⟨o, h1, h2⟩).1
  exact ⟨i, o', h3, h4, rfl⟩
theorem RW.pick {μ : MM} {m : List Bool} {s : List Ob} {b : Nat} (h : RW μ (pickOb m s) b) : RW μ s b := by
  obtain ⟨i, o, h1, h2, rfl⟩ := h
  rw [pick_get] at h1
  cases hs : s[i]? with
  | none => rw [hs] at h1; simp at h1
  | some o' =>
    rw [hs] at h1
    cases hg : gone m i <;> rw [hg] at h1 <;> simp at h1
    · subst h1; simp [Ob.own] at h2
    · subst h1; exact ⟨i, o', hs, h2, rfl⟩
theorem RW.leave {μ : MM} {m : List Bool} {s : List Ob} {b : Nat} (h : RW μ (leaveOb m s) b) : RW μ s b := by
  obtain ⟨i, o, h1, h2, rfl⟩ := h
  rw [leave_get] at h1
  cases hs : s[i]? with
  | none => rw [hs] at h1; simp at h1
  | some o' =>
    rw [hs] at h1
    cases hg : gone m i <;> rw [hg] at h1 <;> simp at h1
    · subst h1; exact ⟨i, o', hs, h2, rfl⟩
    · subst h1; simp [Ob.own] at h2

/-- no rows that came in -/
def Ob.mine : Ob → Bool
  | .row false _ _ _ => false
  | _ => true
theorem Ob.own_of_mine {o : Ob} (h : o.mine = true) (hd : o ≠ .dead) : o.own = true := by
  cases o with
  | dead => exact absurd rfl hd
  | cells => rfl
  | row own e ks l => cases own <;> simp [Ob.mine, Ob.own] at h ⊢

theorem onlyL_append (p : Nat → Bool) : ∀ a b : List AV, AV.onlyL p (a ++ b) = (AV.onlyL p a && AV.onlyL p b)
  | [], b => by simp [AV.onlyL]
  | v :: a, b => by simp [AV.onlyL, onlyL_append p a b, Bool.and_assoc]

theorem AW_range {P : Program} {T : TT} (hT : TOk P T) {n0 : Nat} {g : Operand} {ps : Array Tmp} {assign body : Code} {t : List AV} {s : List Ob} {k : AExit → List AV → List Ob → Unit → Prop} (mv : List Bool) {f : FuncId} {a b : List AV}
    (hb : ∃ fn, P.funcs[f]? = some fn ∧ fn.body.isNone = false ∧ (fn.name == "runtime.NumGoroutine") = false)
    (hg : evK t g fun fv => fv = .fn f a b)
    (ho1 : (pickOb mv s).all (Ob.only (gone mv)) = true) (ho2 : (leaveOb mv s).all (Ob.only (left mv)) = true) (ha : AV.onlyL (gone mv) (a ++ b) = true) (hml : mv.length ≤ s.length) (hfo : ((pickOb mv s).all Ob.mine || (leaveOb mv s).all Ob.mine) = true)
    (h : ∀ l O, YR P T s.length (leaveT (left mv) t) ps.toList assign body l O → ACo P O f (a ++ (.yld l :: b)) (pickOb mv s) (leaveOb mv s, none) fun r s1 x => mergeK (gone mv) mv s1 x.1 fun s2 => k (x.2.getD .normal) t s2 ()) :
    AWs P Outer.none n0 none (.rangeFunc g ps assign body) t s () k := by
  refine ⟨fun hn nb μ B ac w hs hm => ?_⟩
  obtain ⟨fv, rfl, hfv⟩ := evK_sound hs.tm hg
  simp only [VR] at hfv
  obtain ⟨as, bs, he, has, hbs⟩ := hfv
  have hB0 : ∀ b, ¬ B b := hs.out
  refine wpIn_rangeFunc fun fn _ => ?_
  obtain ⟨gn, hgn, hbody, hname⟩ := id hb
  generalize hw1 : (w.alloc (.deferred (some []))).alloc (.loop { state := .ready, pending := none, fn, tmps := ac.tmps, params := ps, assign, body, defers := w.heap.size }) = w1
  have hent := run_enterLoop_outer (P := P) (w := w) fn ac.tmps ps assign body
  rw [hw1] at hent
  refine ⟨w.heap.size + 1, _, _, { target := .fn (.func f) bs.toArray, args := as.toArray ++ #[.func (.yield (w.heap.size + 1)) #[] #[]] }, w1, f, as.toArray ++ #[.func (.yield (w.heap.size + 1)) #[] #[]] ++ bs.toArray, w1, hent,
    by
      have hc : ac.eval (.const (.func (.yield (w.heap.size + 1)) #[] #[])) = .func (.yield (w.heap.size + 1)) #[] #[] := rfl
      simp [resolve, rangeCall, he, hc, Deferred.ofValue], fun _ _ => trivial, by simp [invoke, run_callFunc hgn hbody hname], fun h => by simp [FR, Fence.wide] at h, callsIn_FR (Ran.calls hb ?_)⟩
  have hfa : Fr (fun _ => False) w w1 := by
    rw [← hw1]
    exact Fr.trans (R' := fun _ => False) (Fr.alloc' _ _ _ (by intro _ _ _ h; cases h)) (Fr.alloc' _ _ _ (by intro _ _ _ h; cases h)) fun _ _ h => h
  have hsz1 : w1.heap.size = w.heap.size + 2 := by rw [← hw1, World.size_alloc, World.size_alloc]
  have hrc1 : w1.heap[w.heap.size + 1]? = some (loopOb fn ac.tmps ps assign body w.heap.size none) := by
    have := World.alloc_heap_new (w.alloc (.deferred (some []))) (.loop { state := .ready, pending := none, fn, tmps := ac.tmps, params := ps, assign, body, defers := w.heap.size })
    rw [hw1] at this
    have hq : (w.alloc (.deferred (some []))).heap.size = w.heap.size + 1 := by rw [World.size_alloc]
    rw [hq] at this
    exact this
  have hdf1 : w1.heap[w.heap.size]? = some (.deferred (some [])) := by
    have h2 := (Fr.alloc' (fun _ => False) (w.alloc (.deferred (some []))) (.loop { state := .ready, pending := none, fn, tmps := ac.tmps, params := ps, assign, body, defers := w.heap.size }) (by intro _ _ _ h; cases h)).blk (World.alloc_heap_new w (.deferred (some []))) (fun h => h)
    rw [hw1] at h2
    exact h2
  have hrel1 : Rel μ s w1 := hs.rel.block fun i o hi hd => hfa.block _ (hs.rel.lt hi hd) fun h => h
  have hrelP : Rel μ (pickOb mv s) w1 := by
    refine ⟨fun i o ho => ?_, fun i i' o o' hi hi' hne hw hd => ?_⟩
    · have ho' := ho
      rw [pick_get] at ho
      cases hsi : s[i]? with
      | none => rw [hsi] at ho; simp at ho
      | some o1 =>
        rw [hsi] at ho
        have hon := List.all_eq_true.1 ho1 o (List.mem_of_getElem? ho')
        cases hg' : gone mv i <;> rw [hg'] at ho <;> simp at ho
        · subst ho; simp [OR]
        · subst ho; exact (hrel1.ob i o1 hsi).only (fun j hj hl => ⟨live_pick.2 ⟨hl, hj⟩, rfl⟩) hon
    · have hl : Live s i := (live_pick.1 ⟨o, hi, by rintro rfl; simp [Ob.own] at hw⟩).1
      have hl' : Live s i' := (live_pick.1 ⟨o', hi', hd⟩).1
      rw [pick_get] at hi hi'
      obtain ⟨q, hq, hqd⟩ := hl
      obtain ⟨q', hq', hqd'⟩ := hl'
      rw [hq] at hi; rw [hq'] at hi'
      cases hg1 : gone mv i <;> rw [hg1] at hi <;> simp at hi
      · subst hi; simp [Ob.own] at hw
      · subst hi; exact hrel1.sep i i' q q' hq hq' hne hw hqd'
  have hrelL : Rel μ (leaveOb mv s) w1 := by
    refine ⟨fun i o ho => ?_, fun i i' o o' hi hi' hne hw hd => ?_⟩
    · have ho' := ho
      rw [leave_get] at ho
      cases hsi : s[i]? with
      | none => rw [hsi] at ho; simp at ho
      | some o1 =>
        rw [hsi] at ho
        have hon := List.all_eq_true.1 ho2 o (List.mem_of_getElem? ho')
        cases hg' : gone mv i <;> rw [hg'] at ho <;> simp at ho
        · subst ho; exact (hrel1.ob i o1 hsi).only (fun j hj hl => ⟨live_leave.2 ⟨hl, by simpa [left, gone] using hj⟩, rfl⟩) hon
        · subst ho; simp [OR]
    · have hl : Live s i := (live_leave.1 ⟨o, hi, by rintro rfl; simp [Ob.own] at hw⟩).1
      have hl' : Live s i' := (live_leave.1 ⟨o', hi', hd⟩).1
      rw [leave_get] at hi hi'
      obtain ⟨q, hq, hqd⟩ := hl
      obtain ⟨q', hq', hqd'⟩ := hl'
      rw [hq] at hi; rw [hq'] at hi'
      cases hg1 : gone mv i <;> rw [hg1] at hi <;> simp at hi
      · subst hi; exact hrel1.sep i i' q q' hq hq' hne hw hqd'
      · subst hi; simp [Ob.own] at hw
  have hv0 : VRL (Live (leaveOb mv s)) μ (leaveT (left mv) t) ac.tmps.toList := hs.tm.leave fun j hj hl => live_leave.2 ⟨hl, by simpa [left, gone] using hj⟩
  have hyr := yr_ro (w0 := w) (fn := fn) (ps := ps) (assign := assign) (body := body) hT hv0
  rw [length_leave] at hyr
  have hsepb : ∀ b, (LV μ (leaveOb mv s) b ∨ b = w.heap.size + 1 ∨ b = w.heap.size) → ¬ LV μ (pickOb mv s) b := by
    rintro b (hl | hl) hp
    · obtain ⟨i, o, h1, h2, rfl⟩ := hl
      obtain ⟨i', o', h3, h4, h5⟩ := hp
      have g1 := live_leave.1 ⟨o, h1, h2⟩
      have g2 := live_pick.1 ⟨o', h3, h4⟩
      have hne : i ≠ i' := by rintro rfl; rw [g1.2] at g2; cases g2.2
      have h1' := h1; have h3' := h3
      rw [leave_get] at h1; rw [pick_get] at h3
      obtain ⟨q, hq, hqd⟩ := g1.1
      obtain ⟨q', hq', hqd'⟩ := g2.1
      rw [hq, g1.2] at h1; rw [hq', g2.2] at h3
      simp at h1 h3
      subst h1 h3
      rcases Bool.or_eq_true_iff.1 hfo with hf | hf
      · have := Ob.own_of_mine (List.all_eq_true.1 hf _ (List.mem_of_getElem? h3')) h4
        exact hs.rel.sep i' i q' q hq' hq (Ne.symm hne) this h2 h5
      · have := Ob.own_of_mine (List.all_eq_true.1 hf _ (List.mem_of_getElem? h1')) h2
        exact hs.rel.sep i i' q q' hq hq' hne this h4 h5.symm
    · obtain ⟨i, o, h1, h2, rfl⟩ := hp.pick
      have := hs.rel.lt h1 h2
      omega
  have hI0 : (RO (leaveOb mv s) μ w (loopOb fn ac.tmps ps assign body w.heap.size)).I (leaveOb mv s, none) (fun b => LV μ (leaveOb mv s) b ∨ b = w.heap.size + 1 ∨ b = w.heap.size) w1 :=
    ⟨μ, hrelL, fun b => Iff.rfl, fun _ _ => rfl, fun _ h => h, fun _ h => h, Nat.le_refl _, fun b hb _ _ => hfa.block b hb fun h => h, fun _ h => .inl h, fun _ h => .inl h, hrc1, hdf1⟩
  have hcargs : VRL (Live (pickOb mv s)) μ (a ++ (.yld (w.heap.size + 1) :: b)) (as.toArray ++ #[Value.func (.yield (w.heap.size + 1)) #[] #[]] ++ bs.toArray).toList := by
    rw [onlyL_append, Bool.and_eq_true] at ha
    have lf : ∀ j, gone mv j = true → Live s j → Live (pickOb mv s) j ∧ μ j = μ j := fun j hj hl => ⟨live_pick.2 ⟨hl, hj⟩, rfl⟩
    simp only [Array.toList_append, List.append_assoc]
    refine VRL.append (has.only lf ha.1) ?_
    simp only [List.cons_append, List.nil_append, VRL]
    exact ⟨_, _, rfl, by simp only [VR], hbs.only lf ha.2⟩
  refine (h _ _ hyr μ _ w1 _ hrelP hcargs hI0 hsepb).mono ?_
  rintro e w3 ⟨r, s1, x', μ1, B1, v, hk, rfl, hv, hrel3, ⟨μC, hC⟩, haf⟩
  obtain ⟨s2, hk, hs2⟩ := mergeK_ex _ _ _ _ _ hk
  have hlp : (pickOb mv s).length = s.length := length_pick _ _
  have hll : (leaveOb mv s).length = s.length := length_leave _ _
  have hagI : ∀ i, i < s.length → μ1 i = μ i := fun i hi => haf.agree i (by omega)
  have hagC : ∀ i, i < s.length → μC i = μ i := fun i hi => hC.agree i (by omega)
  -- the store behind
  generalize hμm : (fun i => if gone mv i then μ1 i else μC i) = μm
  have hμm1 : ∀ i, gone mv i = true → μm i = μ1 i := fun i hi => by rw [← hμm]; simp [hi]
  have hμm2 : ∀ i, gone mv i = false → μm i = μC i := fun i hi => by rw [← hμm]; simp [hi]
  have hagm : ∀ i, i < s.length → μm i = μ i := by
    intro i hi
    cases hg' : gone mv i
    · rw [hμm2 i hg', hagC i hi]
    · rw [hμm1 i hg', hagI i hi]
  have hget1 : ∀ i, gone mv i = true → s2[i]? = s1[i]? := fun i hi => by have := (hs2 i).1; rw [if_pos hi] at this; exact this
  have hget2 : ∀ i, gone mv i = false → s2[i]? = x'.1[i]? := fun i hi => by have := (hs2 i).1; rw [hi] at this; simpa using this
  have hl1 : ∀ i, gone mv i = true → Live s1 i → Live s2 i := fun i hi ⟨o, ho, hd⟩ => ⟨o, by rw [hget1 i hi]; exact ho, hd⟩
  have hl2 : ∀ i, gone mv i = false → Live x'.1 i → Live s2 i := fun i hi ⟨o, ho, hd⟩ => ⟨o, by rw [hget2 i hi]; exact ho, hd⟩
  have hkeep : ∀ i, Live s i → Live s2 i := by
    intro i hi
    cases hg' : gone mv i
    · exact hl2 i hg' (hC.keep i (live_leave.2 ⟨hi, hg'⟩))
    · have hp := live_pick.2 ⟨hi, hg'⟩
      exact hl1 i hg' (haf.keep i hp.lt hp)
  -- what is left is not gone: no object of the caller's store has a gone number
  have hdeadC : ∀ i, gone mv i = true → i < s.length → x'.1[i]? = some .dead := by
    intro i hi hlt
    refine hC.dead i ?_
    rw [leave_get, List.getElem?_eq_getElem hlt]; simp [hi]
  have hdeadI : ∀ i, gone mv i = false → i < s.length → s1[i]? = some .dead := by
    intro i hi hlt
    refine haf.dead i (by omega) ?_
    rw [pick_get, List.getElem?_eq_getElem hlt]; simp [hi]
  have hgl : ∀ i, gone mv i = true → i < s.length := by
    intro i hi
    rcases Nat.lt_or_ge i mv.length with q | q
    · omega
    · unfold gone at hi; rw [List.getD_eq_getElem?_getD, List.getElem?_eq_none q] at hi; cases hi
  have hCl : ∀ i, Live x'.1 i → gone mv i = false := by
    intro i ⟨o, ho, hd⟩
    cases hg' : gone mv i
    · rfl
    · rw [hdeadC i hg' (hgl i hg')] at ho; exact absurd (Option.some.inj ho).symm hd
  have hlt3 : w.heap.size + 1 < w3.heap.size := (Array.getElem?_eq_some_iff.1 hC.rc).1
  obtain ⟨rr, hrr1, hrr2, hrr3⟩ : ∃ rr : Loop, loopOb fn ac.tmps ps assign body w.heap.size x'.2 = .loop rr ∧ rr.state ≠ .busy ∧ rr.pending = x'.2.map exitCode := ⟨_, rfl, by dsimp only; split <;> (intro h; cases h), rfl⟩
  have hrc3 : w3.heap[w.heap.size + 1]? = some (.loop rr) := by rw [hC.rc, hrr1]
  have hend := run_endLoop (P := P) hrc3 hrr2
  generalize hw4 : w3.putObj (w.heap.size + 1) (.loop { rr with state := .exhausted }) = w4 at hend
  have hf4 : Fr (fun k => k = w.heap.size + 1) w3 w4 := by rw [← hw4]; exact Fr.putObj (by intro _ _ _ h; cases h)
  have hs4 : w4.heap.size = w3.heap.size := by rw [← hw4]; simp
  have hblk : ∀ {μ' : MM} {s' : List Ob}, Rel μ' s' w3 → ∀ i o, s'[i]? = some o → o ≠ .dead → w4.heap[(μ' i).blk]? = w3.heap[(μ' i).blk]? := by
    intro μ' s' hr i o hi hd
    refine hf4.block _ (hr.lt hi hd) fun e => ?_
    obtain ⟨cs, e', fr, hc⟩ := LV.cells hr ⟨i, o, hi, hd, rfl⟩
    rw [e, hrc3] at hc; cases hc
  have hrelI4 : Rel μ1 s1 w4 := hrel3.block (hblk hrel3)
  have hrelC4 : Rel μC x'.1 w4 := hC.rel.block (hblk hC.rel)
  have hrel4 : Rel μm s2 w4 := by
    refine ⟨fun i o ho => ?_, fun i i' o o' hi hi' hne hw hd => ?_⟩
    · cases hg' : gone mv i
      · rw [hget2 i hg'] at ho
        rw [hμm2 i hg']
        exact (hrelC4.ob i o ho).mono fun j hj => ⟨hl2 j (hCl j hj) hj, hμm2 j (hCl j hj)⟩
      · have hon := (hs2 i).2 hg' o (by rw [← hget1 i hg']; exact ho)
        rw [hget1 i hg'] at ho
        rw [hμm1 i hg']
        exact (hrelI4.ob i o ho).only (fun j hj hl => ⟨hl1 j hj hl, hμm1 j hj⟩) hon
    · have mixed : ∀ i i' o o', s1[i]? = some o → x'.1[i']? = some o' → o ≠ .dead → o' ≠ .dead → (μ1 i).blk ≠ (μC i').blk := by
        intro i i' o o' hi hi' hd hd' e
        exact haf.sep (μC i').blk ((hC.b _).2 (.inl ⟨i', o', hi', hd', rfl⟩)) ⟨i, o, hi, hd, e⟩
      have hd0 : o ≠ .dead := by rintro rfl; simp [Ob.own] at hw
      cases g1 : gone mv i <;> cases g2 : gone mv i'
      · rw [hget2 i g1] at hi; rw [hget2 i' g2] at hi'; rw [hμm2 i g1, hμm2 i' g2]
        exact hrelC4.sep i i' o o' hi hi' hne hw hd
      · rw [hget2 i g1] at hi; rw [hget1 i' g2] at hi'; rw [hμm2 i g1, hμm1 i' g2]
        exact fun e => mixed i' i o' o hi' hi hd hd0 e.symm
      · rw [hget1 i g1] at hi; rw [hget2 i' g2] at hi'; rw [hμm1 i g1, hμm2 i' g2]
        exact mixed i i' o o' hi hi' hd0 hd
      · rw [hget1 i g1] at hi; rw [hget1 i' g2] at hi'; rw [hμm1 i g1, hμm1 i' g2]
        exact hrelI4.sep i i' o o' hi hi' hne hw hd
  have hlvm : ∀ b, LV μm s2 b → LV μ1 s1 b ∨ LV μC x'.1 b := by
    rintro b ⟨i, o, hi, hd, rfl⟩
    cases g1 : gone mv i
    · rw [hget2 i g1] at hi; rw [hμm2 i g1]; exact .inr ⟨i, o, hi, hd, rfl⟩
    · rw [hget1 i g1] at hi; rw [hμm1 i g1]; exact .inl ⟨i, o, hi, hd, rfl⟩
  have hrwm : ∀ b, RW μm s2 b → RW μ1 s1 b ∨ RW μC x'.1 b := by
    rintro b ⟨i, o, hi, hd, rfl⟩
    cases g1 : gone mv i
    · rw [hget2 i g1] at hi; rw [hμm2 i g1]; exact .inr ⟨i, o, hi, hd, rfl⟩
    · rw [hget1 i g1] at hi; rw [hμm1 i g1]; exact .inl ⟨i, o, hi, hd, rfl⟩
  have hafm : After n0 μ s B w μm s2 B w4 := by
    refine ⟨fun i hi => hagm i (by omega), fun i _ hl => hkeep i hl, fun i hi hd => ?_, ?_, ?_, fun b hb => ?_, fun b hb => ?_, fun b hb => .inl hb, fun b hb => absurd hb (hB0 b)⟩
    · cases g1 : gone mv i
      · rw [hget2 i g1]; refine hC.dead i ?_; rw [leave_get, hd]; simp [g1]
      · rw [hget1 i g1]; refine haf.dead i (by omega) ?_; rw [pick_get, hd]; simp [g1]
    · -- the store is no shorter
      have hlen2 : s.length ≤ s2.length := by
        rcases Nat.lt_or_ge s2.length s.length with q | q
        · exfalso
          cases g1 : gone mv s2.length
          · have e := hget2 _ g1
            rw [List.getElem?_eq_none (Nat.le_refl _)] at e
            have : s.length ≤ x'.1.length := by rw [← hll]; exact hC.len
            rw [List.getElem?_eq_getElem (by omega)] at e; cases e
          · have e := hget1 _ g1
            rw [List.getElem?_eq_none (Nat.le_refl _)] at e
            have : s.length ≤ s1.length := by rw [← hlp]; exact haf.len
            rw [List.getElem?_eq_getElem (by omega)] at e; cases e
        · exact q
      omega
    · have h2 := haf.fr
      refine ⟨hf4.os.trans (h2.os.trans hfa.os), hf4.tape.trans (h2.tape.trans hfa.tape), hf4.output.trans (h2.output.trans hfa.output), by have := h2.size; omega, fun b hb hn => ?_, fun ad ha => hfa.froz ad (h2.froz ad (hf4.froz ad ha))⟩
      have hnr : ¬ RW μ s b := fun hr => hn (.inl hr)
      rw [hf4.block b (by have := h2.size; omega) (by omega)]
      by_cases hlv : LV μ (leaveOb mv s) b
      · exact hC.since b hb hlv fun hr => hnr hr.leave
      · rw [h2.block b (by omega) ?_]
        · exact hfa.block b hb fun h => h
        · rintro (hr | hr | hr | hr)
          · exact hnr hr.pick
          · exact hlv hr
          · omega
          · omega
    · rcases hrwm b hb with q | q
      · rcases haf.rw b q with q | q
        · exact .inl q.pick
        · exact .inr (by omega)
      · rcases hC.rw b q with q | q
        · exact .inl q.leave
        · exact .inr q
    · rcases hlvm b hb with q | q
      · rcases haf.lv b q with q | q
        · exact .inl q.pick
        · exact .inr (by omega)
      · rcases hC.lv b q with q | q
        · exact .inl q.leave
        · exact .inr q
  have hsr4 : SR Outer.none μm t s2 () B { ac with defers := [{ target := .collected w.heap.size, args := #[] }] ++ ac.defers } w4 :=
    ⟨hs.tm.mono fun i hi => ⟨hkeep i hi, hagm i hi.lt⟩, hrel4, hB0, fun b hb => absurd hb (hB0 b)⟩
  have hm4 : Marks nb B { ac with defers := [{ target := .collected w.heap.size, args := #[] }] ++ ac.defers } w4 := by
    obtain ⟨q0, ms, q1, q2, q3⟩ := hm
    have hmo : ∀ k ∈ ms, k < w.heap.size := fun k hk => (Array.getElem?_eq_some_iff.1 (q3 k hk).2.1).1
    refine ⟨Nat.le_trans q0 hafm.fr.size, w.heap.size :: ms, by simp [q1], List.nodup_cons.2 ⟨fun hh => by have := hmo _ hh; omega, q2⟩, fun k hk => ?_⟩
    rcases List.mem_cons.1 hk with rfl | hk
    · exact ⟨q0, hf4.blk hC.df (by omega), hB0 _⟩
    · refine ⟨(q3 k hk).1, hafm.fr.blk (q3 k hk).2.1 ?_, hB0 _⟩
      rintro (q | q)
      · obtain ⟨cs, e', fr, hc⟩ := RW.cells hs.rel q
        rw [(q3 k hk).2.1] at hc; cases hc
      · exact hB0 _ q
  refine ⟨_, w4, hend, ?_⟩
  have post : ∀ e, k e t s2 () → APost Outer.none nb n0 μ s B w k (exitC e) { ac with defers := [{ target := .collected w.heap.size, args := #[] }] ++ ac.defers } w4 := fun e hk => ⟨e, t, s2, (), μm, B, rfl, hk, hsr4, hafm, hm4⟩
  rw [hrr3]
  cases hx : x'.2 with
  | none => rw [hx] at hk; exact post .normal hk
  | some e =>
    rw [hx] at hk
    have hk : k e t s2 () := hk
    cases e with
    | normal => exact wpIn_skip (post .normal hk)
    | exit id => exact wpIn_exit (post (.exit id) hk)
    | goto g' => exact wpIn_goto (post (.goto g') hk)
    | ret => exact wpIn_ret (post .ret hk)
end Go.AW

/- The engine, 31: loops by invariants, over a store whose end is cut off. -/
namespace Go.AW
open Go
set_option linter.unusedVariables false
set_option linter.unusedSimpArgs false

/-! ### objects at the store's end, forgotten -/
def under (n : Nat) (i : Nat) : Bool := decide (i < n)
/-- does what is kept bear no number of what is forgotten? -/
def cutOk (t : List AV) (s : List Ob) : Bool := AV.onlyL (under s.length) t && s.all (Ob.only (under s.length))

theorem get_app {s d : List Ob} {i : Nat} (h : i < s.length) : (s ++ d)[i]? = s[i]? := List.getElem?_append_left h

theorem live_cut {s d : List Ob} {i : Nat} (h : i < s.length) (hl : Live (s ++ d) i) : Live s i := by
  obtain ⟨o, ho, hd⟩ := hl
  rw [get_app h] at ho; exact ⟨o, ho, hd⟩
theorem live_app {s d : List Ob} {i : Nat} (hl : Live s i) : Live (s ++ d) i := by
  obtain ⟨o, ho, hd⟩ := hl
  exact ⟨o, by rw [get_app (List.getElem?_eq_some_iff.1 ho).1]; exact ho, hd⟩
theorem Rel.cut {μ : MM} {s d : List Ob} {w : World} (hc : s.all (Ob.only (under s.length)) = true) (h : Rel μ (s ++ d) w) : Rel μ s w := by
  refine ⟨fun i o ho => ?_, fun i i' o o' hi hi' => h.sep i i' o o' ?_ ?_⟩
  · have h1 := h.ob i o (by rw [get_app (List.getElem?_eq_some_iff.1 ho).1]; exact ho)
    exact h1.only (fun j hj hl => ⟨live_cut (of_decide_eq_true hj) hl, rfl⟩) (List.all_eq_true.1 hc o (List.mem_of_getElem? ho))
  · rw [get_app (List.getElem?_eq_some_iff.1 hi).1]; exact hi
  · rw [get_app (List.getElem?_eq_some_iff.1 hi').1]; exact hi'
theorem LV.app {μ : MM} {s d : List Ob} {b : Nat} (h : LV μ s b) : LV μ (s ++ d) b := by
  obtain ⟨i, o, hi, hd, rfl⟩ := h
  exact ⟨i, o, by rw [get_app (List.getElem?_eq_some_iff.1 hi).1]; exact hi, hd, rfl⟩
theorem RW.app {μ : MM} {s d : List Ob} {b : Nat} (h : RW μ s b) : RW μ (s ++ d) b := by
  obtain ⟨i, o, hi, hd, rfl⟩ := h
  exact ⟨i, o, by rw [get_app (List.getElem?_eq_some_iff.1 hi).1]; exact hi, hd, rfl⟩

section
variable {σ : Type} {P : Program} {T : TT} {O : Outer σ} {n0 : Nat} {r : Option Nat} {t : List AV} {s d : List Ob} {x : σ} {k : AExit → List AV → List Ob → σ → Prop} {b : Code}

theorem SR.cut {μ : MM} {B : Nat → Prop} {a : Act} {w : World} (hc : cutOk t s = true) (h : SR O μ t (s ++ d) x B a w) : SR O μ t s x B a w := by
  simp only [cutOk, Bool.and_eq_true] at hc
  exact ⟨h.tm.only (fun j hj hl => ⟨live_cut (of_decide_eq_true hj) hl, rfl⟩) hc.1, h.rel.cut hc.2, h.out, fun b hb hl => h.sep b hb hl.app⟩

theorem After.app {μ μ' : MM} {s' : List Ob} {B B' : Nat → Prop} {w w' : World} (hn0 : n0 ≤ s.length) (h : After n0 μ s B w μ' s' B' w') : After n0 μ (s ++ d) B w μ' s' B' w' :=
  ⟨h.agree, fun i hi hl => h.keep i hi (live_cut (by omega) hl), fun i hi hd => h.dead i hi (by rwa [get_app (by omega)] at hd), h.len, h.fr.mono fun b _ hb => hb.imp RW.app id, fun b hb => (h.rw b hb).imp RW.app id, fun b hb => (h.lv b hb).imp LV.app id, h.b, h.sep⟩

/-- a loop over the store without its end is one over the store -/
theorem ALs.cut (hc : cutOk t s = true) (hn0 : n0 ≤ s.length) (h : ALs P O n0 r b t s x k) : ALs P O n0 r b t (s ++ d) x k := by
  refine ⟨fun hn nb μ B a w hs hm => ?_⟩
  refine LP_mono (h.of hn0 nb μ B a w (hs.cut hc) hm) ?_
  rintro ex a' w' ⟨ae, t', s', x', μ', B', rfl, hk, hs1, haf, hm1⟩
  exact ⟨ae, t', s', x', μ', B', rfl, hk, hs1, haf.app hn0, hm1⟩

theorem ALs.invW {ι : Type} (msk : List Bool) (I : ι → Prop) (m : ι → Nat) (tt : ι → List AV) (ss : ι → List Ob) (xx : ι → σ) (i0 : ι) (h0 : I i0) (ht : junkM msk t = tt i0) (hs : ∃ q, s = ss i0 ++ q) (hx : x = xx i0)
    (hn : ∀ i, n0 ≤ (ss i).length) (hc : ∀ i, cutOk (tt i) (ss i) = true)
    (step : ∀ i, I i → AW P O n0 r b (tt i) (ss i) (xx i) fun e t' s' x' => match e with
      | .normal => ∃ j q, junkM msk t' = tt j ∧ s' = ss j ++ q ∧ x' = xx j ∧ m j < m i ∧ I j
      | e => k e t' s' x') : ALs P O n0 r b t s x k := by
  have key : ∀ n i, m i ≤ n → I i → ∀ t, junkM msk t = tt i → ∀ q, ALs P O n0 r b t (ss i ++ q) (xx i) k := by
    intro n
    induction n with
    | zero =>
      intro i hm hI t ht q
      refine .junk msk ?_
      rw [ht]
      refine .cut (hc i) (hn i) ⟨AL_round ((step i hI).mono fun e t' s' x' h' => ?_)⟩
      cases e with
      | normal => obtain ⟨j, _, _, _, _, h2, _⟩ := h'; omega
      | exit => exact h'
      | goto => exact h'
      | ret => exact h'
    | succ n ih =>
      intro i hm hI t ht q
      refine .junk msk ?_
      rw [ht]
      refine .cut (hc i) (hn i) ⟨AL_round ((step i hI).mono fun e t' s' x' h' => ?_)⟩
      cases e with
      | normal =>
        obtain ⟨j, q, h3, rfl, rfl, h2, h1⟩ := h'
        exact (ih j (by omega) h1 t' h3 q).of
      | exit => exact h'
      | goto => exact h'
      | ret => exact h'
  obtain ⟨q, hs⟩ := hs
  subst hs hx
  exact key (m i0) i0 (Nat.le_refl _) h0 t ht q

/-- **A LOOP BY AN INVARIANT**, over a store whose end is cut off. -/
theorem ALs.invD {ι : Type} (hT : TOk P T) (N : Nat) (msk : List Bool) (I : ι → Prop) (m : ι → Nat) (tt : ι → List AV) (ss : ι → List Ob) (xx : ι → σ) (i0 : ι) (h0 : I i0) (ht : junkM msk t = tt i0) (hs : ∃ q, s = ss i0 ++ q) (hx : x = xx i0)
    (hn : ∀ i, n0 ≤ (ss i).length) (hc : ∀ i, cutOk (tt i) (ss i) = true)
    (step : ∀ i, I i → awp P O T n0 r N b (tt i) (ss i) (xx i) fun e t' s' x' => match e with
      | .normal => ∃ j q, junkM msk t' = tt j ∧ s' = ss j ++ q ∧ x' = xx j ∧ m j < m i ∧ I j
      | e => k e t' s' x') : ALs P O n0 r b t s x k :=
  ALs.invW msk I m tt ss xx i0 h0 ht hs hx hn hc fun i hi => awp_sound hT b _ _ _ _ (step i hi)

/-! ### code behind a loop -/
theorem AWs.go (hT : TOk P T) (N : Nat) (h : awp P O T n0 r N b t s x k) : AWs P O n0 r b t s x k := ⟨awp_sound hT b t s x k h⟩
theorem AWs.junk (m : List Bool) (h : AWs P O n0 r b (junkM m t) s x k) : AWs P O n0 r b t s x k :=
  ⟨fun hn nb μ B a w hs hm => h.of hn nb μ B a w ⟨VRL_junkM m hs.tm, hs.rel, hs.out, hs.sep⟩ hm⟩
theorem AWs.cut (hc : cutOk t s = true) (hn0 : n0 ≤ s.length) (h : AWs P O n0 r b t s x k) : AWs P O n0 r b t (s ++ d) x k := by
  refine ⟨fun hn nb μ B a w hs hm => ?_⟩
  refine wpIn_mono (h.of hn0 nb μ B a w (hs.cut hc) hm) ?_
  rintro ex a' w' ⟨ae, t', s', x', μ', B', rfl, hk, hs1, haf, hm1⟩
  exact ⟨ae, t', s', x', μ', B', rfl, hk, hs1, haf.app hn0, hm1⟩
/-- the code behind a loop, from a state of which only some temporaries are known, over a store whose end is cut off -/
theorem AWs.rest (hT : TOk P T) (N : Nat) (m : List Bool) {t' : List AV} (q : List Ob) (ht : junkM m t = t') (hn0 : n0 ≤ s.length) (hc : cutOk t' s = true) (h : awp P O T n0 r N b t' s x k) : AWs P O n0 r b t (s ++ q) x k := by
  subst ht; exact .junk m (.cut hc hn0 (.go hT N h))

/-- **A LOOP BY AN INVARIANT**, its ends told by states too: what is behind the loop is walked once. -/
theorem ALs.invX {ι κ : Type} (hT : TOk P T) (N : Nat) (msk : List Bool) (I : ι → Prop) (m : ι → Nat) (tt : ι → List AV) (ss : ι → List Ob) (xx : ι → σ) (i0 : ι)
    (J : κ → Prop) (mskE : List Bool) (idx : κ → Nat) (te : κ → List AV) (se : κ → List Ob) (xe : κ → σ)
    (h0 : I i0) (ht : junkM msk t = tt i0) (hs : ∃ q, s = ss i0 ++ q) (hx : x = xx i0) (hn : ∀ i, n0 ≤ (ss i).length) (hc : ∀ i, cutOk (tt i) (ss i) = true)
    (step : ∀ i, I i → awp P O T n0 r N b (tt i) (ss i) (xx i) fun e t' s' x' => match e with
      | .normal => ∃ j q, junkM msk t' = tt j ∧ s' = ss j ++ q ∧ x' = xx j ∧ m j < m i ∧ I j
      | .exit id' => ∃ c q, id' = idx c ∧ junkM mskE t' = te c ∧ s' = se c ++ q ∧ x' = xe c ∧ J c
      | e => k e t' s' x')
    (fin : ∀ c t q, J c → junkM mskE t = te c → k (.exit (idx c)) t (se c ++ q) (xe c)) : ALs P O n0 r b t s x k := by
  refine ALs.invW msk I m tt ss xx i0 h0 ht hs hx hn hc fun i hi => (awp_sound hT b _ _ _ _ (step i hi)).mono fun e t' s' x' h => ?_
  cases e with
  | normal => exact h
  | exit id' => obtain ⟨c, q, rfl, h1, rfl, rfl, h2⟩ := h; exact fin c t' q h2 h1
  | goto => exact h
  | ret => exact h
end

/-- a call whose arguments bear no object, of a result without any -/
theorem AC_free {P : Program} {f : FuncId} {args : List AV} {s : List Ob} {Q : AV → List Ob → Prop} (hargs : ∀ n, AV.ren.renL (rho [] n) args = args)
    (h : AC P f args [] fun r _ => r.flat = true ∧ Q r s) : AC P f args s Q := by
  have := ACo_flat (x := ()) (O := Outer.none) (P := P) (f := f) (args' := args) (s := s) (L := []) (Q := fun r s _ => Q r s) [] (by simp) rfl rfl (by simp) (h.of.mono fun r s' x hk => (takeK_iff _ _ _).2 ⟨by simp, hk.1, by simp, by simpa [setAll] using hk.2⟩)
  rw [hargs] at this
  exact ⟨this⟩

/-- a call whose arguments bear no object, of a result that bears none (a function value, for one) -/
theorem AC_fn {P : Program} {f : FuncId} {args : List AV} {s : List Ob} {Q : AV → List Ob → Prop} (r0 : AV) (hargs : ∀ ρ, AV.ren.renL ρ args = args) (hr : ∀ ρ, r0.ren ρ = r0)
    (h : AC P f args [] fun r _ => r = r0 ∧ Q r0 s) : AC P f args s Q := by
  have := ACo_local (x := ()) (O := Outer.none) (P := P) (f := f) (args' := args) (s := s) (L := []) (Q := fun r s _ => Q r s) [] (by simp) rfl (by simp) (ACo_export (h.of.mono fun r s' x hk => ⟨r0, [], ⟨[], by simp, rfl, by simp, by simp, by simp, by rw [hr]; exact hk.1⟩, by simpa [setAll, hr] using hk.2⟩))
  rw [hargs] at this
  exact ⟨this⟩

/-! ### a call that reads some flat objects and makes one -/
theorem AC_mk1 {P : Program} {f : FuncId} {args' : List AV} {s L : List Ob} {Q : AV → List Ob → Prop} (ids : List Nat) (hnd : ids.Nodup) (hlen : L.length = ids.length)
    (hLf : L.all Ob.flat = true) (hL : ∀ (i j : Nat) (ob : Ob), ids[i]? = some j → L[i]? = some ob → s[j]? = some ob) (r' : AV) (j : Nat) (hj : L.length ≤ j)
    (h : AC P f args' L fun r s' => takeK s' L.length fun l => l = L ∧ nthK s' j fun ob => ob.flat = true ∧ r = r'.ren (rho (List.range L.length ++ [j]) s'.length) ∧ Q (r'.ren (rho ids s.length)) (s ++ [ob])) :
    AC P f (AV.ren.renL (rho ids s.length) args') s Q := by
  have flat_ren : ∀ (l : List Ob), l.all Ob.flat = true → ∀ (ρ : Nat → Nat), l.map (Ob.ren ρ) = l := by
    intro l hl ρ
    induction l with
    | nil => rfl
    | cons ob l ih =>
      simp only [List.all_cons, Bool.and_eq_true] at hl
      rw [List.map_cons, Ob.ren_flat ρ hl.1, ih hl.2]
  refine ⟨ACo_local ids hnd hlen (fun i q ob hi hob => ?_) (ACo_export (h.of.mono ?_))⟩
  · rw [hL i q ob hi hob, Ob.ren_flat _ (List.all_eq_true.1 hLf ob (List.mem_of_getElem? hob))]
  · rintro r s' _ hk
    obtain ⟨hle, hl, hk⟩ := (takeK_iff _ _ _).1 hk
    obtain ⟨ob, hob, hof, hr, hQ⟩ := (nthK_iff _ _ _).1 hk
    have hkl : (List.range L.length ++ [j]).length = L.length + 1 := by simp
    refine ⟨r', L ++ [ob], ⟨List.range L.length ++ [j], ?_, by simp, by simp, fun i hi => by rw [List.getElem?_append_left (by simpa using hi)]; simp [hi], fun i q o hi ho => ?_, hr⟩, ?_⟩
    · rw [List.nodup_append]
      refine ⟨List.nodup_range, by simp, fun a ha b hb => ?_⟩
      simp at ha hb; omega
    · rcases Nat.lt_or_ge i L.length with q1 | q1
      · rw [List.getElem?_append_left (by simpa using q1)] at hi
        rw [List.getElem?_append_left q1] at ho
        have : q = i := by simp [q1] at hi; exact hi.symm
        subst this
        rw [Ob.ren_flat _ (List.all_eq_true.1 hLf o (List.mem_of_getElem? ho))]
        rw [← hl, List.getElem?_take, if_pos q1] at ho; exact ho
      · rw [List.getElem?_append_right (by simpa using q1)] at hi
        rw [List.getElem?_append_right q1] at ho
        simp only [List.length_range] at hi
        cases hd : i - L.length with
        | zero =>
          rw [hd] at hi ho
          simp at hi ho
          subst hi ho
          rw [Ob.ren_flat _ hof]; exact hob
        | succ n => rw [hd] at ho; simp at ho
    · have e1 : (L ++ [ob]).map (Ob.ren (rho ids s.length)) = L ++ [ob] := flat_ren _ (by simp [hLf, hof]) _
      have e2 : ((L ++ [ob]).drop ids.length).map (Ob.ren (rho ids s.length)) = [ob] := by
        rw [← hlen, List.drop_left]; exact flat_ren _ (by simp [hof]) _
      have e3 : setAll ids (L ++ [ob]) s = s := by
        have key : ∀ (ids : List Nat) (L d : List Ob), ids.length = L.length → setAll ids (L ++ d) s = setAll ids L s → True := fun _ _ _ _ _ => trivial
        have : ∀ (ids : List Nat) (L : List Ob) (s : List Ob), ids.length = L.length → setAll ids (L ++ [ob]) s = setAll ids L s := by
          intro ids
          induction ids with
          | nil => intro L s hl; simp [setAll]
          | cons i ids ih =>
            intro L s hl
            cases L with
            | nil => simp at hl
            | cons o L => simp only [List.cons_append, setAll]; rw [ih L _ (by simpa using hl)]
        rw [this ids L s hlen.symm]
        exact setAll_same ids L s hL
      rw [e1, e2, e3]
      exact hQ

/-! ### functions that the model knows by itself -/
theorem AC_ext {P : Program} {f : FuncId} {fn : Func} {e : Array Value → Sem Value} (hf : P.funcs[f]? = some fn) (hname : (fn.name == "runtime.NumGoroutine") = false)
    (hb : fn.body.isNone = true) (hn : Extern.findNext fn = none) (he : Extern.find fn = some e) {args : List AV} {s : List Ob} {Q : AV → List Ob → Prop} (r : AV) (hq : Q r s)
    (h : ∀ D μ (cargs : List Value) w, VRL D μ args cargs → ∃ v, (e cargs.toArray).run P w = .ok v w ∧ ∀ D μ, VR D μ r v) : AC P f args s Q := by
  refine ⟨fun μ cargs w B hr hargs hI hsep => .inr ?_⟩
  obtain ⟨v, h1, h2⟩ := h _ _ cargs.toList w hargs
  refine ⟨v, w, ?_, r, s, (), μ, B, v, hq, rfl, h2 _ _, hr, hI, After.refl (Nat.le_refl _) hsep⟩
  rw [run_callFunc_extern hf hname hb hn he]
  have : cargs.toList.toArray = cargs := by simp
  rw [this] at h1
  rw [h1]; rfl

theorem nzI {n : Int} {x : Prop} (h : n ≠ 0) (hx : x) : andK (!decide (n = 0)) x := andI (by simp [h]) hx
/-- a place in a row -/
theorem ixI {i n : Int} {x : Prop} (h0 : 0 ≤ i) (h1 : i < n) (hx : x) : andK (decide (0 ≤ i) && decide (i < n)) x := andI (by simp [h0, h1]) hx
theorem ifE {a b : Int} {x y : Prop} (h1 : a = b → x) (h2 : a ≠ b → y) : cond (a == b) x y := by
  by_cases h : a = b
  · rw [beq_iff_eq.2 h]; exact h1 h
  · rw [beq_eq_false_iff_ne.2 h]; exact h2 h
theorem ifNE {a b : Int} {x y : Prop} (h1 : a ≠ b → x) (h2 : a = b → y) : cond (a != b) x y := by
  by_cases h : a = b
  · rw [show (a != b) = false by simp [h]]; exact h2 h
  · rw [show (a != b) = true by simp [h]]; exact h1 h
theorem wf_u32 {a : Int} (h : (Lit.int .u32 a).wf = true) : 0 ≤ a ∧ a < 4294967296 := by
  have h' : IntKind.u32.min ≤ a ∧ a ≤ IntKind.u32.max := by simpa [Lit.wf] using h
  exact ⟨h'.1, Int.lt_of_le_of_lt h'.2 (by decide)⟩
theorem wf_i32 {a : Int} (h : (Lit.int .i32 a).wf = true) : -2147483648 ≤ a ∧ a < 2147483648 := by
  have h' : IntKind.i32.min ≤ a ∧ a ≤ IntKind.i32.max := by simpa [Lit.wf] using h
  exact ⟨h'.1, Int.lt_of_le_of_lt h'.2 (by decide)⟩
theorem wf_u8 {a : Int} (h : (Lit.int .u8 a).wf = true) : 0 ≤ a ∧ a < 256 := by
  have h' : IntKind.u8.min ≤ a ∧ a ≤ IntKind.u8.max := by simpa [Lit.wf] using h
  exact ⟨h'.1, Int.lt_of_le_of_lt h'.2 (by decide)⟩
end Go.AW

/- The engine, 32: regions that draw their order, and append at their end. -/
namespace Go.AW
open Go
set_option linter.unusedVariables false
set_option linter.unusedSimpArgs false
variable {σ : Type}
section
variable {P : Program} {T : TT} {all : List Oper} {O : Outer σ} {n0 : Nat} {r : Option Nat}
/-- the last part of a region, where each operation waits for all before it: it goes in the text's order -/
theorem tail_any {ms : List Nat} (hms : okEdges all ms = true) {Q : Exit → Act → World → Prop} {p : Nat} (htail : ∀ j, p ≤ j → j < all.length → ∀ i, i < j → (ms.getD j 0).testBit i = true) :
    ∀ (fuel q : Nat) (listed : Array Bool) (a : Act) (w : World), q + fuel = all.length → p ≤ q → listed.size = all.length → (∀ i, i < q → listed[i]? = some true) → (∀ i, q ≤ i → i < all.length → listed[i]? = some false) →
    wpOpsIn (FR r) 0 P all.toArray Q ((List.range all.length).drop q) a w → wpAnyIn (FR r) 0 P .any all.toArray Q fuel listed a w := by
  intro fuel
  induction fuel with
  | zero =>
    intro q listed a w hq hpq hsz hl1 hl2 h
    rw [List.drop_eq_nil_of_le (by simp; omega)] at h
    refine ⟨?_, h⟩
    unfold Region.ready
    rw [List.filter_eq_nil_iff]
    intro i hi
    simp only [List.mem_range, List.size_toArray] at hi
    simp [Array.getD_eq_getD_getElem?, hl1 i (by omega)]
  | succ fuel ih =>
    intro q listed a w hq hpq hsz hl1 hl2 h
    have hlt : q < all.length := by omega
    have hr : (List.range all.length).drop q = q :: (List.range all.length).drop (q + 1) := by
      rw [List.drop_eq_getElem_cons (by simpa using hlt)]; simp
    rw [hr, wpOpsIn_cons] at h
    have hoq : all[q]? = some all[q] := List.getElem?_eq_getElem hlt
    have hedge := hms
    simp only [okEdges, List.all_eq_true, List.mem_range] at hedge
    have hqe := hedge q hlt
    simp only [hoq, Bool.and_eq_true, List.all_eq_true, Bool.or_eq_true, Bool.not_eq_true', decide_eq_true_eq] at hqe
    refine ⟨fun hnil => ?_, fun i hi => ?_⟩
    · exfalso
      have : q ∈ Region.ready .any all.toArray listed := by
        unfold Region.ready
        simp only [List.mem_filter, List.mem_range, List.size_toArray, Bool.and_eq_true, Bool.not_eq_true', List.getElem?_toArray]
        refine ⟨hlt, by simp [Array.getD_eq_getD_getElem?, hl2 q (Nat.le_refl _) hlt], ?_⟩
        rw [hoq]
        simp only [Option.map_some, Option.getD_some, Array.all_eq_true', Bool.or_eq_true, Bool.not_eq_true']
        intro e he
        rcases hqe.1 e (by simpa using he) with hb | hb
        · exact .inl hb
        · right
          rw [Array.getD_eq_getD_getElem?, hl1 e.on hb]; rfl
      rw [hnil] at this; cases this
    · -- what is ready is q
      have hiq : i = q := by
        unfold Region.ready at hi
        simp only [List.mem_filter, List.mem_range, List.size_toArray, Bool.and_eq_true, Bool.not_eq_true', List.getElem?_toArray] at hi
        obtain ⟨h1, h2, h3⟩ := hi
        have hoi : all[i]? = some all[i] := List.getElem?_eq_getElem h1
        have hqi : q ≤ i := by
          rcases Nat.lt_or_ge i q with c | c
          · rw [Array.getD_eq_getD_getElem?, hl1 i c] at h2; cases h2
          · exact c
        rcases Nat.lt_or_ge q i with c | c
        · exfalso
          have haf : ∀ e ∈ all[i].after.toList, Region.binds .any e = true → listed[e.on]? = some true := by
            intro e he hb
            rw [hoi] at h3
            simp only [Option.map_some, Option.getD_some, Array.all_eq_true', Bool.or_eq_true, Bool.not_eq_true'] at h3
            have := (h3 e (by simpa using he)).resolve_left (by simp [hb])
            rw [Array.getD_eq_getD_getElem?] at this
            cases hq' : listed[e.on]? with
            | none => simp [hq'] at this
            | some b => simp [hq'] at this; rw [this]
          have hcl : ∀ (j : Nat) (o : Oper), listed[j]? = some true → all[j]? = some o → ∀ e ∈ o.after.toList, Region.binds .any e = true → listed[e.on]? = some true := by
            intro j o hj hoj e he hb
            have hjq : j < q := by
              rcases Nat.lt_or_ge j q with c2 | c2
              · exact c2
              · have hjn := (List.getElem?_eq_some_iff.1 hoj).1
                rw [hl2 j c2 hjn] at hj; cases hj
            have hje := hedge j (by omega)
            simp only [hoj, Bool.and_eq_true, List.all_eq_true, Bool.or_eq_true, Bool.not_eq_true', decide_eq_true_eq] at hje
            have := (hje.1 e (by simpa using he)).resolve_left (by simp [hb])
            exact hl1 e.on (by omega)
          have hms0 := masks_listed hms (L := fun j => listed[j]? = some true) (fun j o hj ho => hcl j o hj ho) i i all[i] (Nat.le_refl _) hoi haf
          have := hms0 q (htail i (by omega) h1 q c)
          rw [hl2 q (Nat.le_refl _) hlt] at this; cases this
        · omega
      subst hiq
      have hset : ∀ j, (listed.setIfInBounds i true)[j]? = if j = i then some true else listed[j]? := by
        intro j
        rw [Array.getElem?_setIfInBounds]
        by_cases hj : i = j
        · subst hj; simp [show i < listed.size by omega]
        · simp [hj, Ne.symm hj]
      have next : ∀ a' w', wpOpsIn (FR r) 0 P all.toArray Q ((List.range all.length).drop (i + 1)) a' w' → wpAnyIn (FR r) 0 P .any all.toArray Q fuel (listed.setIfInBounds i true) a' w' := by
        intro a' w' h'
        refine ih (i + 1) _ a' w' (by omega) (by omega) (by simpa using hsz) (fun j hj => ?_) (fun j hj hj' => ?_) h'
        · rw [hset]
          split
          · rfl
          · exact hl1 j (by omega)
        · rw [hset, if_neg (by omega)]; exact hl2 j (by omega) hj'
      have hoi' : all.toArray[i]? = some all[i] := by simp
      unfold wpOpIn at h ⊢
      simp only [hoi'] at h ⊢
      split
      · rename_i hw
        rw [if_pos hw] at h
        exact Oper.wpIn_mono next h
      · rename_i hw
        rw [if_neg hw] at h
        exact ⟨h.1, next _ _ h.2⟩
/-- **EVERY ORDER** of a region's first part, the rest behind it -/
theorem any_soundT (hT : TOk P T) {ms : List Nat} (hms : okEdges all ms = true) {Q : Exit → Act → World → Prop} {tf : List AV} {sf : List Ob} {x : σ} {p : Nat} (htail : ∀ j, p ≤ j → j < all.length → ∀ i, i < j → (ms.getD j 0).testBit i = true) (hpl : p ≤ all.length) :
    ∀ (fuel : Nat) (R : List Ent) (listed : Array Bool) (μ : MM) (t : List AV) (s : List Ob) (B : Nat → Prop) (a : Act) (w : World),
    R.length + (all.length - p) = fuel → listed.size = all.length → (∀ i, p ≤ i → i < all.length → listed[i]? = some false) →
    R.Pairwise (fun A B => A.i < B.i ∧ ((ms.getD B.i 0).testBit A.i = true ∨ Apart all A B)) →
    (∀ E ∈ R, all[E.i]? = some E.o ∧ listed[E.i]? = some false ∧ n0 ≤ E.id ∧ E.i < p) →
    (∀ i, listed[i]? = some false → i < p → ∃ E ∈ R, E.i = i) →
    (∀ (i : Nat) (o : Oper), listed[i]? = some true → all[i]? = some o → ∀ e ∈ o.after.toList, Region.binds .any e = true → listed[e.on]? = some true) →
    Run P T all R t s tf sf → SR O μ t s x B a w → n0 ≤ s.length →
    (∀ μ' B' a' w', SR O μ' tf sf x B' a' w' → After n0 μ s B w μ' sf B' w' → a'.defers = a.defers → s.length ≤ sf.length → wpOpsIn (FR r) 0 P all.toArray Q ((List.range all.length).drop p) a' w') →
    wpAnyIn (FR r) 0 P .any all.toArray Q fuel listed a w := by
  intro fuel
  induction fuel with
  | zero =>
    intro R listed μ t s B a w hlen hsz hlo hpw hR hL hcl hrun hsr hn hQ
    obtain rfl : R = [] := List.length_eq_zero_iff.1 (by omega)
    obtain ⟨rfl, rfl⟩ := hrun
    refine tail_any hms htail 0 p listed a w (by omega) (Nat.le_refl _) hsz (fun i hi => ?_) hlo (hQ μ B a w hsr (After.refl hn hsr.sep) rfl (Nat.le_refl _))
    rw [Array.getElem?_eq_getElem (by omega)]
    cases hb : listed[i] with
    | true => rfl
    | false => obtain ⟨E, hE, _⟩ := hL i (by rw [Array.getElem?_eq_getElem (by omega), hb]) hi; cases hE
  | succ fuel ih =>
    intro R listed μ t s B a w hlen hsz hlo hpw hR hL hcl hrun hsr hn hQ
    by_cases hRn : R = []
    · subst hRn
      obtain ⟨rfl, rfl⟩ := hrun
      simp only [List.length_nil, Nat.zero_add] at hlen
      refine tail_any hms htail (fuel + 1) p listed a w (by omega) (Nat.le_refl _) hsz (fun i hi => ?_) hlo (hQ μ B a w hsr (After.refl hn hsr.sep) rfl (Nat.le_refl _))
      rw [Array.getElem?_eq_getElem (by omega)]
      cases hb : listed[i] with
      | true => rfl
      | false => obtain ⟨E, hE, _⟩ := hL i (by rw [Array.getElem?_eq_getElem (by omega), hb]) hi; cases hE
    have hready : ∀ i, i ∈ Region.ready .any all.toArray listed → ∃ o, all[i]? = some o ∧ listed[i]? = some false ∧ ∀ e ∈ o.after.toList, Region.binds .any e = true → listed[e.on]? = some true := by
      intro i hi
      unfold Region.ready at hi
      simp only [List.mem_filter, List.mem_range, List.size_toArray, Bool.and_eq_true, Bool.not_eq_true', List.getElem?_toArray] at hi
      obtain ⟨h1, h2, h3⟩ := hi
      refine ⟨all[i], List.getElem?_eq_getElem h1, ?_, ?_⟩
      · have hlt : i < listed.size := by omega
        rw [Array.getElem?_eq_getElem hlt]
        simpa [Array.getD_eq_getD_getElem?, Array.getElem?_eq_getElem hlt] using h2
      · intro e he hb
        rw [List.getElem?_eq_getElem h1] at h3
        simp only [Option.map_some, Option.getD_some, Array.all_eq_true', Bool.or_eq_true, Bool.not_eq_true'] at h3
        have := (h3 e (by simpa using he)).resolve_left (by simp [hb])
        rw [Array.getD_eq_getD_getElem?] at this
        cases hq : listed[e.on]? with
        | none => simp [hq] at this
        | some b => simp [hq] at this; rw [this]
    constructor
    · -- something is ready
      intro hnil
      exfalso
      cases R with
      | nil => exact hRn rfl
      | cons E R =>
        obtain ⟨h1, h2, h3, h4⟩ := hR E (by simp)
        have hlt := (List.getElem?_eq_some_iff.1 h1).1
        have : E.i ∈ Region.ready .any all.toArray listed := by
          unfold Region.ready
          simp only [List.mem_filter, List.mem_range, List.size_toArray, Bool.and_eq_true, Bool.not_eq_true', List.getElem?_toArray]
          refine ⟨hlt, by simp [Array.getD_eq_getD_getElem?, h2], ?_⟩
          rw [h1]
          simp only [Option.map_some, Option.getD_some, Array.all_eq_true', Bool.or_eq_true, Bool.not_eq_true']
          intro e he
          cases hb : Region.binds .any e with
          | false => exact .inl rfl
          | true =>
            right
            have hok := hms
            simp only [okEdges, List.all_eq_true, List.mem_range] at hok
            have hok := hok E.i hlt
            simp only [h1, Bool.and_eq_true, List.all_eq_true, beq_iff_eq, Bool.or_eq_true, Bool.not_eq_true', decide_eq_true_eq] at hok
            have hlt' := (hok.1 e (by simpa using he)).resolve_left (by simp [hb])
            have hsz' : e.on < listed.size := by omega
            rw [Array.getD_eq_getD_getElem?, Array.getElem?_eq_getElem hsz', Option.getD_some]
            cases hq : listed[e.on] with
            | true => rfl
            | false =>
              obtain ⟨E', hE', he'⟩ := hL e.on (by rw [Array.getElem?_eq_getElem hsz', hq]) (by omega)
              rcases List.mem_cons.1 hE' with rfl | hE'
              · omega
              · have := ((List.pairwise_cons.1 hpw).1 E' hE').1
                omega
        rw [hnil] at this
        cases this
    · intro i hi
      obtain ⟨o, ho, hli, haf⟩ := hready i hi
      have hip : i < p := by
        rcases Nat.lt_or_ge i p with q | q
        · exact q
        · exfalso
          have hms0 := masks_listed hms (L := fun j => listed[j]? = some true) (fun i o hi ho => hcl i o hi ho) i i o (Nat.le_refl _) ho haf
          obtain ⟨E, hE⟩ := List.exists_mem_of_ne_nil R hRn
          obtain ⟨_, h2, _, h4⟩ := hR E hE
          have := hms0 E.i (htail i q (List.getElem?_eq_some_iff.1 ho).1 E.i (by omega))
          rw [h2] at this; cases this
      obtain ⟨E, hE, rfl⟩ := hL i hli hip
      obtain ⟨ho', _, hid, _⟩ := hR E hE
      obtain rfl : E.o = o := Option.some.inj (ho'.symm.trans ho)
      obtain ⟨R1, R2, rfl⟩ := List.append_of_mem hE
      have hms' := masks_listed hms (L := fun j => listed[j]? = some true) (fun i o hi ho => hcl i o hi ho) E.i E.i E.o (Nat.le_refl _) ho haf
      have hap : ∀ A ∈ R1, Apart all A E := by
        intro A hA
        have h1 := (List.pairwise_append.1 hpw).2.2 A hA E (by simp)
        refine h1.2.resolve_left fun hb => ?_
        have := hms' A.i hb
        rw [(hR A (by simp [hA])).2.1] at this
        cases this
      have hrun' := Run.front hap hrun
      obtain ⟨g1, g2, g3, g4⟩ := hrun'
      -- what is left
      have hpw' : (R1 ++ R2).Pairwise (fun A B => A.i < B.i ∧ ((ms.getD B.i 0).testBit A.i = true ∨ Apart all A B)) := hpw.sublist (by simp)
      have hne : ∀ A ∈ R1 ++ R2, A.i ≠ E.i := by
        intro A hA
        rcases List.mem_append.1 hA with hA | hA
        · have := ((List.pairwise_append.1 hpw).2.2 A hA E (by simp)).1
          omega
        · have := ((List.pairwise_cons.1 (List.pairwise_append.1 hpw).2.1).1 A hA).1
          omega
      have hlt : E.i < listed.size := by
        rcases Nat.lt_or_ge E.i listed.size with q | q
        · exact q
        · rw [Array.getElem?_eq_none q] at hli; cases hli
      have hset : ∀ j, (listed.setIfInBounds E.i true)[j]? = if j = E.i then some true else listed[j]? := by
        intro j
        rw [Array.getElem?_setIfInBounds]
        by_cases hj : E.i = j
        · subst hj; simp [hlt]
        · simp [hj, Ne.symm hj]
      have next : ∀ (μ' : MM) (B' : Nat → Prop) (a' : Act) (w' : World), SR O μ' (putL t E.o.dst E.v) (E.e.app s) x B' a' w' → After n0 μ s B w μ' (E.e.app s) B' w' → a'.defers = a.defers → s.length ≤ (E.e.app s).length →
          wpAnyIn (FR r) 0 P .any all.toArray Q fuel (listed.setIfInBounds E.i true) a' w' := by
        intro μ' B' a' w' hsr' haft hdf hle
        refine ih (R1 ++ R2) _ μ' _ _ B' a' w' ?_ ?_ ?_ hpw' ?_ ?_ ?_ g4 hsr' haft.len ?_
        · simp at hlen ⊢; omega
        · simpa using hsz
        · intro j hj hj'
          rw [hset, if_neg (by omega)]; exact hlo j hj hj'
        · intro A hA
          have := hR A (by simp at hA ⊢; rcases hA with h | h <;> simp [h])
          refine ⟨this.1, ?_, this.2.2⟩
          rw [hset, if_neg (hne A hA)]; exact this.2.1
        · intro j hj hjp
          rw [hset] at hj
          split at hj
          · cases hj
          · rename_i hji
            obtain ⟨A, hA, rfl⟩ := hL j hj hjp
            refine ⟨A, ?_, rfl⟩
            simp only [List.mem_append, List.mem_cons] at hA ⊢
            rcases hA with h | rfl | h
            · exact .inl h
            · exact absurd rfl hji
            · exact .inr h
        · intro j o hj hoj e he hb
          rw [hset]
          split
          · rfl
          · rw [hset] at hj
            split at hj
            · rename_i hji
              subst hji
              obtain rfl : E.o = o := Option.some.inj (ho.symm.trans hoj)
              exact haf e he hb
            · exact hcl j o hj hoj e he hb
        · intro μ'' B'' a'' w'' h1 h2 h3 h4
          exact hQ _ _ _ _ h1 (haft.trans h2) (h3.trans hdf) (Nat.le_trans hle h4)
      unfold wpOpIn
      simp only [List.getElem?_toArray, ho]
      unfold LS dstep at g1
      have hg := guardK_sound hsr.tm g1
      rcases (cond_iff _ _ _).1 hg with ⟨hw, hg⟩ | ⟨hw, hg⟩
      · rw [if_pos hw]
        have hop := dop_aoper (O := O) (n0 := n0) (k := fun t' s' x' => t' = putL t E.o.dst E.v ∧ s' = E.e.app s ∧ x' = x) x hg ⟨rfl, rfl, rfl⟩
        refine Oper.wpIn_mono ?_ (aoper_sound hT hsr hn hid (fun hm => (g3 hm).1) hop)
        rintro a' w' ⟨t', s', x', μ', B', ⟨rfl, rfl, rfl⟩, hsr', haft, hdf, hle, _⟩
        exact next μ' B' a' w' hsr' haft hdf hle
      · rw [if_neg (by rw [hw]; simp)]
        obtain ⟨hv, he, _⟩ := hg
        refine ⟨fun f _ => trivial, ?_⟩
        obtain ⟨h2, h3⟩ := hsr.step (Stp.refl (id := E.id) hsr.rel) hn hid (dst := E.o.dst) (v := .tup []) (c := undef) (by simp only [VR]; exact ⟨[], rfl, by simp [VRL]⟩)
        have happ : E.e.app s = s := by rw [← he]; simp [DE.app, setsL]
        refine next μ B _ w ?_ ?_ (put_defers _ _ _) ?_
        · rw [happ, ← hv]; exact h2
        · rw [happ]; exact After.refl hn hsr.sep
        · rw [happ]; exact Nat.le_refl _

variable {t : List AV} {s : List Ob} {x : σ} {μ : MM} {B : Nat → Prop} {a : Act} {w : World}
theorem adops_runT {K : List AV → List Ob → List EI → Prop} : ∀ (ops : List Oper) (i id : Nat) (t : List AV) (s : List Ob) (fps : List EI), (∀ (n : Nat) (o : Oper), ops[n]? = some o → all[i + n]? = some o) → n0 ≤ id → adops P T all ops id t s fps K →
    ∃ R tf sf, Run P T all R t s tf sf ∧ K tf sf (fps ++ R.map Ent.ei) ∧ R.length = ops.length ∧ ∀ (n : Nat) (E : Ent), R[n]? = some E → E.i = i + n ∧ all[i + n]? = some E.o ∧ n0 ≤ E.id
  | [], i, id, t, s, fps, hi, hid, h => ⟨[], t, s, ⟨rfl, rfl⟩, by simpa [adops] using h, rfl, by simp⟩
  | o :: ops, i, id, t, s, fps, hi, hid, h => by
    simp only [adops_cons, idK_iff] at h
    obtain ⟨v, e, fp, h, hls⟩ := dstep_det h
    obtain ⟨hok, h⟩ := (andK_iff _ _).1 h
    rw [putK_iff, setsK_iff, appK_iff] at h
    have hoi : all[i]? = some o := by simpa using hi 0 o rfl
    have hrest : ∀ (n : Nat) (o : Oper), ops[n]? = some o → all[i + 1 + n]? = some o := by
      intro n o' hn
      have := hi (n + 1) o' (by simpa using hn)
      rwa [show i + (n + 1) = i + 1 + n by omega] at this
    obtain ⟨R, tf, sf, h1, h2, h3, h4⟩ := adops_runT ops (i + 1) _ _ _ _ hrest (by cases Op.makes o.op <;> simp <;> omega) h
    rw [Bool.and_eq_true] at hok
    have hfp : Op.makes o.op = true → (id, true) ∈ fp := by
      intro hm
      unfold LS dstep at hls
      obtain ⟨b, hls, _⟩ := guardK_ex hls
      rcases (cond_iff _ _ _).1 hls with ⟨_, hls⟩ | ⟨_, hls⟩
      · obtain ⟨_, _, fp', ⟨_, _, h5⟩, _⟩ := dop_det hls
        rw [← h5]; simp [mkFp, hm]
      · rw [← hls.2.2]; simp [mkFp, hm]
    refine ⟨⟨i, o, id, v, e, fp⟩ :: R, tf, sf, ⟨hls, hok.1, fun hm => ⟨?_, hfp hm⟩, h1⟩, ?_, by simp [h3], ?_⟩
    · have := hok.2
      simp only [mkOk, hm, Bool.not_true, Bool.false_or] at this
      split at this
      · assumption
      · cases this
    · simpa [Ent.ei] using h2
    · intro n E hE
      cases n with
      | zero =>
        obtain rfl : _ = E := by simpa using hE
        exact ⟨rfl, hoi, hid⟩
      | succ n =>
        obtain ⟨g1, g2, g3⟩ := h4 n E (by simpa using hE)
        refine ⟨by omega, ?_, g3⟩
        rw [← g2]; congr 1; omega


def isApp (o : Oper) : Bool := match o.op with
  | .call c => match c.callee with
    | .builtin .append => true
    | _ => false
  | _ => false
/-- the place of the first append -/
def cutAt : List Oper → Nat
  | [] => 0
  | o :: r => cond (isApp o) 0 (cutAt r + 1)

def okPairsT (p : Nat) (all : List Oper) (ms : List Nat) (fps : List EI) : Bool :=
  let aa := all.toArray
  (List.range p).all fun j => (List.range j).all fun i =>
    (ms.getD j 0).testBit i || match all[i]?, all[j]?, fps[i]?, fps[j]? with
      | some x, some y, some f, some g => Oper.apart aa x y && (noConf f.fp g.fp || soft x y) && !(f.call && g.grow) && !(g.call && f.grow)
      | _, _, _, _ => false
def okTail (p : Nat) (all : List Oper) (ms : List Nat) : Bool := (List.range all.length).all fun j => decide (j < p) || (List.range j).all fun i => (ms.getD j 0).testBit i
def okDrawT (p : Nat) (all : List Oper) (fps : List EI) : Bool := let ms := masks all []; okEdges all ms && okPairsT p all ms fps && okTail p all ms && decide (p ≤ all.length)
def deadsAt (s : List Ob) (id : Nat) : Nat → Bool
  | 0 => true
  | n + 1 => (match s[id + n]? with | some .dead => true | _ => false) && deadsAt s id n
theorem deadsAt_get {s : List Ob} {id : Nat} : ∀ {n : Nat}, deadsAt s id n = true → ∀ j, j < n → s[id + j]? = some .dead
  | 0, _, j, hj => by omega
  | n + 1, h, j, hj => by
    simp only [deadsAt, Bool.and_eq_true] at h
    rcases Nat.lt_or_ge j n with q | q
    · exact deadsAt_get h.2 j q
    · obtain rfl : j = n := by omega
      have := h.1
      split at this
      · assumption
      · cases this

/-- (a reckoning stops there) -/
structure OkT (p : Nat) (all : List Oper) (fps : List EI) : Prop where
  ok : okDrawT p all fps = true

def drawTK (P : Program) (O : Outer σ) (T : TT) (n0 : Nat) (ops : List Oper) (p : Nat) (t : List AV) (s : List Ob) (x : σ) (k : List AV → List Ob → σ → Prop) : Prop :=
  mkK n0 s (nMakes ops) fun base s1 => adops P T ops (ops.take p) base t s1 [] fun t' s' fps => OkT p ops fps ∧ andK (deadsAt s' (base + nMakes (ops.take p)) (nMakes (ops.drop p)))
    (aops P O T n0 ops (ops.drop p) (base + nMakes (ops.take p)) t' s' x k)

/-- **A REGION THAT DRAWS ITS ORDER, and appends at its end.** -/
theorem AW_drawT (hT : TOk P T) (hP : P.follows .mixedOrders = true) {id : Nat} {ops : Array Oper} {k : AExit → List AV → List Ob → σ → Prop} (h : drawTK P O T n0 ops.toList (cutAt ops.toList) t s x fun t' s' x' => k .normal t' s' x') :
    AWs P O n0 r (.region id ops true) t s x k := by
  refine ⟨?_⟩
  intro hn nb μ B a w hs hm
  refine wpIn_region_any hP ?_
  generalize hp : cutAt ops.toList = p at h
  obtain ⟨base, s1, h, hdd, hb, hs1, haf⟩ := room_sound hn hs h
  obtain ⟨R, tf, sf, hrun, hk, hlen, hR⟩ := adops_runT (n0 := n0) (all := ops.toList) (ops.toList.take p) 0 base t s1 [] (fun n o ho => by rw [List.getElem?_take] at ho; split at ho; rw [Nat.zero_add]; exact ho; cases ho) hb h
  obtain ⟨⟨hok⟩, hk⟩ := hk
  obtain ⟨hdead, hk⟩ := (andK_iff _ _).1 hk
  simp only [okDrawT, Bool.and_eq_true, List.nil_append, decide_eq_true_eq] at hok
  obtain ⟨⟨⟨ok1, ok2⟩, ok3⟩, ok4⟩ := hok
  have hlen' : R.length = p := by rw [hlen, List.length_take]; omega
  have hfr : ∀ R', Fr R' w { w with drawn := w.drawn + 1 } := fun _ => ⟨rfl, rfl, rfl, Nat.le_refl _, fun _ _ _ => rfl, fun _ h => h⟩
  have hrel : Rel μ s1 { w with drawn := w.drawn + 1 } := ⟨hs1.rel.ob, hs1.rel.sep⟩
  have hs2 : SR O μ t s1 x B a { w with drawn := w.drawn + 1 } := ⟨hs1.tm, hrel, O.keep _ _ _ _ (fun _ => False) hs1.out (hfr _) (fun _ _ h => h), hs1.sep⟩
  have hle : n0 ≤ s1.length := haf.len
  have haf1 : After n0 μ s1 B w μ s1 B { w with drawn := w.drawn + 1 } := ⟨fun _ _ => rfl, fun _ _ h => h, fun _ _ h => h, hle, hfr _, fun _ h => .inl h, fun _ h => .inl h, fun _ h => .inl h, hs1.sep⟩
  have htail : ∀ j, p ≤ j → j < ops.toList.length → ∀ i, i < j → ((masks ops.toList []).getD j 0).testBit i = true := by
    intro j hj hj' i hi
    simp only [okTail, List.all_eq_true, List.mem_range, Bool.or_eq_true, decide_eq_true_eq] at ok3
    exact (ok3 j hj').resolve_left (by omega) i hi
  have := any_soundT (O := O) (n0 := n0) (r := r) (all := ops.toList) (x := x) (Q := APost O nb n0 μ s B w k) hT ok1 htail ok4 ops.size R (Array.replicate ops.size false) μ t s1 B a _ (by simp at ok4 ⊢; omega) (by simp) ?_ ?_ ?_ ?_ ?_ hrun hs2 hle ?_
  · simpa using this
  · intro i _ hi
    rw [Array.getElem?_eq_getElem (by simpa using hi)]; simp
  · rw [List.pairwise_iff_getElem]
    intro i j hi hj hij
    have e1 := hR i R[i] (List.getElem?_eq_getElem hi)
    have e2 := hR j R[j] (List.getElem?_eq_getElem hj)
    refine ⟨by omega, ?_⟩
    have hq := ok2
    simp only [okPairsT, List.all_eq_true, List.mem_range] at hq
    have hq := hq j (by omega) i hij
    rw [Bool.or_eq_true] at hq
    rw [e1.1, e2.1, Nat.zero_add, Nat.zero_add]
    rcases hq with hq | hq
    · exact .inl hq
    · right
      rw [Nat.zero_add] at e1 e2
      simp only [e1.2.1, e2.2.1, List.getElem?_map, List.getElem?_eq_getElem hi, List.getElem?_eq_getElem hj, Option.map_some, Ent.ei, Bool.and_eq_true, Bool.not_eq_true', Bool.and_eq_false_iff, Bool.not_eq_false'] at hq
      obtain ⟨⟨⟨h1, h2⟩, h3⟩, h4⟩ := hq
      exact ⟨by simpa using h1, h2, fun hc => by rcases h3 with h | h; rw [hc] at h; cases h; simpa using h, fun hc => by rcases h4 with h | h; rw [hc] at h; cases h; simpa using h⟩
  · intro E hE
    obtain ⟨n, hn', rfl⟩ := List.mem_iff_getElem.1 hE
    obtain ⟨g1, g2, g3⟩ := hR n _ (List.getElem?_eq_getElem hn')
    rw [Nat.zero_add] at g1 g2
    refine ⟨by rw [g1]; exact g2, ?_, g3, by omega⟩
    rw [g1]
    have : n < ops.size := by have := (List.getElem?_eq_some_iff.1 g2).1; simpa using this
    rw [Array.getElem?_eq_getElem (by simpa using this)]
    simp
  · intro i hi hip
    exact ⟨R[i]'(by omega), List.getElem_mem _, by have := (hR i _ (List.getElem?_eq_getElem (by omega))).1; omega⟩
  · intro i o hi
    rcases Nat.lt_or_ge i ops.size with q | q
    · rw [Array.getElem?_eq_getElem (by simpa using q)] at hi; simp at hi
    · rw [Array.getElem?_eq_none (by simpa using q)] at hi; cases hi
  · intro μ' B' a' w' h1 h2 h3 h4
    refine aops_sound (Q := APost O nb n0 μ s B w k) (r := r) hT (ops.toList.drop p) p _ μ' tf sf x B' a' w' rfl h1 h2.len (by omega) (fun j hj => deadsAt_get hdead j hj) hk ?_
    intro t' s' x' μ'' B'' a'' w'' hk' hs' haf' hdf _
    have haf2 := haf.trans (haf1.trans (h2.trans haf'))
    exact ⟨.normal, t', s', x', μ'', B'', rfl, hk', hs', haf2, hm.after hs.rel haf2 (hdf.trans h3)⟩
end
end Go.AW

/- The engine, 33: calls within a drawn region, their results told by variables; places in rows. -/
namespace Go.AW
open Go
set_option linter.unusedVariables false
section
variable {P : Program} {f : FuncId} {args : List AV} {s : List Ob} {K : List Nat → AV → List (Nat × Ob) → List Ob → Prop}
theorem AQ_int {k : IntKind} {n : Int} (h : ∀ (s : List Ob) (Q : AV → List Ob → Prop), (∀ v, v = n → Q (.int k v) s) → AC P f args s Q) (hk : ∀ v, v = n → K [] (.int k v) [] []) : AQ P f args s K :=
  AQ_pure (fun s Q q => h s Q fun v hv => by rw [hv]; exact q) (hk n rfl)
theorem AQ_bool {n : Bool} (h : ∀ (s : List Ob) (Q : AV → List Ob → Prop), (∀ v, v = n → Q (.bool v) s) → AC P f args s Q) (hk : ∀ v, v = n → K [] (.bool v) [] []) : AQ P f args s K :=
  AQ_pure (fun s Q q => h s Q fun v hv => by rw [hv]; exact q) (hk n rfl)
theorem AQ_vec {k : IntKind} {a b c : Int} (h : ∀ (s : List Ob) (Q : AV → List Ob → Prop), (∀ u v w, u = a → v = b → w = c → Q (.agg [.int k u, .int k v, .int k w]) s) → AC P f args s Q) (hk : ∀ u v w, u = a → v = b → w = c → K [] (.agg [.int k u, .int k v, .int k w]) [] []) : AQ P f args s K :=
  AQ_pure (fun s Q q => h s Q fun u v w hu hv hw => by rw [hu, hv, hw]; exact q) (hk a b c rfl rfl rfl)
theorem AQ_two {k k' : IntKind} {a b : Int} (h : ∀ (s : List Ob) (Q : AV → List Ob → Prop), (∀ u v, u = a → v = b → Q (.tup [.int k u, .int k' v]) s) → AC P f args s Q) (hk : ∀ u v, u = a → v = b → K [] (.tup [.int k u, .int k' v]) [] []) : AQ P f args s K :=
  AQ_pure (fun s Q q => h s Q fun u v hu hv => by rw [hu, hv]; exact q) (hk a b rfl rfl)
theorem AQ_ib {k : IntKind} {a : Int} {b : Bool} (h : ∀ (s : List Ob) (Q : AV → List Ob → Prop), (∀ u v, u = a → v = b → Q (.tup [.int k u, .bool v]) s) → AC P f args s Q) (hk : ∀ u v, u = a → v = b → K [] (.tup [.int k u, .bool v]) [] []) : AQ P f args s K :=
  AQ_pure (fun s Q q => h s Q fun u v hu hv => by rw [hu, hv]; exact q) (hk a b rfl rfl)
/-- a struct of two numbers -/
theorem AQ_pair {k k' : IntKind} {a b : Int} (h : ∀ (s : List Ob) (Q : AV → List Ob → Prop), (∀ u v, u = a → v = b → Q (.agg [.int k u, .int k' v]) s) → AC P f args s Q) (hk : ∀ u v, u = a → v = b → K [] (.agg [.int k u, .int k' v]) [] []) : AQ P f args s K :=
  AQ_pure (fun s Q q => h s Q fun u v hu hv => by rw [hu, hv]; exact q) (hk a b rfl rfl)
end
theorem AC_pureR {P : Program} {f : FuncId} {args : List AV} {s : List Ob} {Q : AV → List Ob → Prop} {r : AV} (h : ∀ (s : List Ob) (Q : AV → List Ob → Prop), Q r s → AC P f args s Q) (hk : Q r s) : AC P f args s Q := h s Q hk
theorem wf_u16 {a : Int} (h : (Lit.int .u16 a).wf = true) : 0 ≤ a ∧ a < 65536 := by
  have h' : IntKind.u16.min ≤ a ∧ a ≤ IntKind.u16.max := by simpa [Lit.wf] using h
  exact ⟨h'.1, Int.lt_of_le_of_lt h'.2 (by decide)⟩
/-- rows of two numbers of 64 bits -/
def Fit2 (rows : List (List Int)) : Prop := ∀ k : Nat, k < rows.length → ∃ x y : Int, rows.getD k [] = [x, y] ∧ (-9223372036854775808 ≤ x ∧ x < 9223372036854775808) ∧ (-9223372036854775808 ≤ y ∧ y < 9223372036854775808)
theorem fit2_of {rows : List (List Int)} (h : ∀ r ∈ rows, fitK [.ik .i64, .ik .i64] r) : Fit2 rows := by
  intro k hk
  have hm : rows.getD k [] ∈ rows := by rw [List.getD_eq_getElem?_getD, List.getElem?_eq_getElem hk]; exact List.getElem_mem _
  obtain ⟨x, r1, e1, g1, y, r2, e2, g2, hn⟩ := h _ hm
  refine ⟨x, y, ?_, wf_i64 g1, wf_i64 g2⟩
  rw [e1, e2, show r2 = [] from hn]
/-- a place in a row of an object -/
theorem rowI {k : Int} {n : Nat} {x : Prop} (h0 : 0 ≤ k) (h : k < n) (hx : x) : andK (decide (0 + k.toNat < n)) x := andI (by simp; omega) hx
theorem rowI' {k : Int} {n : Nat} {x : Prop} (h0 : 0 ≤ k) (h : k < n) (hx : x) : andK (decide (k.toNat < n)) x := andI (by simp; omega) hx
end Go.AW

/- Engine 34: a call that reads some objects, which may hold one another, and changes one flat one. -/
namespace Go.AW
open Go
set_option linter.unusedVariables false
theorem setAll_set (ids : List Nat) (X s : List Ob) (hnd : ids.Nodup) (hlen : X.length = ids.length) (hX : ∀ (i j : Nat) (ob : Ob), ids[i]? = some j → X[i]? = some ob → s[j]? = some ob) (m j : Nat) (hm : ids[m]? = some j) (o : Ob) : setAll ids (X.set m o) s = s.set j o := by
  have hin : ∀ i ∈ ids, i < s.length := by
    intro i hi
    obtain ⟨q, hq⟩ := List.getElem?_of_mem hi
    have hq' : q < X.length := by have := (List.getElem?_eq_some_iff.1 hq).1; omega
    exact (List.getElem?_eq_some_iff.1 (hX q i X[q] hq (List.getElem?_eq_getElem hq'))).1
  have hmX : m < X.length := by have := (List.getElem?_eq_some_iff.1 hm).1; omega
  apply List.ext_getElem?
  intro q
  by_cases hq : q ∈ ids
  · obtain ⟨p, hp⟩ := List.getElem?_of_mem hq
    have hpX : p < X.length := by have := (List.getElem?_eq_some_iff.1 hp).1; omega
    by_cases e : m = p
    · subst e
      obtain rfl : j = q := Option.some.inj (hm.symm.trans hp)
      rw [setAll_at ids _ s m j o hnd hin hm (by rw [List.getElem?_set_self hmX]), List.getElem?_set_self (hin j hq)]
    · have e2 : (X.set m o)[p]? = some X[p] := by rw [List.getElem?_set_ne e, List.getElem?_eq_getElem hpX]
      rw [setAll_at ids _ s p q X[p] hnd hin hp e2]
      have e3 : j ≠ q := by
        rintro rfl
        exact e ((List.getElem?_inj (List.getElem?_eq_some_iff.1 hm).1 hnd).1 (hm.trans hp.symm))
      rw [List.getElem?_set_ne e3]
      exact (hX p q _ hp (List.getElem?_eq_getElem hpX)).symm
  · rw [setAll_other _ _ _ _ hq]
    have e3 : j ≠ q := by rintro rfl; exact hq (List.mem_of_getElem? hm)
    rw [List.getElem?_set_ne e3]

theorem AC_upd {P : Program} {f : FuncId} {args' : List AV} {s L : List Ob} {Q : AV → List Ob → Prop} (ids : List Nat) (hnd : ids.Nodup) (hlen : L.length = ids.length)
    (hcl : ∀ N, L.map (Ob.ren (rho (List.range L.length) N)) = L)
    (hL : ∀ (i j : Nat) (ob : Ob), ids[i]? = some j → L[i]? = some ob → s[j]? = some (ob.ren (rho ids s.length))) (m j : Nat) (hm : ids[m]? = some j)
    (h : AC P f args' L fun r s' => takeK s' L.length fun l => r.flat = true ∧ ∃ ob', ob'.flat = true ∧ l = L.set m ob' ∧ Q r (s.set j ob')) : AC P f (AV.ren.renL (rho ids s.length) args') s Q := by
  refine ⟨ACo_local ids hnd hlen hL (ACo_export (h.of.mono ?_))⟩
  rintro r s' _ hk
  obtain ⟨hle, hr, ob', hf, hl, hQ⟩ := (takeK_iff _ _ _).1 hk
  have hcl' : ∀ N (i : Nat) (ob : Ob), L[i]? = some ob → ob.ren (rho (List.range L.length) N) = ob := by
    intro N i ob hi
    have := congrArg (fun l => l[i]?) (hcl N)
    simp only [List.getElem?_map, hi, Option.map_some, Option.some.injEq] at this
    exact this
  refine ⟨r, L.set m ob', ⟨List.range L.length, List.nodup_range, by simp, by simp, fun i hi => List.getElem?_range hi, fun i q ob hi hob => ?_, ((renL_flat _).1 r hr).symm⟩, ?_⟩
  · have hil : i < L.length := by have := (List.getElem?_eq_some_iff.1 hi).1; simpa using this
    rw [List.getElem?_range hil] at hi
    obtain rfl := Option.some.inj hi
    have e1 : s'[i]? = (s'.take L.length)[i]? := by rw [List.getElem?_take_of_lt hil]
    have e2 : ob.ren (rho (List.range L.length) s'.length) = ob := by
      by_cases e : m = i
      · subst e
        rw [List.getElem?_set_self hil] at hob
        obtain rfl := Option.some.inj hob
        exact Ob.ren_flat _ hf
      · rw [List.getElem?_set_ne e] at hob
        exact hcl' _ i ob hob
    rw [e1, hl, hob, e2]
  · rw [(renL_flat _).1 r hr, List.drop_eq_nil_of_le (by simp [hlen]), List.map_nil, List.append_nil, List.map_set, Ob.ren_flat _ hf]
    rw [setAll_set ids _ s hnd (by simp [hlen]) (fun i q ob hi hob => ?_) m j hm]
    · exact hQ
    · rw [List.getElem?_map] at hob
      cases hx : L[i]? with
      | none => rw [hx] at hob; cases hob
      | some o =>
        rw [hx] at hob
        obtain rfl := Option.some.inj hob
        exact hL i q o hi hx
/-- a call that reads some objects and changes one, in a drawn region -/
theorem AQ_upd {P : Program} {f : FuncId} {args : List AV} {s : List Ob} {K : List Nat → AV → List (Nat × Ob) → List Ob → Prop} (C : List Nat) {r : AV} (j : Nat) (ob' : Ob) (h : ∀ (s' : List Ob) (Q : AV → List Ob → Prop), s'.length = s.length → (∀ i ∈ C, s'[i]? = s[i]?) → Q r (s'.set j ob') → AC P f args s' Q) (hk : K C r [(j, ob')] []) : AQ P f args s K :=
  ⟨C, r, [(j, ob')], [], fun s' hl hC _ => h s' _ hl hC ⟨rfl, by simp [setsL]⟩, hk⟩
end Go.AW

/- Engine 35: loops whose states are told by what changes alone. -/
namespace Go.AW
open Go
set_option linter.unusedVariables false
set_option linter.unusedSimpArgs false

def writesO : List Oper → List Nat
  | [] => []
  | o :: r => match o.dst with
    | some d => d :: writesO r
    | none => writesO r
/-- the tmps that a code writes -/
noncomputable def writesC (c : Code) : List Nat :=
  @Code.rec (fun _ => List Nat) [] (fun _ ops _ => writesO ops.toList) (fun _ _ a b => a ++ b) (fun _ _ _ a b => a ++ b) (fun _ _ b => b) (fun _ b => b) (fun _ ps _ _ a b => ps.toList ++ (a ++ b)) (fun _ => []) (fun _ b => b) (fun _ => []) (fun _ => []) [] (fun _ => []) c
def elemN (i : Nat) : List Nat → Bool
  | [] => false
  | j :: r => cond (Nat.beq i j) true (elemN i r)
/-- a place's new value, if it is told -/
def lookK (i : Nat) : List Nat → List AV → (AV → Prop) → Prop → Prop
  | p :: ps, v :: vs, k, z => cond (Nat.beq i p) (k v) (lookK i ps vs k z)
  | _, _, _, z => z
def lookD (i : Nat) : List Nat → List AV → AV → AV
  | p :: ps, v :: vs, z => cond (Nat.beq i p) v (lookD i ps vs z)
  | _, _, z => z
theorem lookK_iff (i : Nat) (k : AV → Prop) (z : AV) : ∀ (ps : List Nat) (vs : List AV), lookK i ps vs k (k z) ↔ k (lookD i ps vs z)
  | [], vs => by unfold lookK lookD; exact Iff.rfl
  | p :: ps, [] => by unfold lookK lookD; exact Iff.rfl
  | p :: ps, v :: vs => by
    unfold lookK lookD
    cases Nat.beq i p
    · exact lookK_iff i k z ps vs
    · exact Iff.rfl
/-- tmps: what is written is forgotten, but for what is told -/
def updT (W ps : List Nat) (vs : List AV) : Nat → List AV → List AV
  | _, [] => []
  | i, v :: l => lookD i ps vs (cond (elemN i W) .junk v) :: updT W ps vs (i + 1) l
def updK (W ps : List Nat) (vs : List AV) : Nat → List AV → (List AV → Prop) → Prop
  | _, [], k => k []
  | i, v :: l, k => updK W ps vs (i + 1) l fun r => lookK i ps vs (fun u => k (u :: r)) (cond (elemN i W) (k (.junk :: r)) (k (v :: r)))
theorem updK_iff (W ps : List Nat) (vs : List AV) : ∀ (i : Nat) (t : List AV) (k : List AV → Prop), updK W ps vs i t k ↔ k (updT W ps vs i t)
  | _, [], k => Iff.rfl
  | i, v :: l, k => by
    unfold updK updT
    rw [updK_iff W ps vs (i + 1) l]
    rw [show (cond (elemN i W) (k (AV.junk :: updT W ps vs (i + 1) l)) (k (v :: updT W ps vs (i + 1) l))) = k (cond (elemN i W) .junk v :: updT W ps vs (i + 1) l) by cases elemN i W <;> rfl]
    exact lookK_iff i (fun u => k (u :: updT W ps vs (i + 1) l)) _ ps vs
/-- what is forgotten at a round's end -/
def mskT (W ps : List Nat) : Nat → Nat → List Bool
  | 0, _ => []
  | n + 1, i => cond (elemN i ps) true (cond (elemN i W) false true) :: mskT W ps n (i + 1)
def updS : List Nat → List Ob → List Ob → List Ob
  | i :: is, o :: os, s => updS is os (s.set i o)
  | _, _, s => s
def updSK : List Nat → List Ob → List Ob → (List Ob → Prop) → Prop
  | i :: is, o :: os, s, k => setK s i o fun s' => updSK is os s' k
  | _, _, s, k => k s
theorem setK_set {α : Type} : ∀ (l : List α) (i : Nat) (v : α) (k : List α → Prop), setK l i v k ↔ k (l.set i v)
  | [], _, _, k => by simp [setK]
  | _ :: xs, 0, v, k => by simp [setK]
  | x :: xs, n + 1, v, k => by simp only [setK, List.set_cons_succ]; exact setK_set xs n v _
theorem updSK_iff : ∀ (is : List Nat) (os s : List Ob) (k : List Ob → Prop), updSK is os s k ↔ k (updS is os s)
  | [], os, s, k => by unfold updSK updS; exact Iff.rfl
  | i :: is, [], s, k => by unfold updSK updS; exact Iff.rfl
  | i :: is, o :: os, s, k => by
    unfold updSK updS
    rw [setK_set]; exact updSK_iff is os _ k
theorem updS_len : ∀ (is : List Nat) (os s : List Ob), (updS is os s).length = s.length
  | [], os, s => by unfold updS; rfl
  | i :: is, [], s => by unfold updS; rfl
  | i :: is, o :: os, s => by unfold updS; rw [updS_len]; simp

section
variable {σ : Type} {P : Program} {T : TT} {O : Outer σ} {n0 : Nat} {r : Option Nat} {t : List AV} {s d : List Ob} {x : σ} {k : AExit → List AV → List Ob → σ → Prop} {b : Code}

/-- **A LOOP BY AN INVARIANT**: ps, fv: the tmps that bear something from round to round; os, fo: the objects that change -/
theorem ALs.lp {ι : Type} (hT : TOk P T) (N : Nat) (ps : List Nat) (fv : ι → List AV) (os : List Nat) (fo : ι → List Ob) (xx : ι → σ) (I : ι → Prop) (m : ι → Nat) (i0 : ι) (h0 : I i0)
    (ht : junkM (mskT (writesC b) ps t.length 0) t = updT (writesC b) ps (fv i0) 0 t) (hs : s = updS os (fo i0) s) (hx : x = xx i0)
    (hn : n0 ≤ s.length) (hc : ∀ i, cutOk (updT (writesC b) ps (fv i) 0 t) (updS os (fo i) s) = true)
    (step : ∀ i, I i → updK (writesC b) ps (fv i) 0 t fun t1 => updSK os (fo i) s fun s1 => awp P O T n0 r N b t1 s1 (xx i) fun e t' s' x' => match e with
      | .normal => ∃ (j : ι) (vs' : List AV) (os' q : List Ob), junkM (mskT (writesC b) ps t.length 0) t' = updT (writesC b) ps vs' 0 t ∧ s' = updS os os' s ++ q ∧ x' = xx j ∧ vs' = fv j ∧ os' = fo j ∧ m j < m i ∧ I j
      | e => k e t' s' x') : ALs P O n0 r b t s x k :=
  ALs.invW (mskT (writesC b) ps t.length 0) I m (fun i => updT (writesC b) ps (fv i) 0 t) (fun i => updS os (fo i) s) xx i0 h0 ht ⟨[], by rw [List.append_nil]; exact hs⟩ hx
    (fun i => by rw [updS_len]; exact hn) hc fun i hi => by
      have h := step i hi
      rw [updK_iff] at h
      refine (awp_sound hT b _ _ _ _ ((updSK_iff _ _ _ _).1 h)).mono fun e t' s' x' h => ?_
      cases e with
      | normal => obtain ⟨j, vs', os', q, h1, h2, h3, rfl, rfl, h4, h5⟩ := h; exact ⟨j, q, h1, h2, h3, h4, h5⟩
      | exit => exact h
      | goto => exact h
      | ret => exact h

/-- the code behind a loop: of its tmps only some are known -/
theorem AWs.restK (hT : TOk P T) (N : Nat) {t' t0 : List AV} {s0 q : List Ob} {W ps : List Nat} {vs : List AV} {os : List Nat} {fo : List Ob} (m : List Bool) (ht : junkM m t' = updT W ps vs 0 t0) (hn0 : n0 ≤ s0.length) (hc : cutOk (updT W ps vs 0 t0) (updS os fo s0) = true)
    (h : updK W ps vs 0 t0 fun t1 => updSK os fo s0 fun s1 => awp P O T n0 r N b t1 s1 x k) : AWs P O n0 r b t' (updS os fo s0 ++ q) x k := by
  rw [updK_iff] at h
  have h := (updSK_iff _ _ _ _).1 h
  exact AWs.rest hT N m q ht (by rw [updS_len]; exact hn0) hc h

/-- **A LOOP BY AN INVARIANT**, its ends told by states too: what is behind the loop is walked once. -/
theorem ALs.lpX {ι κ : Type} (hT : TOk P T) (N : Nat) (ps : List Nat) (fv : ι → List AV) (os : List Nat) (fo : ι → List Ob) (xx : ι → σ) (I : ι → Prop) (m : ι → Nat) (i0 : ι)
    (J : κ → Prop) (psE : List Nat) (fe : κ → List AV) (osE : List Nat) (foE : κ → List Ob) (xe : κ → σ) (idx : κ → Nat) (h0 : I i0)
    (ht : junkM (mskT (writesC b) ps t.length 0) t = updT (writesC b) ps (fv i0) 0 t) (hs : s = updS os (fo i0) s) (hx : x = xx i0)
    (hn : n0 ≤ s.length) (hc : ∀ i, cutOk (updT (writesC b) ps (fv i) 0 t) (updS os (fo i) s) = true)
    (step : ∀ i, I i → updK (writesC b) ps (fv i) 0 t fun t1 => updSK os (fo i) s fun s1 => awp P O T n0 r N b t1 s1 (xx i) fun e t' s' x' => match e with
      | .normal => ∃ (j : ι) (vs' : List AV) (os' q : List Ob), junkM (mskT (writesC b) ps t.length 0) t' = updT (writesC b) ps vs' 0 t ∧ s' = updS os os' s ++ q ∧ x' = xx j ∧ vs' = fv j ∧ os' = fo j ∧ m j < m i ∧ I j
      | .exit id' => ∃ (c : κ) (vs' : List AV) (os' q : List Ob), id' = idx c ∧ junkM (mskT (writesC b) psE t.length 0) t' = updT (writesC b) psE vs' 0 t ∧ s' = updS osE os' s ++ q ∧ x' = xe c ∧ vs' = fe c ∧ os' = foE c ∧ J c
      | e => k e t' s' x')
    (fin : ∀ c t' q, J c → junkM (mskT (writesC b) psE t.length 0) t' = updT (writesC b) psE (fe c) 0 t → k (.exit (idx c)) t' (updS osE (foE c) s ++ q) (xe c)) : ALs P O n0 r b t s x k :=
  ALs.invW (mskT (writesC b) ps t.length 0) I m (fun i => updT (writesC b) ps (fv i) 0 t) (fun i => updS os (fo i) s) xx i0 h0 ht ⟨[], by rw [List.append_nil]; exact hs⟩ hx
    (fun i => by rw [updS_len]; exact hn) hc fun i hi => by
      have h := step i hi
      rw [updK_iff] at h
      refine (awp_sound hT b _ _ _ _ ((updSK_iff _ _ _ _).1 h)).mono fun e t' s' x' h => ?_
      cases e with
      | normal => obtain ⟨j, vs', os', q, h1, h2, h3, rfl, rfl, h4, h5⟩ := h; exact ⟨j, q, h1, h2, h3, h4, h5⟩
      | exit => obtain ⟨c, vs', os', q, rfl, h1, rfl, rfl, rfl, rfl, h2⟩ := h; exact fin c t' q h2 h1
      | goto => exact h
      | ret => exact h
end
end Go.AW

/- Engine 36: regions that draw their order between barriers (yields). -/
namespace Go.AW
open Go
set_option linter.unusedVariables false
set_option linter.unusedSimpArgs false
variable {σ : Type}
section
variable {P : Program} {T : TT} {all : List Oper} {O : Outer σ} {n0 : Nat} {r : Option Nat}
/-- every order of a region's part between two barriers -/
theorem any_soundS (hT : TOk P T) {ms : List Nat} (hms : okEdges all ms = true) {Q : Exit → Act → World → Prop} {tf : List AV} {sf : List Ob} {x : σ} {p : Nat} (htail : ∀ j, p ≤ j → j < all.length → ∀ i, i < p → (ms.getD j 0).testBit i = true) (hpl : p ≤ all.length) :
    ∀ (fuel : Nat) (R : List Ent) (listed : Array Bool) (μ : MM) (t : List AV) (s : List Ob) (B : Nat → Prop) (a : Act) (w : World),
    R.length + (all.length - p) = fuel → listed.size = all.length → (∀ i, p ≤ i → i < all.length → listed[i]? = some false) →
    R.Pairwise (fun A B => A.i < B.i ∧ ((ms.getD B.i 0).testBit A.i = true ∨ Apart all A B)) →
    (∀ E ∈ R, all[E.i]? = some E.o ∧ listed[E.i]? = some false ∧ n0 ≤ E.id ∧ E.i < p) →
    (∀ i, listed[i]? = some false → i < p → ∃ E ∈ R, E.i = i) →
    (∀ (i : Nat) (o : Oper), listed[i]? = some true → all[i]? = some o → ∀ e ∈ o.after.toList, Region.binds .any e = true → listed[e.on]? = some true) →
    Run P T all R t s tf sf → SR O μ t s x B a w → n0 ≤ s.length →
    (∀ (listed' : Array Bool) μ' B' a' w', listed'.size = all.length → (∀ i, i < p → listed'[i]? = some true) → (∀ i, p ≤ i → i < all.length → listed'[i]? = some false) → SR O μ' tf sf x B' a' w' → After n0 μ s B w μ' sf B' w' → a'.defers = a.defers → s.length ≤ sf.length → wpAnyIn (FR r) 0 P .any all.toArray Q (all.length - p) listed' a' w') →
    wpAnyIn (FR r) 0 P .any all.toArray Q fuel listed a w := by
  intro fuel
  induction fuel with
  | zero =>
    intro R listed μ t s B a w hlen hsz hlo hpw hR hL hcl hrun hsr hn hQ
    obtain rfl : R = [] := List.length_eq_zero_iff.1 (by omega)
    obtain ⟨rfl, rfl⟩ := hrun
    have h := hQ listed μ B a w hsz (fun i hi => ?_) hlo hsr (After.refl hn hsr.sep) rfl (Nat.le_refl _)
    · rwa [show all.length - p = 0 by simp at hlen; omega] at h
    rw [Array.getElem?_eq_getElem (by omega)]
    cases hb : listed[i] with
    | true => rfl
    | false => obtain ⟨E, hE, _⟩ := hL i (by rw [Array.getElem?_eq_getElem (by omega), hb]) hi; cases hE
  | succ fuel ih =>
    intro R listed μ t s B a w hlen hsz hlo hpw hR hL hcl hrun hsr hn hQ
    by_cases hRn : R = []
    · subst hRn
      obtain ⟨rfl, rfl⟩ := hrun
      simp only [List.length_nil, Nat.zero_add] at hlen
      have h := hQ listed μ B a w hsz (fun i hi => ?_) hlo hsr (After.refl hn hsr.sep) rfl (Nat.le_refl _)
      · rwa [hlen] at h
      rw [Array.getElem?_eq_getElem (by omega)]
      cases hb : listed[i] with
      | true => rfl
      | false => obtain ⟨E, hE, _⟩ := hL i (by rw [Array.getElem?_eq_getElem (by omega), hb]) hi; cases hE
    have hready : ∀ i, i ∈ Region.ready .any all.toArray listed → ∃ o, all[i]? = some o ∧ listed[i]? = some false ∧ ∀ e ∈ o.after.toList, Region.binds .any e = true → listed[e.on]? = some true := by
      intro i hi
      unfold Region.ready at hi
      simp only [List.mem_filter, List.mem_range, List.size_toArray, Bool.and_eq_true, Bool.not_eq_true', List.getElem?_toArray] at hi
      obtain ⟨h1, h2, h3⟩ := hi
      refine ⟨all[i], List.getElem?_eq_getElem h1, ?_, ?_⟩
      · have hlt : i < listed.size := by omega
        rw [Array.getElem?_eq_getElem hlt]
        simpa [Array.getD_eq_getD_getElem?, Array.getElem?_eq_getElem hlt] using h2
      · intro e he hb
        rw [List.getElem?_eq_getElem h1] at h3
        simp only [Option.map_some, Option.getD_some, Array.all_eq_true', Bool.or_eq_true, Bool.not_eq_true'] at h3
        have := (h3 e (by simpa using he)).resolve_left (by simp [hb])
        rw [Array.getD_eq_getD_getElem?] at this
        cases hq : listed[e.on]? with
        | none => simp [hq] at this
        | some b => simp [hq] at this; rw [this]
    constructor
    · -- something is ready
      intro hnil
      exfalso
      cases R with
      | nil => exact hRn rfl
      | cons E R =>
        obtain ⟨h1, h2, h3, h4⟩ := hR E (by simp)
        have hlt := (List.getElem?_eq_some_iff.1 h1).1
        have : E.i ∈ Region.ready .any all.toArray listed := by
          unfold Region.ready
          simp only [List.mem_filter, List.mem_range, List.size_toArray, Bool.and_eq_true, Bool.not_eq_true', List.getElem?_toArray]
          refine ⟨hlt, by simp [Array.getD_eq_getD_getElem?, h2], ?_⟩
          rw [h1]
          simp only [Option.map_some, Option.getD_some, Array.all_eq_true', Bool.or_eq_true, Bool.not_eq_true']
          intro e he
          cases hb : Region.binds .any e with
          | false => exact .inl rfl
          | true =>
            right
            have hok := hms
            simp only [okEdges, List.all_eq_true, List.mem_range] at hok
            have hok := hok E.i hlt
            simp only [h1, Bool.and_eq_true, List.all_eq_true, beq_iff_eq, Bool.or_eq_true, Bool.not_eq_true', decide_eq_true_eq] at hok
            have hlt' := (hok.1 e (by simpa using he)).resolve_left (by simp [hb])
            have hsz' : e.on < listed.size := by omega
            rw [Array.getD_eq_getD_getElem?, Array.getElem?_eq_getElem hsz', Option.getD_some]
            cases hq : listed[e.on] with
            | true => rfl
            | false =>
              obtain ⟨E', hE', he'⟩ := hL e.on (by rw [Array.getElem?_eq_getElem hsz', hq]) (by omega)
              rcases List.mem_cons.1 hE' with rfl | hE'
              · omega
              · have := ((List.pairwise_cons.1 hpw).1 E' hE').1
                omega
        rw [hnil] at this
        cases this
    · intro i hi
      obtain ⟨o, ho, hli, haf⟩ := hready i hi
      have hip : i < p := by
        rcases Nat.lt_or_ge i p with q | q
        · exact q
        · exfalso
          have hms0 := masks_listed hms (L := fun j => listed[j]? = some true) (fun i o hi ho => hcl i o hi ho) i i o (Nat.le_refl _) ho haf
          obtain ⟨E, hE⟩ := List.exists_mem_of_ne_nil R hRn
          obtain ⟨_, h2, _, h4⟩ := hR E hE
          have := hms0 E.i (htail i q (List.getElem?_eq_some_iff.1 ho).1 E.i (by omega))
          rw [h2] at this; cases this
      obtain ⟨E, hE, rfl⟩ := hL i hli hip
      obtain ⟨ho', _, hid, _⟩ := hR E hE
      obtain rfl : E.o = o := Option.some.inj (ho'.symm.trans ho)
      obtain ⟨R1, R2, rfl⟩ := List.append_of_mem hE
      have hms' := masks_listed hms (L := fun j => listed[j]? = some true) (fun i o hi ho => hcl i o hi ho) E.i E.i E.o (Nat.le_refl _) ho haf
      have hap : ∀ A ∈ R1, Apart all A E := by
        intro A hA
        have h1 := (List.pairwise_append.1 hpw).2.2 A hA E (by simp)
        refine h1.2.resolve_left fun hb => ?_
        have := hms' A.i hb
        rw [(hR A (by simp [hA])).2.1] at this
        cases this
      have hrun' := Run.front hap hrun
      obtain ⟨g1, g2, g3, g4⟩ := hrun'
      -- what is left
      have hpw' : (R1 ++ R2).Pairwise (fun A B => A.i < B.i ∧ ((ms.getD B.i 0).testBit A.i = true ∨ Apart all A B)) := hpw.sublist (by simp)
      have hne : ∀ A ∈ R1 ++ R2, A.i ≠ E.i := by
        intro A hA
        rcases List.mem_append.1 hA with hA | hA
        · have := ((List.pairwise_append.1 hpw).2.2 A hA E (by simp)).1
          omega
        · have := ((List.pairwise_cons.1 (List.pairwise_append.1 hpw).2.1).1 A hA).1
          omega
      have hlt : E.i < listed.size := by
        rcases Nat.lt_or_ge E.i listed.size with q | q
        · exact q
        · rw [Array.getElem?_eq_none q] at hli; cases hli
      have hset : ∀ j, (listed.setIfInBounds E.i true)[j]? = if j = E.i then some true else listed[j]? := by
        intro j
        rw [Array.getElem?_setIfInBounds]
        by_cases hj : E.i = j
        · subst hj; simp [hlt]
        · simp [hj, Ne.symm hj]
      have next : ∀ (μ' : MM) (B' : Nat → Prop) (a' : Act) (w' : World), SR O μ' (putL t E.o.dst E.v) (E.e.app s) x B' a' w' → After n0 μ s B w μ' (E.e.app s) B' w' → a'.defers = a.defers → s.length ≤ (E.e.app s).length →
          wpAnyIn (FR r) 0 P .any all.toArray Q fuel (listed.setIfInBounds E.i true) a' w' := by
        intro μ' B' a' w' hsr' haft hdf hle
        refine ih (R1 ++ R2) _ μ' _ _ B' a' w' ?_ ?_ ?_ hpw' ?_ ?_ ?_ g4 hsr' haft.len ?_
        · simp at hlen ⊢; omega
        · simpa using hsz
        · intro j hj hj'
          rw [hset, if_neg (by omega)]; exact hlo j hj hj'
        · intro A hA
          have := hR A (by simp at hA ⊢; rcases hA with h | h <;> simp [h])
          refine ⟨this.1, ?_, this.2.2⟩
          rw [hset, if_neg (hne A hA)]; exact this.2.1
        · intro j hj hjp
          rw [hset] at hj
          split at hj
          · cases hj
          · rename_i hji
            obtain ⟨A, hA, rfl⟩ := hL j hj hjp
            refine ⟨A, ?_, rfl⟩
            simp only [List.mem_append, List.mem_cons] at hA ⊢
            rcases hA with h | rfl | h
            · exact .inl h
            · exact absurd rfl hji
            · exact .inr h
        · intro j o hj hoj e he hb
          rw [hset]
          split
          · rfl
          · rw [hset] at hj
            split at hj
            · rename_i hji
              subst hji
              obtain rfl : E.o = o := Option.some.inj (ho.symm.trans hoj)
              exact haf e he hb
            · exact hcl j o hj hoj e he hb
        · intro l' μ'' B'' a'' w'' z1 z2 z3 h1 h2 h3 h4
          exact hQ _ _ _ _ _ z1 z2 z3 h1 (haft.trans h2) (h3.trans hdf) (Nat.le_trans hle h4)
      unfold wpOpIn
      simp only [List.getElem?_toArray, ho]
      unfold LS dstep at g1
      have hg := guardK_sound hsr.tm g1
      rcases (cond_iff _ _ _).1 hg with ⟨hw, hg⟩ | ⟨hw, hg⟩
      · rw [if_pos hw]
        have hop := dop_aoper (O := O) (n0 := n0) (k := fun t' s' x' => t' = putL t E.o.dst E.v ∧ s' = E.e.app s ∧ x' = x) x hg ⟨rfl, rfl, rfl⟩
        refine Oper.wpIn_mono ?_ (aoper_sound hT hsr hn hid (fun hm => (g3 hm).1) hop)
        rintro a' w' ⟨t', s', x', μ', B', ⟨rfl, rfl, rfl⟩, hsr', haft, hdf, hle, _⟩
        exact next μ' B' a' w' hsr' haft hdf hle
      · rw [if_neg (by rw [hw]; simp)]
        obtain ⟨hv, he, _⟩ := hg
        refine ⟨fun f _ => trivial, ?_⟩
        obtain ⟨h2, h3⟩ := hsr.step (Stp.refl (id := E.id) hsr.rel) hn hid (dst := E.o.dst) (v := .tup []) (c := undef) (by simp only [VR]; exact ⟨[], rfl, by simp [VRL]⟩)
        have happ : E.e.app s = s := by rw [← he]; simp [DE.app, setsL]
        refine next μ B _ w ?_ ?_ (put_defers _ _ _) ?_
        · rw [happ, ← hv]; exact h2
        · rw [happ]; exact After.refl hn hsr.sep
        · rw [happ]; exact Nat.le_refl _

/-- one operation that all wait for -/
theorem bar_any {ms : List Nat} (hms : okEdges all ms = true) {Q : Exit → Act → World → Prop} {q : Nat} (hlt : q < all.length) (hbar : ∀ j, q < j → j < all.length → (ms.getD j 0).testBit q = true)
    {listed : Array Bool} {a : Act} {w : World} (hsz : listed.size = all.length) (hl1 : ∀ i, i < q → listed[i]? = some true) (hl2 : ∀ i, q ≤ i → i < all.length → listed[i]? = some false)
    (h : wpOpIn (FR r) 0 P all.toArray Q q (fun a' w' => ∀ (listed' : Array Bool), listed'.size = all.length → (∀ i, i < q + 1 → listed'[i]? = some true) → (∀ i, q + 1 ≤ i → i < all.length → listed'[i]? = some false) → wpAnyIn (FR r) 0 P .any all.toArray Q (all.length - (q + 1)) listed' a' w') a w) :
    wpAnyIn (FR r) 0 P .any all.toArray Q (all.length - q) listed a w := by
  rw [show all.length - q = (all.length - (q + 1)) + 1 by omega]
  generalize hfu : all.length - (q + 1) = fuel at *
  have hoq : all[q]? = some all[q] := List.getElem?_eq_getElem hlt
  have hedge := hms
  simp only [okEdges, List.all_eq_true, List.mem_range] at hedge
  have hqe := hedge q hlt
  simp only [hoq, Bool.and_eq_true, List.all_eq_true, Bool.or_eq_true, Bool.not_eq_true', decide_eq_true_eq] at hqe
  refine ⟨fun hnil => ?_, fun i hi => ?_⟩
  · exfalso
    have : q ∈ Region.ready .any all.toArray listed := by
      unfold Region.ready
      simp only [List.mem_filter, List.mem_range, List.size_toArray, Bool.and_eq_true, Bool.not_eq_true', List.getElem?_toArray]
      refine ⟨hlt, by simp [Array.getD_eq_getD_getElem?, hl2 q (Nat.le_refl _) hlt], ?_⟩
      rw [hoq]
      simp only [Option.map_some, Option.getD_some, Array.all_eq_true', Bool.or_eq_true, Bool.not_eq_true']
      intro e he
      rcases hqe.1 e (by simpa using he) with hb | hb
      · exact .inl hb
      · right
        rw [Array.getD_eq_getD_getElem?, hl1 e.on hb]; rfl
    rw [hnil] at this; cases this
  · -- what is ready is q
    have hiq : i = q := by
      unfold Region.ready at hi
      simp only [List.mem_filter, List.mem_range, List.size_toArray, Bool.and_eq_true, Bool.not_eq_true', List.getElem?_toArray] at hi
      obtain ⟨h1, h2, h3⟩ := hi
      have hoi : all[i]? = some all[i] := List.getElem?_eq_getElem h1
      have hqi : q ≤ i := by
        rcases Nat.lt_or_ge i q with c | c
        · rw [Array.getD_eq_getD_getElem?, hl1 i c] at h2; cases h2
        · exact c
      rcases Nat.lt_or_ge q i with c | c
      · exfalso
        have haf : ∀ e ∈ all[i].after.toList, Region.binds .any e = true → listed[e.on]? = some true := by
          intro e he hb
          rw [hoi] at h3
          simp only [Option.map_some, Option.getD_some, Array.all_eq_true', Bool.or_eq_true, Bool.not_eq_true'] at h3
          have := (h3 e (by simpa using he)).resolve_left (by simp [hb])
          rw [Array.getD_eq_getD_getElem?] at this
          cases hq' : listed[e.on]? with
          | none => simp [hq'] at this
          | some b => simp [hq'] at this; rw [this]
        have hcl : ∀ (j : Nat) (o : Oper), listed[j]? = some true → all[j]? = some o → ∀ e ∈ o.after.toList, Region.binds .any e = true → listed[e.on]? = some true := by
          intro j o hj hoj e he hb
          have hjq : j < q := by
            rcases Nat.lt_or_ge j q with c2 | c2
            · exact c2
            · have hjn := (List.getElem?_eq_some_iff.1 hoj).1
              rw [hl2 j c2 hjn] at hj; cases hj
          have hje := hedge j (by omega)
          simp only [hoj, Bool.and_eq_true, List.all_eq_true, Bool.or_eq_true, Bool.not_eq_true', decide_eq_true_eq] at hje
          have := (hje.1 e (by simpa using he)).resolve_left (by simp [hb])
          exact hl1 e.on (by omega)
        have hms0 := masks_listed hms (L := fun j => listed[j]? = some true) (fun j o hj ho => hcl j o hj ho) i i all[i] (Nat.le_refl _) hoi haf
        have := hms0 q (hbar i c h1)
        rw [hl2 q (Nat.le_refl _) hlt] at this; cases this
      · omega
    subst hiq
    have hset : ∀ j, (listed.setIfInBounds i true)[j]? = if j = i then some true else listed[j]? := by
      intro j
      rw [Array.getElem?_setIfInBounds]
      by_cases hj : i = j
      · subst hj; simp [show i < listed.size by omega]
      · simp [hj, Ne.symm hj]
    have next : ∀ a' w', (∀ (listed' : Array Bool), listed'.size = all.length → (∀ i', i' < i + 1 → listed'[i']? = some true) → (∀ i', i + 1 ≤ i' → i' < all.length → listed'[i']? = some false) → wpAnyIn (FR r) 0 P .any all.toArray Q fuel listed' a' w') → wpAnyIn (FR r) 0 P .any all.toArray Q fuel (listed.setIfInBounds i true) a' w' := by
      intro a' w' h'
      refine h' _ (by simpa using hsz) (fun j hj => ?_) (fun j hj hj' => ?_)
      · rw [hset]
        split
        · rfl
        · exact hl1 j (by omega)
      · rw [hset, if_neg (by omega)]; exact hl2 j (by omega) hj'
    have hoi' : all.toArray[i]? = some all[i] := by simp
    unfold wpOpIn at h ⊢
    simp only [hoi'] at h ⊢
    split
    · rename_i hw
      rw [if_pos hw] at h
      exact Oper.wpIn_mono next h
    · rename_i hw
      rw [if_neg hw] at h
      exact ⟨h.1, next _ _ h.2⟩

def okPairsS (q p : Nat) (all : List Oper) (ms : List Nat) (fps : List EI) : Bool :=
  let aa := all.toArray
  (List.range (p - q)).all fun j => (List.range j).all fun i =>
    (ms.getD (q + j) 0).testBit (q + i) || match all[q + i]?, all[q + j]?, fps[i]?, fps[j]? with
      | some x, some y, some f, some g => Oper.apart aa x y && (noConf f.fp g.fp || soft x y) && !(f.call && g.grow) && !(g.call && f.grow)
      | _, _, _, _ => false
/-- all from p on wait for all before it -/
def okBar (p : Nat) (all : List Oper) (ms : List Nat) : Bool := (List.range all.length).all fun j => decide (j < p) || (List.range p).all fun i => (ms.getD j 0).testBit i
def okSeg (q p : Nat) (all : List Oper) (fps : List EI) : Bool := let ms := masks all []; okEdges all ms && okPairsS q p all ms fps && okBar p all ms && decide (q ≤ p) && decide (p ≤ all.length)
/-- (a reckoning stops there) -/
structure OkS (q p : Nat) (all : List Oper) (fps : List EI) : Prop where
  ok : okSeg q p all fps = true

/-- a region from place q on: barriers at the places told -/
noncomputable def segK (P : Program) (O : Outer σ) (T : TT) (n0 : Nat) (all : List Oper) (cs : List Nat) : Nat → Nat → List AV → List Ob → σ → (List AV → List Ob → σ → Prop) → Prop :=
  @List.rec Nat (fun _ => Nat → Nat → List AV → List Ob → σ → (List AV → List Ob → σ → Prop) → Prop)
    (fun q id t s x k => adops P T all ((all.drop q).take (all.length - q)) id t s [] fun t' s' fps => OkS q all.length all fps ∧ k t' s' x)
    (fun p _ ih q id t s x k => adops P T all ((all.drop q).take (p - q)) id t s [] fun t' s' fps => OkS q p all fps ∧
      andK (decide (nMakes ((all.drop p).take 1) = 0) && okBar (p + 1) all (masks all []) && decide (p < all.length))
      (aops P O T n0 all ((all.drop p).take 1) (id + nMakes ((all.drop q).take (p - q))) t' s' x fun t'' s'' x'' => ih (p + 1) (id + nMakes ((all.drop q).take (p - q))) t'' s'' x'' k)) cs

theorem okBar_at {p : Nat} {ms : List Nat} (h : okBar p all ms = true) : ∀ j, p ≤ j → j < all.length → ∀ i, i < p → (ms.getD j 0).testBit i = true := by
  intro j hj hj' i hi
  simp only [okBar, List.all_eq_true, List.mem_range, Bool.or_eq_true, decide_eq_true_eq] at h
  exact (h j hj').resolve_left (by omega) i hi

theorem seg_sound (hT : TOk P T) {Q : Exit → Act → World → Prop} (ms : List Nat) (hmsq : ms = masks all []) (hms : okEdges all ms = true) {q p : Nat} (hb : okBar p all ms = true) {id : Nat} (hid : n0 ≤ id) {fps : List EI}
    {t : List AV} {s : List Ob} {x : σ} {μ : MM} {B : Nat → Prop} {a : Act} {w : World} {R : List Ent} {tf : List AV} {sf : List Ob} (hrun : Run P T all R t s tf sf) (hlen : R.length = ((all.drop q).take (p - q)).length)
    (hR : ∀ (n : Nat) (E : Ent), R[n]? = some E → E.i = q + n ∧ all[q + n]? = some E.o ∧ n0 ≤ E.id) (hok : okPairsS q p all ms (R.map Ent.ei) = true) (hqp : q ≤ p) (hpl : p ≤ all.length)
    {listed : Array Bool} (hsz : listed.size = all.length) (hl1 : ∀ i, i < q → listed[i]? = some true) (hl2 : ∀ i, q ≤ i → i < all.length → listed[i]? = some false)
    (hsr : SR O μ t s x B a w) (hn : n0 ≤ s.length)
    (hQ : ∀ (listed' : Array Bool) μ' B' a' w', listed'.size = all.length → (∀ i, i < p → listed'[i]? = some true) → (∀ i, p ≤ i → i < all.length → listed'[i]? = some false) → SR O μ' tf sf x B' a' w' → After n0 μ s B w μ' sf B' w' → a'.defers = a.defers → s.length ≤ sf.length → wpAnyIn (FR r) 0 P .any all.toArray Q (all.length - p) listed' a' w') :
    wpAnyIn (FR r) 0 P .any all.toArray Q (all.length - q) listed a w := by
  have hlen' : R.length = p - q := by rw [hlen, List.length_take, List.length_drop]; omega
  refine any_soundS (O := O) (n0 := n0) (r := r) (x := x) hT hms (okBar_at hb) hpl (all.length - q) R listed μ t s B a w (by omega) hsz (fun i hi hi' => hl2 i (by omega) hi') ?_ ?_ ?_ ?_ hrun hsr hn hQ
  · rw [List.pairwise_iff_getElem]
    intro i j hi hj hij
    have e1 := hR i R[i] (List.getElem?_eq_getElem hi)
    have e2 := hR j R[j] (List.getElem?_eq_getElem hj)
    refine ⟨by omega, ?_⟩
    have hq := hok
    simp only [okPairsS, List.all_eq_true, List.mem_range] at hq
    have hq := hq j (by omega) i hij
    rw [Bool.or_eq_true] at hq
    rw [e1.1, e2.1]
    rcases hq with hq | hq
    · exact .inl hq
    · right
      simp only [e1.2.1, e2.2.1, List.getElem?_map, List.getElem?_eq_getElem hi, List.getElem?_eq_getElem hj, Option.map_some, Ent.ei, Bool.and_eq_true, Bool.not_eq_true', Bool.and_eq_false_iff, Bool.not_eq_false'] at hq
      obtain ⟨⟨⟨h1, h2⟩, h3⟩, h4⟩ := hq
      exact ⟨by simpa using h1, h2, fun hc => by rcases h3 with h | h; rw [hc] at h; cases h; simpa using h, fun hc => by rcases h4 with h | h; rw [hc] at h; cases h; simpa using h⟩
  · intro E hE
    obtain ⟨n, hn', rfl⟩ := List.mem_iff_getElem.1 hE
    obtain ⟨g1, g2, g3⟩ := hR n _ (List.getElem?_eq_getElem hn')
    refine ⟨by rw [g1]; exact g2, ?_, g3, by omega⟩
    rw [g1]
    exact hl2 _ (by omega) (List.getElem?_eq_some_iff.1 g2).1
  · intro i hi hip
    have hqi : q ≤ i := by
      rcases Nat.lt_or_ge i q with c | c
      · rw [hl1 i c] at hi; cases hi
      · exact c
    exact ⟨R[i - q]'(by omega), List.getElem_mem _, by have := (hR (i - q) _ (List.getElem?_eq_getElem (by omega))).1; omega⟩
  · intro i o hi ho e he hb
    have hiq : i < q := by
      rcases Nat.lt_or_ge i q with c | c
      · exact c
      · rw [hl2 i c (List.getElem?_eq_some_iff.1 ho).1] at hi; cases hi
    have hedge := hms
    simp only [okEdges, List.all_eq_true, List.mem_range] at hedge
    have hje := hedge i (List.getElem?_eq_some_iff.1 ho).1
    simp only [ho, Bool.and_eq_true, List.all_eq_true, Bool.or_eq_true, Bool.not_eq_true', decide_eq_true_eq] at hje
    have := (hje.1 e (by simpa using he)).resolve_left (by simp [hb])
    exact hl1 e.on (by omega)

theorem segK_sound (hT : TOk P T) {k : List AV → List Ob → σ → Prop} {Q : Exit → Act → World → Prop} : ∀ (cs : List Nat) (q id : Nat) (μ : MM) (t : List AV) (s : List Ob) (x : σ) (B : Nat → Prop) (a : Act) (w : World) (listed : Array Bool),
    segK P O T n0 all cs q id t s x k → n0 ≤ id → listed.size = all.length → (∀ i, i < q → listed[i]? = some true) → (∀ i, q ≤ i → i < all.length → listed[i]? = some false) → SR O μ t s x B a w → n0 ≤ s.length →
    (∀ t' s' x' μ' B' a' w', k t' s' x' → SR O μ' t' s' x' B' a' w' → After n0 μ s B w μ' s' B' w' → a'.defers = a.defers → Q .normal a' w') →
    wpAnyIn (FR r) 0 P .any all.toArray Q (all.length - q) listed a w
  | [], q, id, μ, t, s, x, B, a, w, listed, h, hid, hsz, hl1, hl2, hsr, hn, hQ => by
    change adops P T all ((all.drop q).take (all.length - q)) id t s [] (fun t' s' fps => OkS q all.length all fps ∧ k t' s' x) at h
    obtain ⟨R, tf, sf, hrun, ⟨⟨hok⟩, hk⟩, hlen, hR⟩ := adops_runT (n0 := n0) (all := all) _ q id t s [] (fun n o ho => by rw [List.getElem?_take] at ho; split at ho; rwa [List.getElem?_drop] at ho; cases ho) hid h
    simp only [okSeg, Bool.and_eq_true, List.nil_append, decide_eq_true_eq] at hok
    obtain ⟨⟨⟨⟨ok1, ok2⟩, ok3⟩, ok4⟩, ok5⟩ := hok
    refine seg_sound (x := x) hT (masks all []) rfl ok1 ok3 (fps := []) hid hrun hlen hR ok2 ok4 ok5 hsz hl1 hl2 hsr hn ?_
    intro l' μ' B' a' w' z1 z2 z3 h1 h2 h3 h4
    rw [Nat.sub_self]
    refine ⟨?_, hQ _ _ _ _ _ _ _ hk h1 h2 h3⟩
    unfold Region.ready
    rw [List.filter_eq_nil_iff]
    intro i hi
    simp only [List.mem_range, List.size_toArray] at hi
    simp [Array.getD_eq_getD_getElem?, z2 i (by omega)]
  | p :: cs, q, id, μ, t, s, x, B, a, w, listed, h, hid, hsz, hl1, hl2, hsr, hn, hQ => by
    change adops P T all ((all.drop q).take (p - q)) id t s [] (fun t' s' fps => OkS q p all fps ∧
      andK (decide (nMakes ((all.drop p).take 1) = 0) && okBar (p + 1) all (masks all []) && decide (p < all.length))
      (aops P O T n0 all ((all.drop p).take 1) (id + nMakes ((all.drop q).take (p - q))) t' s' x fun t'' s'' x'' => segK P O T n0 all cs (p + 1) (id + nMakes ((all.drop q).take (p - q))) t'' s'' x'' k)) at h
    obtain ⟨R, tf, sf, hrun, ⟨⟨hok⟩, hk⟩, hlen, hR⟩ := adops_runT (n0 := n0) (all := all) _ q id t s [] (fun n o ho => by rw [List.getElem?_take] at ho; split at ho; rwa [List.getElem?_drop] at ho; cases ho) hid h
    simp only [okSeg, Bool.and_eq_true, List.nil_append, decide_eq_true_eq] at hok
    obtain ⟨⟨⟨⟨ok1, ok2⟩, ok3⟩, ok4⟩, ok5⟩ := hok
    obtain ⟨hc, hk⟩ := (andK_iff _ _).1 hk
    simp only [Bool.and_eq_true, decide_eq_true_eq] at hc
    obtain ⟨⟨hc1, hc2⟩, hc3⟩ := hc
    refine seg_sound (x := x) hT (masks all []) rfl ok1 ok3 (fps := []) hid hrun hlen hR ok2 ok4 ok5 hsz hl1 hl2 hsr hn ?_
    intro l' μ' B' a' w' z1 z2 z3 h1 h2 h3 h4
    refine bar_any ok1 hc3 (fun j hj hj' => okBar_at hc2 j (by omega) hj' p (by omega)) z1 z2 z3 ?_
    have hop : (all.drop p).take 1 = [all[p]] := by rw [List.drop_eq_getElem_cons hc3]; rfl
    have hoi' : all.toArray[p]? = some all[p] := by simp
    rw [hop, aops_cons] at hk
    have hg := guardK_sound h1.tm hk
    have hmk : Op.makes (all[p]).op = false := by
      rw [hop] at hc1
      cases hm : Op.makes (all[p]).op with
      | false => rfl
      | true => simp [nMakes, hm] at hc1
    unfold wpOpIn
    simp only [hoi']
    have next : ∀ t'' s'' x'' μ'' B'' a'' w'', segK P O T n0 all cs (p + 1) (id + nMakes ((all.drop q).take (p - q))) t'' s'' x'' k → SR O μ'' t'' s'' x'' B'' a'' w'' → After n0 μ' sf B' w' μ'' s'' B'' w'' → a''.defers = a'.defers → 
        ∀ (listed' : Array Bool), listed'.size = all.length → (∀ i, i < p + 1 → listed'[i]? = some true) → (∀ i, p + 1 ≤ i → i < all.length → listed'[i]? = some false) → wpAnyIn (FR r) 0 P .any all.toArray Q (all.length - (p + 1)) listed' a'' w'' := by
      intro t'' s'' x'' μ'' B'' a'' w'' hk' hs' haf' hdf l'' y1 y2 y3
      refine segK_sound hT cs (p + 1) _ μ'' t'' s'' x'' B'' a'' w'' l'' hk' (by omega) y1 y2 y3 hs' haf'.len ?_
      intro t3 s3 x3 μ3 B3 a3 w3 k3 r3 f3 d3
      exact hQ _ _ _ _ _ _ _ k3 r3 (h2.trans (haf'.trans f3)) (d3.trans (hdf.trans h3))
    rcases (cond_iff _ _ _).1 hg with ⟨hw, hg⟩ | ⟨hw, hg⟩
    · rw [if_pos hw]
      refine Oper.wpIn_mono ?_ (aoper_sound hT h1 h2.len (show n0 ≤ id + nMakes ((all.drop q).take (p - q)) by omega) (fun hm => by rw [hmk] at hm; cases hm) hg)
      rintro a'' w'' ⟨t'', s'', x'', μ'', B'', hk', hsr', haft, hdf, hle, _⟩
      rw [idK_iff, aops_nil] at hk'
      exact next _ _ _ _ _ _ _ hk' hsr' haft hdf
    · rw [if_neg (by rw [hw]; simp)]
      refine ⟨fun f _ => trivial, ?_⟩
      obtain ⟨t', hput, hk'⟩ : ∃ t', t' = putL tf (all[p]).dst (.tup []) ∧ segK P O T n0 all cs (p + 1) (id + nMakes ((all.drop q).take (p - q))) t' sf x k := by
        rw [putK_iff, idK_iff, aops_nil] at hg
        exact ⟨_, rfl, hg⟩
      obtain ⟨g2, g3⟩ := h1.step (Stp.refl (id := id) h1.rel) h2.len hid (dst := (all[p]).dst) (v := .tup []) (c := undef) (by simp only [VR]; exact ⟨[], rfl, by simp [VRL]⟩)
      rw [← hput] at g2
      exact next _ _ _ _ _ _ _ hk' g2 (After.refl h2.len h1.sep) (put_defers _ _ _)

variable {t : List AV} {s : List Ob} {x : σ} {μ : MM} {B : Nat → Prop} {a : Act} {w : World}
def drawSK (P : Program) (O : Outer σ) (T : TT) (n0 : Nat) (cs : List Nat) (ops : List Oper) (t : List AV) (s : List Ob) (x : σ) (k : List AV → List Ob → σ → Prop) : Prop :=
  mkK n0 s (nMakes ops) fun base s1 => segK P O T n0 ops cs 0 base t s1 x k
/-- **A REGION THAT DRAWS ITS ORDER, with operations between that all wait for** (yields). -/
theorem AW_drawS (hT : TOk P T) (hP : P.follows .mixedOrders = true) (cs : List Nat) {id : Nat} {ops : Array Oper} {k : AExit → List AV → List Ob → σ → Prop} (h : drawSK P O T n0 cs ops.toList t s x fun t' s' x' => k .normal t' s' x') :
    AWs P O n0 r (.region id ops true) t s x k := by
  refine ⟨?_⟩
  intro hn nb μ B a w hs hm
  refine wpIn_region_any hP ?_
  obtain ⟨base, s1, h, hdd, hb, hs1, haf⟩ := room_sound hn hs h
  have hfr : ∀ R', Fr R' w { w with drawn := w.drawn + 1 } := fun _ => ⟨rfl, rfl, rfl, Nat.le_refl _, fun _ _ _ => rfl, fun _ h => h⟩
  have hrel : Rel μ s1 { w with drawn := w.drawn + 1 } := ⟨hs1.rel.ob, hs1.rel.sep⟩
  have hs2 : SR O μ t s1 x B a { w with drawn := w.drawn + 1 } := ⟨hs1.tm, hrel, O.keep _ _ _ _ (fun _ => False) hs1.out (hfr _) (fun _ _ h => h), hs1.sep⟩
  have hle : n0 ≤ s1.length := haf.len
  have haf1 : After n0 μ s1 B w μ s1 B { w with drawn := w.drawn + 1 } := ⟨fun _ _ => rfl, fun _ _ h => h, fun _ _ h => h, hle, hfr _, fun _ h => .inl h, fun _ h => .inl h, fun _ h => .inl h, hs1.sep⟩
  have := segK_sound (r := r) (Q := APost O nb n0 μ s B w k) hT cs 0 base μ t s1 x B a _ (Array.replicate ops.size false) h hb (by simp) (fun i hi => by omega) (fun i _ hi => by rw [Array.getElem?_eq_getElem (by simpa using hi)]; simp) hs2 hle ?_
  · simpa using this
  · intro t' s' x' μ' B' a' w' hk' h1 h2 h3
    have haf2 := haf.trans (haf1.trans h2)
    exact ⟨.normal, t', s', x', μ', B', rfl, hk', h1, haf2, hm.after hs.rel haf2 h3⟩

end
end Go.AW

/- Engine 37: calls that read objects which may hold one another, and make some. -/
namespace Go.AW
open Go
set_option linter.unusedVariables false
set_option linter.unusedSimpArgs false
/-- is what is kept as it is told? -/
def keptK (keep : List Nat) (l s' : List Ob) : Prop := keep.map (fun j => s'[j]?) = l.map fun ob => some (ob.ren (rho keep s'.length))

theorem AC_loc {P : Program} {f : FuncId} {args' : List AV} {s L : List Ob} {Q : AV → List Ob → Prop} (ids : List Nat) (hnd : ids.Nodup) (hlen : L.length = ids.length)
    (hL : ∀ (i j : Nat) (ob : Ob), ids[i]? = some j → L[i]? = some ob → s[j]? = some (ob.ren (rho ids s.length))) (js : List Nat) (hjs : js.Nodup) (hjs2 : (js.all fun j => decide (L.length ≤ j)) = true)
    (h : AC P f args' L fun r s' => ∃ (r' : AV) (l : List Ob), l.length = L.length + js.length ∧ keptK (List.range L.length ++ js) l s' ∧ r = r'.ren (rho (List.range L.length ++ js) s'.length) ∧
      Q (r'.ren (rho ids s.length)) (setAll ids (l.map (Ob.ren (rho ids s.length))) s ++ (l.drop ids.length).map (Ob.ren (rho ids s.length)))) : AC P f (AV.ren.renL (rho ids s.length) args') s Q := by
  refine ⟨ACo_local ids hnd hlen hL (ACo_export (h.of.mono ?_))⟩
  rintro r s' _ ⟨r', l, hll, hk, hr, hQ⟩
  have hj2 : ∀ j ∈ js, L.length ≤ j := by simpa using hjs2
  refine ⟨r', l, ⟨List.range L.length ++ js, ?_, by simp [hll], by simp, fun i hi => by rw [List.getElem?_append_left (by simpa using hi)]; simp [hi], fun i q ob hi ho => ?_, hr⟩, hQ⟩
  · rw [List.nodup_append]
    refine ⟨List.nodup_range, hjs, fun a ha b hb => ?_⟩
    have := hj2 b hb
    simp at ha; omega
  · have := congrArg (fun x => x[i]?) hk
    simp only [List.getElem?_map, hi, ho, Option.map_some, Option.some.injEq] at this
    exact this

theorem setAll_ext : ∀ (ids : List Nat) (L d s : List Ob), ids.length = L.length → setAll ids (L ++ d) s = setAll ids L s
  | [], L, d, s, h => by simp [setAll]
  | i :: ids, [], d, s, h => by simp at h
  | i :: ids, o :: L, d, s, h => by simp only [List.cons_append, setAll]; exact setAll_ext ids L d _ (by simpa using h)

/-- a call that reads some objects, which may hold one another, and makes some -/
theorem AC_mkN {P : Program} {f : FuncId} {args' : List AV} {s L : List Ob} {Q : AV → List Ob → Prop} (ids : List Nat) (hnd : ids.Nodup) (hlen : L.length = ids.length)
    (hL : ∀ (i j : Nat) (ob : Ob), ids[i]? = some j → L[i]? = some ob → s[j]? = some (ob.ren (rho ids s.length))) (js : List Nat) (hjs : js.Nodup) (hjs2 : (js.all fun j => decide (L.length ≤ j)) = true)
    (h : AC P f args' L fun r s' => ∃ (r' : AV) (news : List Ob), news.length = js.length ∧ keptK (List.range L.length ++ js) (L ++ news) s' ∧ r = r'.ren (rho (List.range L.length ++ js) s'.length) ∧
      Q (r'.ren (rho ids s.length)) (s ++ news.map (Ob.ren (rho ids s.length)))) : AC P f (AV.ren.renL (rho ids s.length) args') s Q := by
  refine AC_loc ids hnd hlen hL js hjs hjs2 ⟨h.of.mono ?_⟩
  rintro r s' _ ⟨r', news, h1, h2, h3, h4⟩
  refine ⟨r', L ++ news, by simp [h1], h2, h3, ?_⟩
  rw [List.map_append, setAll_ext _ _ _ _ (by simp [hlen]), setAll_same, ← hlen, List.drop_left]
  · exact h4
  · intro i j ob hi hob
    rw [List.getElem?_map] at hob
    cases hx : L[i]? with
    | none => rw [hx] at hob; cases hob
    | some o =>
      rw [hx] at hob
      obtain rfl := Option.some.inj hob
      exact hL i j o hi hx

/-- a call that reads some objects, which may hold one another -/
theorem AC_rd {P : Program} {f : FuncId} {args' : List AV} {s L : List Ob} {Q : AV → List Ob → Prop} (ids : List Nat) (hnd : ids.Nodup) (hlen : L.length = ids.length)
    (hL : ∀ (i j : Nat) (ob : Ob), ids[i]? = some j → L[i]? = some ob → s[j]? = some (ob.ren (rho ids s.length)))
    (h : AC P f args' L fun r s' => keptK (List.range L.length) L s' ∧ r.flat = true ∧ Q r s) : AC P f (AV.ren.renL (rho ids s.length) args') s Q := by
  refine AC_mkN ids hnd hlen hL [] (by simp) rfl ⟨h.of.mono ?_⟩
  rintro r s' _ ⟨h1, h2, h3⟩
  refine ⟨r, [], rfl, by simpa using h1, ((renL_flat _).1 r h2).symm, ?_⟩
  rw [(renL_flat _).1 r h2]; simpa using h3
/-- the same in a drawn region -/
theorem AQ_read {P : Program} {f : FuncId} {args : List AV} {s : List Ob} {K : List Nat → AV → List (Nat × Ob) → List Ob → Prop} (C : List Nat) {r : AV} (h : ∀ (s' : List Ob) (Q : AV → List Ob → Prop), s'.length = s.length → (∀ i ∈ C, s'[i]? = s[i]?) → Q r s' → AC P f args s' Q) (hk : K C r [] []) : AQ P f args s K :=
  ⟨C, r, [], [], fun s' hl hC _ => h s' _ hl hC ⟨rfl, by simp [setsL]⟩, hk⟩
/-- a call that makes objects, in a drawn region -/
theorem AQ_new {P : Program} {f : FuncId} {args : List AV} {s : List Ob} {K : List Nat → AV → List (Nat × Ob) → List Ob → Prop} (C : List Nat) {r : AV} (news : List Ob) (h : ∀ (s' : List Ob) (Q : AV → List Ob → Prop), s'.length = s.length → (∀ i ∈ C, s'[i]? = s[i]?) → Q r (s' ++ news) → AC P f args s' Q) (hk : K C r [] news) : AQ P f args s K :=
  ⟨C, r, [], news, fun s' hl hC _ => h s' _ hl hC ⟨rfl, by simp [setsL]⟩, hk⟩
/-- a number, reckoned -/
noncomputable def natK (n : Nat) : (Nat → Prop) → Prop := @Nat.rec (fun _ => (Nat → Prop) → Prop) (fun k => k 0) (fun _ ih k => ih fun m => k (m + 1)) n
theorem natK_iff : ∀ (n : Nat) (k : Nat → Prop), natK n k ↔ k n
  | 0, k => Iff.rfl
  | n + 1, k => natK_iff n fun m => k (m + 1)
noncomputable def drawUK {σ : Type} (P : Program) (O : Outer σ) (T : TT) (n0 : Nat) (ops : List Oper) (t : List AV) (s : List Ob) (x : σ) (k : List AV → List Ob → σ → Prop) : Prop :=
  natK (cutAt ops) fun p => mkK n0 s (nMakes ops) fun base s1 => adops P T ops (ops.take p) base t s1 [] fun t' s' fps => OkT p ops fps ∧ natK (base + nMakes (ops.take p)) fun id => andK (deadsAt s' id (nMakes (ops.drop p)))
    (aops P O T n0 ops (ops.drop p) id t' s' x k)
theorem AW_drawU {σ : Type} {P : Program} {T : TT} {O : Outer σ} {n0 : Nat} {r : Option Nat} {t : List AV} {s : List Ob} {x : σ} (hT : TOk P T) (hP : P.follows .mixedOrders = true) {id : Nat} {ops : Array Oper} {k : AExit → List AV → List Ob → σ → Prop} (h : drawUK P O T n0 ops.toList t s x fun t' s' x' => k .normal t' s' x') :
    AWs P O n0 r (.region id ops true) t s x k := by
  refine AW_drawT hT hP ?_
  unfold drawUK at h
  rw [natK_iff] at h
  simp only [natK_iff] at h
  exact h
end Go.AW

/- Engine 38: what a yield does, told more weakly; bodies that lie in a scope. -/
namespace Go.AW
open Go
set_option linter.unusedVariables false
theorem AY.mono {σ : Type} {P : Program} {O : Outer σ} {l : Nat} {args : List AV} {x : σ} {Q Q' : Bool → σ → Prop} (h : AY P O l args x Q) (hq : ∀ b x', Q b x' → Q' b x') : AY P O l args x Q' :=
  fun c w B h1 h2 => YieldAt.mono (h c w B h1 h2) fun e w' ⟨b, x', B', hQ, r⟩ => ⟨b, x', B', hq _ _ hQ, r⟩

end Go.AW
