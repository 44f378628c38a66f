/- Part of the proof of a law of the seat: the engine (states without addresses, and what they say of a run). No condition. -/
import Derived.RangeFuncRecord
import Derived.RangeFuncSeq
import Derived.OrdersIn
import Derived.Deep.MidRow
import Derived.Laws.MakeOwn
import Derived.Laws.AppendOwn
import Derived.ChangeKeysEq
import Derived.Laws.StructEq
/- The engine, 1: abstract values, objects, and the abstract weakest precondition of Go code, to be reckoned by unfolding. -/
namespace Go.AW

/-- kind of a flat cell -/
inductive CK where
  | ik (k : IntKind) | bl
  deriving DecidableEq, Repr, Inhabited

/-- abstract values: object ids in the place of addresses -/
inductive AV where
  | junk
  | bool (b : Bool)
  | int (k : IntKind) (n : Int)
  | str (s : ByteArray)
  | agg (l : List AV)
  | arr (ks : List CK) (l : List (List Int))
  | tup (l : List AV)
  | nilp
  | ptr (id i j : Nat)
  | nils
  | sl0   -- an empty slice without room that is not nil: of its address nothing is known
  | sl (id off len : Nat) (lim : Option Nat)
  | fn (f : FuncId) (first cap : List AV)
  | yld (l : Nat)
  | nilf
  | nili
  | iface (t : TypeId) (v : AV)
  deriving Inhabited

/-- abstract objects: 'cells' and 'row true ..' are of our own making -/
inductive Ob where
  | dead
  | cells (sz : Nat) (c : List AV)
  | row (own : Bool) (e : TypeId) (ks : List CK) (l : List (List Int))
  deriving Inhabited

def Ob.own : Ob → Bool
  | .dead => false
  | .cells _ _ => true
  | .row o _ _ _ => o

inductive TK where
  | int (k : IntKind) | bool | str | ptr (e : Nat) | slice (e : Nat) | array (n e : Nat)
  | struct (fs : List (Nat × Nat))
  | iface | func | other
  deriving Inhabited

def TK.isAgg : TK → Bool
  | .array .. | .struct .. => true
  | _ => false

/-- what is known of a type: z: its zero cells; ks: the kinds of its cells, if all are flat; big: a long array, held as a row -/
structure TI where
  k : TK
  size : Nat
  bytes : Nat
  z : List AV
  ks : Option (List CK)
  big : Option (Nat × Nat × List CK)
  eq : Option (List CK) := none
  deriving Inhabited

abbrev TT := List (List TI)

def nthK {α : Type} : List α → Nat → (α → Prop) → Prop
  | [], _, _ => False
  | x :: _, 0, k => k x
  | _ :: xs, n + 1, k => nthK xs n k

def setK {α : Type} : List α → Nat → α → (List α → Prop) → Prop
  | [], _, _, k => k []
  | _ :: xs, 0, v, k => k (v :: xs)
  | x :: xs, n + 1, v, k => setK xs n v fun l => k (x :: l)

def takeK {α : Type} : List α → Nat → (List α → Prop) → Prop
  | _, 0, k => k []
  | [], _ + 1, _ => False
  | x :: xs, n + 1, k => takeK xs n fun l => k (x :: l)

def dropK {α : Type} : List α → Nat → (List α → Prop) → Prop
  | l, 0, k => k l
  | [], _ + 1, _ => False
  | _ :: xs, n + 1, k => dropK xs n k

/-- the list with n more at its end; its old length -/
def extK {α : Type} : List α → List α → Nat → (Nat → List α → Prop) → Prop
  | [], vs, i, k => k i vs
  | x :: xs, vs, i, k => extK xs vs (i + 1) fun n l => k n (x :: l)

/-- other values from place j on -/
def overK {α : Type} : List α → Nat → List α → (List α → Prop) → Prop
  | l, _, [], k => k l
  | [], _, _ :: _, _ => False
  | x :: xs, j + 1, v :: vs, k => overK xs j (v :: vs) fun l => k (x :: l)
  | _ :: xs, 0, v :: vs, k => overK xs 0 vs fun l => k (v :: l)

def tyK (T : TT) (t : Nat) (k : TI → Prop) : Prop := nthK T (t / 16) fun l => nthK l (t % 16) k

/-- 'if b then x else False', reckoned where b is known -/
def andK (b : Bool) (x : Prop) : Prop := cond b x False

def ckv : CK → Int → AV
  | .ik k, n => .int k n
  | .bl, n => .bool (n != 0)

def ckvs : List CK → List Int → List AV
  | [], _ => []
  | c :: cs, l => ckv c (l.headD 0) :: ckvs cs l.tail

/-- a flat cell's number -/
def uncK : CK → AV → (Int → Prop) → Prop
  | .ik k, .int k' n, K => andK (decide (k = k')) (K n)
  | .bl, .bool b, K => K (cond b 1 0)
  | _, _, _ => False

def uncsK : List CK → List AV → (List Int → List AV → Prop) → Prop
  | [], l, k => k [] l
  | _ :: _, [], _ => False
  | c :: cs, v :: vs, k => uncK c v fun n => uncsK cs vs fun r rest => k (n :: r) rest

/-- cells to rows -/
def rowsK (ks : List CK) : Nat → List AV → (List (List Int) → Prop) → Prop
  | 0, _, k => k []
  | n + 1, l, k => uncsK ks l fun r rest => rowsK ks n rest fun rs => k (r :: rs)

def constK : Value → (AV → Prop) → Prop
  | .int k n, K => K (.int k n)
  | .bool b, K => K (.bool b)
  | .string s, K => K (.str s)
  | .pointer none, K => K .nilp
  | .slice none 0 0, K => K .nils
  | .nilFunc, K => K .nilf
  | .nilIface, K => K .nili
  | _, _ => False

def evK (t : List AV) : Operand → (AV → Prop) → Prop
  | .tmp i, k => nthK t i k
  | .const v, k => constK v k
  | .func f, k => k (.fn f [] [])
  | .global _, _ => False

def evsK (t : List AV) : List Operand → (List AV → Prop) → Prop
  | [], k => k []
  | x :: xs, k => evK t x fun v => evsK t xs fun l => k (v :: l)

/-- the cells of a value -/
def cellsK : AV → (List AV → Prop) → Prop
  | .agg l, k => k l
  | .arr _ _, _ => False
  | .tup _, _ => False
  | .junk, _ => False
  | v, k => k [v]

/-- may it lie in one cell? -/
def AV.one : AV → Bool
  | .agg _ | .arr .. | .tup _ | .junk => false
  | _ => true

inductive Eff where
  | none
  | set (id : Nat) (ob : Ob)


def effK (s : List Ob) (e : Eff) (k : List Ob → Prop) : Prop :=
  match e with
  | .none => k s
  | .set id ob => setK s id ob k

def putK (t : List AV) (dst : Option Tmp) (v : AV) (k : List AV → Prop) : Prop :=
  match dst with
  | some d => setK t d v k
  | none => k t

def fillStruct (t : List AV) (T : TT) (fs : List (Nat × Nat)) : List (Nat × Operand) → List AV → (List AV → Prop) → Prop
  | [], z, k => k z
  | (i, x) :: ps, z, k => nthK fs i fun f => tyK T f.2 fun ti => evK t x fun v => cellsK v fun cs =>
      andK (cs.length == ti.size && !(ti.size == 0)) (overK z f.1 cs fun z' => fillStruct t T fs ps z' k)

def fillArr (t : List AV) (es : Nat) : List (Nat × Operand) → List AV → (List AV → Prop) → Prop
  | [], z, k => k z
  | (i, x) :: ps, z, k => evK t x fun v => cellsK v fun cs =>
      andK (cs.length == es && !(es == 0)) (overK z (i * es) cs fun z' => fillArr t es ps z' k)

def ptrK : AV → (Nat → Nat → Nat → Prop) → Prop
  | .ptr id i j, k => k id i j
  | _, _ => False

def intK : AV → (Int → Prop) → Prop
  | .int _ n, k => k n
  | _, _ => False

def boolK : AV → (Bool → Prop) → Prop
  | .bool b, k => k b
  | _, _ => False

/-- the size of an object's elements -/
def szK : Ob → (Nat → Prop) → Prop
  | .row _ _ ks _, k => k ks.length
  | .cells sz _, k => k sz
  | .dead, _ => False

abbrev FP := Option (Nat × Bool)

def fpOf (ob : Ob) (i : Nat) : FP := cond ob.own (some (i, false)) none

def zOb (e : Nat) (ti : TI) : Ob :=
  match ti.big with
  | some (_, n, ks) => .row true e ks (List.replicate n (ks.map fun _ => 0))
  | none => .cells 0 ti.z

/-- a row's cell, or a whole element, or a whole row -/
def rowCells (ks : List CK) (l : List (List Int)) (i : Nat) : List AV := ckvs ks (l.getD i [])

def loadOb (ti : TI) (i j : Nat) (k : AV → FP → Prop) (id : Nat) : Ob → Prop
  | .cells sz c => dropK c (i * sz + j) fun c' => cond ti.k.isAgg (takeK c' ti.size fun l => k (.agg l) (some (id, false))) (nthK c' 0 fun v => k v (some (id, false)))
  | .row own _ ks l =>
      let fp := cond own (some (id, false)) none
      match ti.big with
      | some (_, n, ks') => andK (decide (ks = ks') && decide (l.length = n) && decide (i = 0) && decide (j = 0)) (k (.arr ks l) fp)
      | none => andK (decide (i < l.length)) (
        cond ti.k.isAgg (dropK (rowCells ks l i) j fun c' => takeK c' ti.size fun r => k (.agg r) fp)
         (nthK (rowCells ks l i) j fun v => k v fp))
  | .dead => False

/-- numbers over others, in a row's element -/
def storeRow (ks : List CK) (l : List (List Int)) (i j : Nat) (vs : List AV) (k : List (List Int) → Prop) : Prop :=
  andK (decide (i < l.length)) (overK (rowCells ks l i) j vs fun c => uncsK ks c fun r _ => k (l.set i r))

def storeOb (v : AV) (sz i j : Nat) (k : Ob → Prop) : Ob → Prop
  | .cells osz c => cellsK v fun vs => andK (vs.length == sz && vs.all AV.one) (overK c (i * osz + j) vs fun c' => k (.cells osz c'))
  | .row true e ks l =>
    match v with
    | .arr ks' l' => andK (decide (ks = ks') && decide (l'.length = l.length) && decide (i = 0) && decide (j = 0) && decide (sz = l.length * ks.length)) (k (.row true e ks l'))
    | _ => cellsK v fun vs => andK (vs.length == sz) (storeRow ks l i j vs fun l' => k (.row true e ks l'))
  | _ => False

namespace Z
/-- numbers, as they go round -/
abbrev add (k : IntKind) (a b : Int) : Int := k.wrap (a + b)
abbrev sub (k : IntKind) (a b : Int) : Int := k.wrap (a - b)
abbrev mul (k : IntKind) (a b : Int) : Int := k.wrap (a * b)
abbrev quo (k : IntKind) (a b : Int) : Int := k.wrap (a.tdiv b)
abbrev rem (_k : IntKind) (a b : Int) : Int := a.tmod b
abbrev neg (k : IntKind) (a : Int) : Int := k.wrap (0 - a)
abbrev not (k : IntKind) (a : Int) : Int := k.wrap (BitVec.ofInt k.bits (if k.signed then -1 else k.max) ^^^ BitVec.ofInt k.bits a).toNat
abbrev shl (k : IntKind) (a b : Int) : Int := k.wrap (a * 2 ^ (min b.toNat k.bits))
abbrev shr (k : IntKind) (a b : Int) : Int := a.fdiv (2 ^ (min b.toNat k.bits))
abbrev and (k : IntKind) (a b : Int) : Int := k.wrap (BitVec.ofInt k.bits a &&& BitVec.ofInt k.bits b).toNat
abbrev or (k : IntKind) (a b : Int) : Int := k.wrap (BitVec.ofInt k.bits a ||| BitVec.ofInt k.bits b).toNat
abbrev xor (k : IntKind) (a b : Int) : Int := k.wrap (BitVec.ofInt k.bits a ^^^ BitVec.ofInt k.bits b).toNat
abbrev andNot (k : IntKind) (a b : Int) : Int := k.wrap (BitVec.ofInt k.bits a &&& ~~~ BitVec.ofInt k.bits b).toNat
end Z

def aBin (op : BinOp) : AV → AV → (AV → Prop) → Prop
  | .int k a, .int k' b, K =>
    match op with
    | .shl => andK (decide (0 ≤ b)) (K (.int k (Z.shl k a b)))
    | .shr => andK (decide (0 ≤ b)) (K (.int k (Z.shr k a b)))
    | .add => andK (decide (k = k')) (K (.int k (Z.add k a b)))
    | .sub => andK (decide (k = k')) (K (.int k (Z.sub k a b)))
    | .mul => andK (decide (k = k')) (K (.int k (Z.mul k a b)))
    | .quo => andK (decide (k = k')) (andK (!decide (b = 0)) (K (.int k (Z.quo k a b))))
    | .rem => andK (decide (k = k')) (andK (!decide (b = 0)) (K (.int k (Z.rem k a b))))
    | .and => andK (decide (k = k')) (K (.int k (Z.and k a b)))
    | .or => andK (decide (k = k')) (K (.int k (Z.or k a b)))
    | .xor => andK (decide (k = k')) (K (.int k (Z.xor k a b)))
    | .andNot => andK (decide (k = k')) (K (.int k (Z.andNot k a b)))
    | .eql => andK (decide (k = k')) (K (.bool (a == b)))
    | .neq => andK (decide (k = k')) (K (.bool (a != b)))
    | .lss => andK (decide (k = k')) (K (.bool (decide (a < b))))
    | .leq => andK (decide (k = k')) (K (.bool (decide (a ≤ b))))
    | .gtr => andK (decide (k = k')) (K (.bool (decide (a > b))))
    | .geq => andK (decide (k = k')) (K (.bool (decide (a ≥ b))))
  | _, _, _ => False

/-- what compares: '==' on values whose type has only flat cells -/
def flatEq : List CK → List AV → List AV → (Bool → Prop) → Prop
  | [], [], [], K => K true
  | .ik k :: cs, .int k1 a :: l, .int k2 b :: r, K => andK (decide (k1 = k) && decide (k2 = k)) (flatEq cs l r fun e => K (a == b && e))
  | .bl :: cs, .bool a :: l, .bool b :: r, K => flatEq cs l r fun e => K (a == b && e)
  | _, _, _, _ => False

def aEq (ti : TI) : AV → AV → (Bool → Prop) → Prop
  | .bool a, .bool b, K => match ti.k with
    | .bool => K (a == b)
    | _ => False
  | .nilp, .nilp, K => match ti.k with
    | .ptr _ => K true
    | _ => False
  | .ptr .., .nilp, K | .nilp, .ptr .., K => match ti.k with
    | .ptr _ => K false
    | _ => False
  | .nils, .nils, K => match ti.k with
    | .slice _ => K true
    | _ => False
  | .sl0, .nils, K | .nils, .sl0, K => match ti.k with
    | .slice _ => K false
    | _ => False
  | .sl .., .nils, K | .nils, .sl .., K => match ti.k with
    | .slice _ => K false
    | _ => False
  | .agg l, .agg r, K => match ti.eq with
    | some ks => flatEq ks l r K
    | none => False
  | _, _, _ => False

def aUn (op : UnOp) : AV → (AV → Prop) → Prop
  | .int k a, K => match op with
    | .neg => K (.int k (Z.neg k a))
    | .xor => K (.int k (Z.not k a))
    | _ => False
  | .bool b, K => match op with
    | .not => K (.bool !b)
    | _ => False
  | _, _ => False

/-- the greater, or the lesser, of two -/
def mmI (mx : Bool) (a b : Int) : Int := cond mx (if b > a then b else a) (if b < a then b else a)

def minmaxK (mx : Bool) : AV → List AV → (AV → Prop) → Prop
  | v, [], K => K v
  | .int k a, .int _ b :: r, K => minmaxK mx (.int k (mmI mx a b)) r K
  | _, _, _ => False

/-- built-ins that touch no memory -/
def aBuiltin (T : TT) (ts : List TypeId) : Builtin → List AV → (AV → Prop) → Prop
  | .len, vs, K => match ts with
    | ty :: _ => tyK T ty fun ti => match ti.k, vs with
      | .slice _, [.sl _ _ len _] => K (.int .i64 len)
      | .slice _, [.nils] => K (.int .i64 0)
      | .slice _, [.sl0] => K (.int .i64 0)
      | .str, [.str s] => K (.int .i64 s.size)
      | _, _ => False
    | [] => False
  | .max, .int k a :: r, K => minmaxK true (.int k a) r K
  | .min, .int k a :: r, K => minmaxK false (.int k a) r K
  | _, _, _ => False

/-- a bound of a slice expression -/
def boundK (t : List AV) (o : Option Operand) (dflt : Nat) (K : Int → Prop) : Prop :=
  match o with
  | none => K dflt
  | some x => evK t x fun v => intK v K

/-- operations that touch no memory, load, store, or make one object: the value, the change, the place touched -/
def aval (T : TT) (id : Nat) (op : Op) (t : List AV) (s : List Ob) (k : AV → Eff → FP → Prop) : Prop :=
  match op with
  | .move x | .assign x => evK t x fun v => k v .none none
  | .pick c a b => evK t c fun cv => boolK cv fun b' => cond b' (evK t a fun v => k v .none none) (evK t b fun v => k v .none none)
  | .nilCheck x => evK t x fun v => match v with
    | .ptr .. => k v .none none
    | _ => False
  | .alloc e => tyK T e fun ti => andK (ti.big.isSome || ti.z.length == ti.size) (k (.ptr id 0 0) (.set id (zOb e ti)) (some (id, true)))
  | .box e x => tyK T e fun ti => evK t x fun v => match v with
    | .arr ks l => match ti.big with
      | some (_, n, ks') => andK (decide (ks = ks') && decide (l.length = n)) (k (.ptr id 0 0) (.set id (.row true e ks l)) (some (id, true)))
      | none => False
    | _ => cellsK v fun c => andK (c.all AV.one) (k (.ptr id 0 0) (.set id (.cells 0 c)) (some (id, true)))
  | .build ty parts => tyK T ty fun ti => match ti.k with
    | .struct fs => andK (ti.z.length == ti.size) (fillStruct t T fs parts.toList ti.z fun l => k (.agg l) .none none)
    | .array _ e => match ti.big with
      | some (_, n, ks) => match parts.toList with
        | [] => k (.arr ks (List.replicate n (ks.map fun _ => 0))) .none none
        | _ => False
      | none => andK (ti.z.length == ti.size) (tyK T e fun te => fillArr t te.size parts.toList ti.z fun l => k (.agg l) .none none)
    | _ => False
  | .buildSlice ty len parts => tyK T ty fun ti => match ti.k with
    | .slice e => tyK T e fun te => andK (decide (len * te.size ≤ 16777216) && decide (len ≤ 16777216) && !(te.size == 0) && te.z.length == te.size) (fillArr t te.size parts.toList (List.replicate len te.z).flatten fun l =>
        match te.ks with
        | some ks => rowsK ks len l fun rs => k (.sl id 0 len none) (.set id (.row true e ks rs)) (some (id, true))
        | none => andK (l.all AV.one) (k (.sl id 0 len none) (.set id (.cells te.size l)) (some (id, true))))
    | _ => False
  | .makeSlice ty lenx capx => tyK T ty fun ti => match ti.k with
    | .slice e => tyK T e fun te => match te.ks with
      | some ks => evK t lenx fun lv => intK lv fun len => evK t capx fun cv => intK cv fun cap =>
          andK (decide (0 ≤ len) && decide (len ≤ cap) && decide ((te.bytes : Int) * cap ≤ 140737488355328) && decide (cap ≤ 9223372036854775807))
            (k (.sl id 0 len.toNat none) (.set id (.row true e ks (List.replicate len.toNat (ks.map fun _ => 0)))) (some (id, true)))
      | none => False
    | _ => False
  | .load ty a => tyK T ty fun ti => evK t a fun av => ptrK av fun i r j => nthK s i (loadOb ti r j (fun v fp => k v .none fp) i)
  | .store ty a x => tyK T ty fun ti => evK t a fun av => ptrK av fun i r j => evK t x fun v =>
      nthK s i (storeOb v ti.size r j fun ob => k .junk (.set i ob) (some (i, true)))
  | .binOp op ty x y _ => evK t x fun a => evK t y fun b =>
      match op, a with
      | _, .int .. => aBin op a b fun v => k v .none none
      | .eql, _ => tyK T ty fun ti => aEq ti a b fun r => k (.bool r) .none none
      | .neq, _ => tyK T ty fun ti => aEq ti a b fun r => k (.bool !r) .none none
      | _, _ => False
  | .unOp op _ x => evK t x fun a => aUn op a fun v => k v .none none
  | .convert src dst x => tyK T src fun _ => tyK T dst fun ti => evK t x fun a => match ti.k, a with
    | .int kd, .int _ n => k (.int kd (kd.wrap n)) .none none
    | _, _ => False
  | .makeFunc (.func f) first captured => evsK t first.toList fun a => evsK t captured.toList fun b => k (.fn f a b) .none none
  | .fieldAddr ty x f => tyK T ty fun ti => evK t x fun av => ptrK av fun i r j => match ti.k with
    | .struct fs => nthK fs f fun fd => tyK T fd.2 fun tf => andK (!(tf.size == 0)) (k (.ptr i r (j + fd.1)) .none none)
    | _ => False
  | .field ty x f => tyK T ty fun ti => evK t x fun av => match ti.k, av with
    | .struct fs, .agg l => nthK fs f fun fd => tyK T fd.2 fun tf => dropK l fd.1 fun l' =>
        cond tf.k.isAgg (takeK l' tf.size fun r => k (.agg r) .none none) (nthK l' 0 fun v => k v .none none)
    | _, _ => False
  | .indexAddr ty x ix => tyK T ty fun ti => evK t ix fun iv => intK iv fun n => evK t x fun av => match ti.k, av with
    | .array len e, .ptr i r j => andK (decide (0 ≤ n) && decide (n < len)) (match ti.big with
      | some (_, _, ks) => andK (decide (r = 0) && decide (j = 0)) (nthK s i fun ob => match ob with
        | .row own _ ks' _ => andK (decide (ks = ks')) (k (.ptr i n.toNat 0) .none (cond own (some (i, false)) none))
        | _ => False)
      | none => tyK T e fun te => k (.ptr i r (j + n.toNat * te.size)) .none none)
    | .slice e, .sl i off len _ => andK (decide (0 ≤ n) && decide (n < len)) (tyK T e fun te => nthK s i fun ob => szK ob fun sz => andK (sz == te.size) (k (.ptr i (off + n.toNat) 0) .none (fpOf ob i)))
    | _, _ => False
  | .index ty x ix => tyK T ty fun ti => evK t ix fun iv => intK iv fun n => evK t x fun av => match ti.k, av with
    | .array len e, .agg l => andK (decide (0 ≤ n) && decide (n < len)) (tyK T e fun te => dropK l (n.toNat * te.size) fun l' =>
        cond te.k.isAgg (takeK l' te.size fun r => k (.agg r) .none none) (nthK l' 0 fun v => k v .none none))
    | .array len e, .arr ks l => andK (decide (0 ≤ n) && decide (n < len) && decide (l.length = len)) (tyK T e fun te =>
        andK (decide (te.size = ks.length)) (cond te.k.isAgg (k (.agg (rowCells ks l n.toNat)) .none none) (nthK (rowCells ks l n.toNat) 0 fun v => k v .none none)))
    | .str, .str b => andK (decide (0 ≤ n) && decide (n < b.size)) (k (.int .u8 ((b.data.getD n.toNat 0).toNat : Int)) .none none)
    | _, _ => False
  | .slice ty x lo hi none => tyK T ty fun ti => evK t x fun av => match ti.k, av with
    | .slice e, .sl i off len lim => tyK T e fun te => nthK s i fun ob => szK ob fun sz => andK (sz == te.size) <| boundK t hi len fun h => andK (decide (0 ≤ h) && decide (h ≤ len)) (boundK t lo 0 fun l => andK (decide (0 ≤ l) && decide (l ≤ h))
        (k (.sl i (off + l.toNat) (h.toNat - l.toNat) (lim.map fun c => c - l.toNat)) .none (fpOf ob i)))
    | .slice _, .nils => boundK t hi 0 fun h => andK (decide (0 ≤ h) && decide (h ≤ 0)) (boundK t lo 0 fun l => andK (decide (0 ≤ l) && decide (l ≤ h)) (k .nils .none none))
    | .slice _, .sl0 => boundK t hi 0 fun h => andK (decide (0 ≤ h) && decide (h ≤ 0)) (boundK t lo 0 fun l => andK (decide (0 ≤ l) && decide (l ≤ h)) (k .sl0 .none none))
    | _, _ => False
  | .extract x i => evK t x fun v => match v with
    | .tup l => nthK l i fun v => k v .none none
    | _ => False
  | .call c => match c.callee with
    | .builtin b => evsK t c.args.toList fun vs => aBuiltin T c.argTypes.toList b vs fun v => k v .none none
    | _ => False
  | _ => False

def Op.makes : Op → Bool
  | .alloc _ | .box .. | .buildSlice .. | .makeSlice .. => true
  | .call c => match c.callee with
    | .builtin .append => true
    | _ => false
  | _ => false

def nMakes : List Oper → Nat
  | [] => 0
  | o :: r => cond (Op.makes o.op) (nMakes r + 1) (nMakes r)

def deads : Nat → List Ob
  | 0 => []
  | n + 1 => .dead :: deads n

/-- does the value bear the object's id? -/
def AV.has (id : Nat) : AV → Bool
  | .ptr i _ _ => i == id
  | .sl i _ _ _ => i == id
  | .agg l => hasL l
  | .tup l => hasL l
  | .fn _ a b => hasL a || hasL b
  | .iface _ v => AV.has id v
  | _ => false
where hasL : List AV → Bool
  | [] => false
  | v :: r => AV.has id v || hasL r

def sweepT (id : Nat) : List AV → (List AV → Prop) → Prop
  | [], k => k []
  | v :: r, k => sweepT id r fun r' => cond (v.has id) (k (.junk :: r')) (k (v :: r'))

def sweepS (id : Nat) : List Ob → (List Ob → Prop) → Prop
  | [], k => k []
  | .cells sz c :: r, k => sweepT id c fun c' => sweepS id r fun r' => k (.cells sz c' :: r')
  | ob :: r, k => sweepS id r fun r' => k (ob :: r')

inductive AExit where
  | normal | exit (id : Nat) | goto (l : Nat) | ret
  deriving Inhabited, DecidableEq

end Go.AW

/- The engine, 2: what an abstract state says of the machine's world. -/
namespace Go.AW

/-- where an object lies -/
structure MA where
  blk : Nat
  off : Nat
  sz : Nat
  cap : Nat
  deriving Inhabited

def ckV : CK → Int → Value
  | .ik k, n => .int k n
  | .bl, n => .bool (n != 0)

def rowV : List CK → List Int → List Value
  | [], _ => []
  | c :: cs, l => ckV c (l.headD 0) :: rowV cs l.tail

def flatV (ks : List CK) (l : List (List Int)) : List Value := (l.map (rowV ks)).flatten

abbrev MM := Nat → MA

mutual
def VR (D : Nat → Prop) (μ : MM) : AV → Value → Prop
  | .junk, _ => True
  | .bool b, v => v = .bool b
  | .int k m, v => v = .int k m
  | .str s, v => v = .string s
  | .agg l, v => ∃ cs : List Value, v = .agg cs.toArray ∧ VRL D μ l cs
  | .arr ks l, v => v = .agg (flatV ks l).toArray
  | .tup l, v => ∃ cs : List Value, v = .tuple cs.toArray ∧ VRL D μ l cs
  | .nilp, v => v = .pointer none
  | .ptr id i j, v => D id ∧ v = .pointer (some ⟨(μ id).blk, (μ id).off + (i * (μ id).sz + j), none⟩)
  | .nils, v => v = .slice none 0 0
  | .sl0, v => ∃ ad, v = .slice (some ad) 0 0
  | .sl id off len lim, v => D id ∧ ∃ cap ad, v = .slice (some ad) len cap ∧ (cap ≠ 0 → ad = ⟨(μ id).blk, (μ id).off + off * (μ id).sz, none⟩) ∧ len ≤ cap ∧ off + cap ≤ (μ id).cap ∧
      match lim with
      | none => off + cap = (μ id).cap
      | some c => cap = c
  | .fn f a b, v => ∃ as bs : List Value, v = .func (.func f) as.toArray bs.toArray ∧ VRL D μ a as ∧ VRL D μ b bs
  | .yld l, v => v = .func (.yield l) #[] #[]
  | .nilf, v => v = .nilFunc
  | .nili, v => v = .nilIface
  | .iface t x, v => ∃ u, v = .iface t u ∧ VR D μ x u
def VRL (D : Nat → Prop) (μ : MM) : List AV → List Value → Prop
  | [], vs => vs = []
  | a :: l, vs => ∃ v r, vs = v :: r ∧ VR D μ a v ∧ VRL D μ l r
end

/-- one object, as it lies in the world -/
def OR (D : Nat → Prop) (μ : MM) (w : World) (m : MA) : Ob → Prop
  | .dead => True
  | .cells sz c => m.off = 0 ∧ m.sz = sz ∧ ∃ (cs : List Value) (e : TypeId), w.heap[m.blk]? = some (.cells cs.toArray e (0, 0)) ∧ VRL D μ c cs
  | .row true e ks l => m.off = 0 ∧ m.sz = ks.length ∧ l.length ≤ m.cap ∧ m.cap ≤ maxLen ∧
      ∃ cs : List Value, w.heap[m.blk]? = some (.cells cs.toArray e (0, 0)) ∧ cs.length = m.cap * m.sz ∧ cs.take (l.length * m.sz) = flatV ks l
  | .row false _ ks l => m.sz = ks.length ∧ l.length ≤ m.cap ∧ (∃ cs e fr, w.heap[m.blk]? = some (.cells cs e fr)) ∧
      ∀ i j, i < l.length → j < ks.length → w.cell? ⟨m.blk, m.off + (i * m.sz + j), none⟩ = (rowV ks (l.getD i []))[j]?

/-- an object that is there -/
def Live (s : List Ob) (id : Nat) : Prop := ∃ o, s[id]? = some o ∧ o ≠ .dead

structure Rel (μ : MM) (s : List Ob) (w : World) : Prop where
  ob : ∀ id o, s[id]? = some o → OR (Live s) μ w (μ id) o
  sep : ∀ id id' o o', s[id]? = some o → s[id']? = some o' → id ≠ id' → o.own = true → o' ≠ .dead → (μ id).blk ≠ (μ id').blk

/-- the blocks that may be written -/
def RW (μ : MM) (s : List Ob) (b : Nat) : Prop := ∃ id o, s[id]? = some o ∧ o.own = true ∧ (μ id).blk = b

/-- the blocks of what is there -/
def LV (μ : MM) (s : List Ob) (b : Nat) : Prop := ∃ id o, s[id]? = some o ∧ o ≠ .dead ∧ (μ id).blk = b

theorem RW.lv {μ : MM} {s : List Ob} {b : Nat} (h : RW μ s b) : LV μ s b := by
  obtain ⟨id, o, h1, h2, h3⟩ := h
  exact ⟨id, o, h1, by rintro rfl; simp [Ob.own] at h2, h3⟩

/-- outside of R the old blocks are as they were -/
structure Fr (R : Nat → Prop) (w w' : World) : Prop where
  os : w'.os = w.os
  tape : w'.tape = w.tape
  output : w'.output = w.output
  size : w.heap.size ≤ w'.heap.size
  block : ∀ k, k < w.heap.size → ¬ R k → w'.heap[k]? = w.heap[k]?
  froz : ∀ a, w'.frozen? a = true → w.frozen? a = true

theorem Fr.refl (R : Nat → Prop) (w : World) : Fr R w w := ⟨rfl, rfl, rfl, Nat.le_refl _, fun _ _ _ => rfl, fun _ h => h⟩
theorem Fr.mono {R R' : Nat → Prop} {w w' : World} (h : Fr R w w') (hr : ∀ k, k < w.heap.size → R k → R' k) : Fr R' w w' :=
  ⟨h.os, h.tape, h.output, h.size, fun k hk hn => h.block k hk fun hr' => hn (hr k hk hr'), h.froz⟩
theorem Fr.trans {R R' : Nat → Prop} {a b c : World} (h : Fr R a b) (h' : Fr R' b c) (hr : ∀ k, k < a.heap.size → R' k → R k) : Fr R a c :=
  ⟨h'.os.trans h.os, h'.tape.trans h.tape, h'.output.trans h.output, Nat.le_trans h.size h'.size, fun k hk hn =>
    (h'.block k (Nat.lt_of_lt_of_le hk h.size) fun hr' => hn (hr k hk hr')).trans (h.block k hk hn), fun a ha => h.froz a (h'.froz a ha)⟩

/-- what lies about: the caller's own state, of which rounds of a range over a function change something -/
structure Outer (σ : Type) where
  I : σ → (Nat → Prop) → World → Prop
  keep : ∀ x B w w' R, I x B w → Fr R w w' → (∀ b, B b → ¬ R b) → I x B w'
  bound : ∀ x B w b, I x B w → B b → b < w.heap.size

def Outer.none : Outer Unit := ⟨fun _ B _ => ∀ b, ¬ B b, fun _ _ _ _ _ h _ _ => h, fun _ _ _ b h hb => absurd hb (h b)⟩

/-- from one state to a later one -/
structure After (n0 : Nat) (μ : MM) (s : List Ob) (B : Nat → Prop) (w : World) (μ' : MM) (s' : List Ob) (B' : Nat → Prop) (w' : World) : Prop where
  agree : ∀ id, id < n0 → μ' id = μ id
  keep : ∀ id, id < n0 → Live s id → Live s' id
  dead : ∀ id, id < n0 → s[id]? = some .dead → s'[id]? = some .dead
  len : n0 ≤ s'.length
  fr : Fr (fun b => RW μ s b ∨ B b) w w'
  rw : ∀ b, RW μ' s' b → RW μ s b ∨ w.heap.size ≤ b
  lv : ∀ b, LV μ' s' b → LV μ s b ∨ w.heap.size ≤ b
  b : ∀ b, B' b → B b ∨ w.heap.size ≤ b
  sep : ∀ b, B' b → ¬ LV μ' s' b

theorem After.trans {n0 : Nat} {μ μ1 μ2 : MM} {s s1 s2 : List Ob} {B B1 B2 : Nat → Prop} {w w1 w2 : World} (h : After n0 μ s B w μ1 s1 B1 w1) (h' : After n0 μ1 s1 B1 w1 μ2 s2 B2 w2) :
    After n0 μ s B w μ2 s2 B2 w2 where
  agree id hid := (h'.agree id hid).trans (h.agree id hid)
  keep id hid hl := h'.keep id hid (h.keep id hid hl)
  dead id hid hl := h'.dead id hid (h.dead id hid hl)
  len := h'.len
  fr := h.fr.trans h'.fr fun k hk hr => by
    rcases hr with hr | hr
    · rcases h.rw k hr with q | q
      · exact .inl q
      · omega
    · rcases h.b k hr with q | q
      · exact .inr q
      · omega
  rw b hb := by
    rcases h'.rw b hb with q | q
    · exact h.rw b q
    · exact .inr (Nat.le_trans h.fr.size q)
  lv b hb := by
    rcases h'.lv b hb with q | q
    · exact h.lv b q
    · exact .inr (Nat.le_trans h.fr.size q)
  b b hb := by
    rcases h'.b b hb with q | q
    · exact h.b b q
    · exact .inr (Nat.le_trans h.fr.size q)
  sep := h'.sep

theorem After.refl {n0 : Nat} {μ : MM} {s : List Ob} {B : Nat → Prop} {w : World} (hn : n0 ≤ s.length) (hB : ∀ b, B b → ¬ LV μ s b) : After n0 μ s B w μ s B w :=
  ⟨fun _ _ => rfl, fun _ _ h => h, fun _ _ h => h, hn, Fr.refl _ _, fun _ h => .inl h, fun _ h => .inl h, fun _ h => .inl h, hB⟩

/-! ### the CPS words, told plainly -/
theorem nthK_iff {α : Type} : ∀ (l : List α) (n : Nat) (k : α → Prop), nthK l n k ↔ ∃ x, l[n]? = some x ∧ k x
  | [], n, k => by simp [nthK]
  | x :: xs, 0, k => by simp [nthK]
  | x :: xs, n + 1, k => by simp [nthK, nthK_iff xs n k]

theorem setK_iff {α : Type} : ∀ (l : List α) (n : Nat) (v : α) (k : List α → Prop), setK l n v k ↔ k (l.set n v)
  | [], _, _, _ => by simp [setK]
  | _ :: _, 0, _, _ => by simp [setK]
  | x :: xs, n + 1, v, k => by simp [setK, setK_iff xs n v]

theorem takeK_iff {α : Type} : ∀ (l : List α) (n : Nat) (k : List α → Prop), takeK l n k ↔ n ≤ l.length ∧ k (l.take n)
  | _, 0, k => by simp [takeK]
  | [], n + 1, k => by simp [takeK]
  | x :: xs, n + 1, k => by simp [takeK, takeK_iff xs n]

theorem dropK_iff {α : Type} : ∀ (l : List α) (n : Nat) (k : List α → Prop), dropK l n k ↔ n ≤ l.length ∧ k (l.drop n)
  | l, 0, k => by simp [dropK]
  | [], n + 1, k => by simp [dropK]
  | x :: xs, n + 1, k => by simp [dropK, dropK_iff xs n]

theorem extK_iff {α : Type} : ∀ (l vs : List α) (i : Nat) (k : Nat → List α → Prop), extK l vs i k ↔ k (i + l.length) (l ++ vs)
  | [], vs, i, k => by simp [extK]
  | x :: xs, vs, i, k => by
    have : i + 1 + xs.length = i + (xs.length + 1) := by omega
    simp [extK, extK_iff xs vs (i + 1), this]

def over {α : Type} (l : List α) (j : Nat) (vs : List α) : List α := l.take j ++ vs ++ l.drop (j + vs.length)

theorem overK_iff {α : Type} : ∀ (l : List α) (j : Nat) (vs : List α) (k : List α → Prop), vs ≠ [] ∨ j ≤ l.length → (overK l j vs k ↔ j + vs.length ≤ l.length ∧ k (over l j vs))
  | l, j, [], k, h => by
    have hj : j ≤ l.length := h.resolve_left (by simp)
    cases l with
    | nil => simp at hj; subst hj; simp [overK, over]
    | cons x xs => cases j <;> simp [overK, over] <;> (simp at hj; try omega)
  | [], j, v :: vs, k, _ => by cases j <;> simp [overK]
  | x :: xs, 0, v :: vs, k, _ => by simp [overK, overK_iff xs 0 vs _ (.inr (Nat.zero_le _)), over]
  | x :: xs, j + 1, v :: vs, k, _ => by
    have : j + 1 + (vs.length + 1) = (j + (vs.length + 1)) + 1 := by omega
    simp [overK, overK_iff xs j (v :: vs) _ (.inl (by simp)), over, this]

theorem andK_iff (b : Bool) (x : Prop) : andK b x ↔ b = true ∧ x := by cases b <;> simp [andK]
theorem cond_iff (b : Bool) (x y : Prop) : cond b x y ↔ (b = true ∧ x) ∨ (b = false ∧ y) := by cases b <;> simp

theorem tyK_iff (T : TT) (t : Nat) (k : TI → Prop) : tyK T t k ↔ ∃ l ti, T[t / 16]? = some l ∧ l[t % 16]? = some ti ∧ k ti := by
  unfold tyK; rw [nthK_iff]
  constructor
  · rintro ⟨l, h1, h2⟩; rw [nthK_iff] at h2; obtain ⟨ti, h2, h3⟩ := h2; exact ⟨l, ti, h1, h2, h3⟩
  · rintro ⟨l, ti, h1, h2, h3⟩; exact ⟨l, h1, (nthK_iff _ _ _).2 ⟨ti, h2, h3⟩⟩

def TT.at (T : TT) (t : Nat) : Option TI := (T[t / 16]?).bind fun l => l[t % 16]?

theorem tyK_at (T : TT) (t : Nat) (k : TI → Prop) : tyK T t k ↔ ∃ ti, T.at t = some ti ∧ k ti := by
  rw [tyK_iff]
  constructor
  · rintro ⟨l, ti, h1, h2, h3⟩; exact ⟨ti, by simp [TT.at, h1, h2], h3⟩
  · rintro ⟨ti, h1, h3⟩
    unfold TT.at at h1
    cases hl : T[t / 16]? with
    | none => simp [hl] at h1
    | some l => simp [hl] at h1; exact ⟨l, ti, rfl, h1, h3⟩

/-! ### values -/
mutual
theorem VR.mono {D D' : Nat → Prop} {μ μ' : MM} (hD : ∀ id, D id → D' id ∧ μ' id = μ id) : ∀ {a : AV} {v : Value}, VR D μ a v → VR D' μ' a v
  | .junk, _, _ => by simp [VR]
  | .bool _, _, h => by simpa [VR] using h
  | .int _ _, _, h => by simpa [VR] using h
  | .str _, _, h => by simpa [VR] using h
  | .agg l, _, h => by
    simp only [VR] at h ⊢
    obtain ⟨cs, e, h⟩ := h
    exact ⟨cs, e, VRL.mono hD h⟩
  | .arr _ _, _, h => by simpa [VR] using h
  | .tup l, _, h => by
    simp only [VR] at h ⊢
    obtain ⟨cs, e, h⟩ := h
    exact ⟨cs, e, VRL.mono hD h⟩
  | .nilp, _, h => by simpa [VR] using h
  | .ptr id i j, _, h => by
    simp only [VR] at h ⊢
    obtain ⟨h1, h2⟩ := h
    rw [(hD id h1).2]
    exact ⟨(hD id h1).1, h2⟩
  | .nils, _, h => by simpa [VR] using h
  | .sl0, _, h => by simpa [VR] using h
  | .sl id off len lim, _, h => by
    simp only [VR] at h ⊢
    obtain ⟨h1, h2⟩ := h
    rw [(hD id h1).2]
    exact ⟨(hD id h1).1, h2⟩
  | .fn f a b, _, h => by
    simp only [VR] at h ⊢
    obtain ⟨as, bs, e, ha, hb⟩ := h
    exact ⟨as, bs, e, VRL.mono hD ha, VRL.mono hD hb⟩
  | .yld _, _, h => by simpa [VR] using h
  | .nilf, _, h => by simpa [VR] using h
  | .nili, _, h => by simpa [VR] using h
  | .iface t x, _, h => by
    simp only [VR] at h ⊢
    obtain ⟨u, e, h⟩ := h
    exact ⟨u, e, VR.mono hD h⟩
theorem VRL.mono {D D' : Nat → Prop} {μ μ' : MM} (hD : ∀ id, D id → D' id ∧ μ' id = μ id) : ∀ {l : List AV} {vs : List Value}, VRL D μ l vs → VRL D' μ' l vs
  | [], _, h => by simpa [VRL] using h
  | a :: l, _, h => by
    simp only [VRL] at h ⊢
    obtain ⟨v, r, e, h1, h2⟩ := h
    exact ⟨v, r, e, VR.mono hD h1, VRL.mono hD h2⟩
end

theorem VRL.length {D : Nat → Prop} {μ : MM} : ∀ {l : List AV} {vs : List Value}, VRL D μ l vs → vs.length = l.length
  | [], _, h => by simp only [VRL] at h; subst h; rfl
  | a :: l, _, h => by
    simp only [VRL] at h
    obtain ⟨v, r, rfl, _, h2⟩ := h
    simp [VRL.length h2]

theorem VRL_iff {D : Nat → Prop} {μ : MM} : ∀ {l : List AV} {vs : List Value}, VRL D μ l vs ↔ vs.length = l.length ∧ ∀ (i : Nat) (a : AV) (v : Value), l[i]? = some a → vs[i]? = some v → VR D μ a v
  | [], vs => by
    simp only [VRL]
    constructor
    · rintro rfl; simp
    · rintro ⟨h, _⟩; exact List.eq_nil_of_length_eq_zero h
  | a :: l, vs => by
    simp only [VRL]
    constructor
    · rintro ⟨v, r, rfl, h1, h2⟩
      refine ⟨by simp [VRL.length h2], fun i a' v' ha hv => ?_⟩
      cases i with
      | zero => simp at ha hv; subst ha; subst hv; exact h1
      | succ i => simp at ha hv; exact (VRL_iff.1 h2).2 i a' v' ha hv
    · rintro ⟨hl, h⟩
      cases vs with
      | nil => simp at hl
      | cons v r =>
        refine ⟨v, r, rfl, h 0 a v (by simp) (by simp), VRL_iff.2 ⟨by simpa using hl, fun i a' v' ha hv => h (i + 1) a' v' (by simpa using ha) (by simpa using hv)⟩⟩

theorem VRL.get {D : Nat → Prop} {μ : MM} {l : List AV} {vs : List Value} (h : VRL D μ l vs) {i : Nat} {a : AV} (ha : l[i]? = some a) : ∃ v, vs[i]? = some v ∧ VR D μ a v := by
  obtain ⟨h1, h2⟩ := VRL_iff.1 h
  have hi : i < vs.length := by rw [h1]; exact (List.getElem?_eq_some_iff.1 ha).1
  exact ⟨vs[i], List.getElem?_eq_getElem hi, h2 i a _ ha (List.getElem?_eq_getElem hi)⟩

theorem VRL.append {D : Nat → Prop} {μ : MM} {l l' : List AV} {vs vs' : List Value} (h : VRL D μ l vs) (h' : VRL D μ l' vs') : VRL D μ (l ++ l') (vs ++ vs') := by
  induction l generalizing vs with
  | nil => simp only [VRL] at h; subst h; simpa using h'
  | cons a l ih =>
    simp only [VRL] at h
    obtain ⟨v, r, rfl, h1, h2⟩ := h
    simp only [List.cons_append, VRL]
    exact ⟨v, r ++ vs', rfl, h1, ih h2⟩

theorem VRL.take {D : Nat → Prop} {μ : MM} {l : List AV} {vs : List Value} (h : VRL D μ l vs) (k : Nat) : VRL D μ (l.take k) (vs.take k) := by
  rw [VRL_iff] at h ⊢
  refine ⟨by simp [h.1], fun i a v ha hv => ?_⟩
  rw [List.getElem?_take] at ha hv
  split at ha
  · rename_i hi; simp only [hi, if_true] at hv; exact h.2 i a v ha hv
  · simp at ha

theorem VRL.drop {D : Nat → Prop} {μ : MM} {l : List AV} {vs : List Value} (h : VRL D μ l vs) (k : Nat) : VRL D μ (l.drop k) (vs.drop k) := by
  rw [VRL_iff] at h ⊢
  refine ⟨by simp [h.1], fun i a v ha hv => ?_⟩
  rw [List.getElem?_drop] at ha hv
  exact h.2 _ a v ha hv

theorem VRL.set {D : Nat → Prop} {μ : MM} {l : List AV} {vs : List Value} (h : VRL D μ l vs) (k : Nat) {a : AV} {v : Value} (hv : VR D μ a v) : VRL D μ (l.set k a) (vs.set k v) := by
  rw [VRL_iff] at h ⊢
  refine ⟨by simp [h.1], fun i a' v' ha hv' => ?_⟩
  rw [List.getElem?_set] at ha hv'
  by_cases e : k = i
  · subst e
    simp only [if_true] at ha hv'
    split at ha
    · rename_i hk; rw [if_pos (by rw [h.1]; exact hk)] at hv'; simp at ha hv'; subst ha; subst hv'; exact hv
    · simp at ha
  · simp only [e, if_false] at ha hv'; exact h.2 i a' v' ha hv'

theorem VRL.over {D : Nat → Prop} {μ : MM} {l l' : List AV} {vs vs' : List Value} (h : VRL D μ l vs) (h' : VRL D μ l' vs') (j : Nat) : VRL D μ (over l j l') (over vs j vs') := by
  unfold AW.over
  rw [VRL.length h']
  exact ((h.take j).append h').append (h.drop _)

theorem VR_ck {D : Nat → Prop} {μ : MM} (c : CK) (m : Int) : VR D μ (ckv c m) (ckV c m) := by cases c <;> simp [ckv, ckV, VR]
theorem VRL_row {D : Nat → Prop} {μ : MM} : ∀ (ks : List CK) (l : List Int), VRL D μ (ckvs ks l) (rowV ks l)
  | [], _ => by simp [ckvs, rowV, VRL]
  | c :: cs, l => by simp only [ckvs, rowV, VRL]; exact ⟨_, _, rfl, VR_ck c _, VRL_row cs _⟩

/-- what fits in one cell is one cell -/
theorem VR.one {D : Nat → Prop} {μ : MM} {a : AV} {v : Value} (h : VR D μ a v) (ha : a.one = true) : v.oneCell' = true ∧ v.cells = #[v] := by
  cases a <;> (try (simp [AV.one] at ha; done)) <;> simp only [VR] at h
  case ptr => rw [h.2]; exact ⟨rfl, rfl⟩
  case sl => obtain ⟨_, cap, ad, h, _⟩ := h; rw [h]; exact ⟨rfl, rfl⟩
  case fn => obtain ⟨_, _, h, _⟩ := h; rw [h]; exact ⟨rfl, rfl⟩
  case iface => obtain ⟨_, h, _⟩ := h; rw [h]; exact ⟨rfl, rfl⟩
  case sl0 => obtain ⟨_, h⟩ := h; rw [h]; exact ⟨rfl, rfl⟩
  all_goals rw [h]; exact ⟨rfl, rfl⟩

theorem VRL.one {D : Nat → Prop} {μ : MM} {l : List AV} {vs : List Value} (h : VRL D μ l vs) (ha : l.all AV.one = true) : ∀ v ∈ vs, v.oneCell' = true := by
  intro v hv
  obtain ⟨i, hi⟩ := List.mem_iff_getElem?.1 hv
  have hi' : i < l.length := by rw [← VRL.length h]; exact (List.getElem?_eq_some_iff.1 hi).1
  obtain ⟨h1, h2⟩ := VRL_iff.1 h
  exact ((h2 i l[i] v (List.getElem?_eq_getElem hi') hi).one (List.all_eq_true.1 ha _ (List.getElem_mem hi'))).1

theorem cellsK_iff (v : AV) (k : List AV → Prop) : cellsK v k ↔ (∃ l, v = .agg l ∧ k l) ∨ (v.one = true ∧ k [v]) := by
  cases v <;> simp [cellsK, AV.one]

/-- a value's cells -/
theorem VR.cells {D : Nat → Prop} {μ : MM} {a : AV} {v : Value} (h : VR D μ a v) {l : List AV} (hl : a = .agg l ∨ (a.one = true ∧ l = [a])) : VRL D μ l v.cells.toList := by
  rcases hl with rfl | ⟨h1, rfl⟩
  · simp only [VR] at h
    obtain ⟨cs, rfl, h⟩ := h
    simpa [Value.cells] using h
  · rw [(h.one h1).2]
    simp only [VRL]
    exact ⟨v, [], rfl, h, rfl⟩

theorem length_rowV : ∀ (ks : List CK) (l : List Int), (rowV ks l).length = ks.length
  | [], _ => rfl
  | _ :: cs, l => by simp [rowV, length_rowV cs]
theorem length_ckvs : ∀ (ks : List CK) (l : List Int), (ckvs ks l).length = ks.length
  | [], _ => rfl
  | _ :: cs, l => by simp [ckvs, length_ckvs cs]

theorem length_flatV (ks : List CK) : ∀ l : List (List Int), (flatV ks l).length = l.length * ks.length
  | [] => by simp [flatV]
  | r :: l => by
    have := length_flatV ks l
    unfold flatV at this ⊢
    simp [length_rowV, this, Nat.succ_mul]; omega

theorem flatV_get (ks : List CK) : ∀ (l : List (List Int)) (i j : Nat), i < l.length → j < ks.length → (flatV ks l)[i * ks.length + j]? = (rowV ks (l.getD i []))[j]?
  | [], i, j, h, _ => by simp at h
  | r :: l, 0, j, _, hj => by
    simp only [flatV, List.map_cons, List.flatten_cons, Nat.zero_mul, Nat.zero_add]
    rw [List.getElem?_append_left (by rw [length_rowV]; exact hj)]
    simp
  | r :: l, i + 1, j, h, hj => by
    have ih := flatV_get ks l i j (by simpa using h) hj
    simp only [flatV, List.map_cons, List.flatten_cons] at ih ⊢
    rw [List.getElem?_append_right (by rw [length_rowV, Nat.succ_mul]; omega), length_rowV]
    have : (i + 1) * ks.length + j - ks.length = i * ks.length + j := by rw [Nat.succ_mul]; omega
    rw [this, ih]
    simp

end Go.AW

/- The engine, 3: the relation is kept by new blocks and by stores; what is asked of the table of types. -/
namespace Go.AW
open Go

theorem OR.mono {D D' : Nat → Prop} {μ μ' : MM} (hD : ∀ id, D id → D' id ∧ μ' id = μ id) {w : World} {m : MA} : ∀ {ob : Ob}, OR D μ w m ob → OR D' μ' w m ob
  | .dead, _ => by simp [OR]
  | .cells sz c, h => by
    simp only [OR] at h ⊢
    obtain ⟨h1, h2, cs, e, h3, h4⟩ := h
    exact ⟨h1, h2, cs, e, h3, VRL.mono hD h4⟩
  | .row true e ks l, h => by simpa only [OR] using h
  | .row false e ks l, h => by simpa only [OR] using h

theorem OR.block {D : Nat → Prop} {μ : MM} {w w' : World} {m : MA} {ob : Ob} (hb : ob ≠ .dead → w'.heap[m.blk]? = w.heap[m.blk]?) (h : OR D μ w m ob) : OR D μ w' m ob := by
  cases ob with
  | dead => simp [OR]
  | cells sz c =>
    simp only [OR] at h ⊢
    rw [hb (by simp)]; exact h
  | row own e ks l =>
    have hb' := hb (by simp)
    clear hb
    cases own with
    | true => simp only [OR] at h ⊢; rw [hb']; exact h
    | false =>
      simp only [OR] at h ⊢
      refine ⟨h.1, h.2.1, ?_, fun i j hi hj => ?_⟩
      · rw [hb']; exact h.2.2.1
      · rw [← h.2.2.2 i j hi hj]
        exact World.cell?_of_block (a := ⟨m.blk, m.off + (i * m.sz + j), none⟩) hb'

theorem OR.lt {D : Nat → Prop} {μ : MM} {w : World} {m : MA} {ob : Ob} (h : OR D μ w m ob) (hd : ob ≠ .dead) : m.blk < w.heap.size := by
  cases ob with
  | dead => exact absurd rfl hd
  | cells sz c =>
    simp only [OR] at h
    obtain ⟨_, _, cs, e, h, _⟩ := h
    exact (Array.getElem?_eq_some_iff.1 h).1
  | row own e ks l =>
    cases own with
    | true =>
      simp only [OR] at h
      obtain ⟨_, _, _, _, cs, h, _⟩ := h
      exact (Array.getElem?_eq_some_iff.1 h).1
    | false =>
      simp only [OR] at h
      obtain ⟨_, _, ⟨cs, e, fr, h⟩, _⟩ := h
      exact (Array.getElem?_eq_some_iff.1 h).1

theorem Rel.lt {μ : MM} {s : List Ob} {w : World} (h : Rel μ s w) {id : Nat} {ob : Ob} (ho : s[id]? = some ob) (hd : ob ≠ .dead) : (μ id).blk < w.heap.size := (h.ob id ob ho).lt hd

theorem RW.lt {μ : MM} {s : List Ob} {w : World} (h : Rel μ s w) {b : Nat} (hb : RW μ s b) : b < w.heap.size := by
  obtain ⟨id, o, h1, h2, rfl⟩ := hb
  exact h.lt h1 (by intro e; subst e; simp [Ob.own] at h2)

theorem RW.cells {μ : MM} {s : List Ob} {w : World} (h : Rel μ s w) {b : Nat} (hb : RW μ s b) : ∃ cs e fr, w.heap[b]? = some (.cells cs e fr) := by
  obtain ⟨id, o, h1, h2, rfl⟩ := hb
  have ho := h.ob id o h1
  cases o with
  | dead => simp [Ob.own] at h2
  | cells sz c =>
    simp only [OR] at ho
    obtain ⟨_, _, cs, e, h, _⟩ := ho
    exact ⟨_, _, _, h⟩
  | row own e ks l =>
    simp only [Ob.own] at h2
    subst h2
    simp only [OR] at ho
    obtain ⟨_, _, _, _, cs, h, _⟩ := ho
    exact ⟨_, _, _, h⟩

/-- the objects' blocks are as they were: so are they -/
theorem Rel.block {μ : MM} {s : List Ob} {w w' : World} (h : Rel μ s w) (hb : ∀ id ob, s[id]? = some ob → ob ≠ .dead → w'.heap[(μ id).blk]? = w.heap[(μ id).blk]?) : Rel μ s w' :=
  ⟨fun id o ho => (h.ob id o ho).block (hb id o ho), h.sep⟩

/-- one step: which objects there were are there still -/
structure Stp (id : Nat) (μ : MM) (s : List Ob) (w : World) (μ1 : MM) (s1 : List Ob) (w1 : World) : Prop where
  rel : Rel μ1 s1 w1
  keep : ∀ j, Live s j → Live s1 j ∧ μ1 j = μ j
  agree : ∀ j, j ≠ id → μ1 j = μ j
  dead : ∀ j, j ≠ id → s[j]? = some .dead → s1[j]? = some .dead
  len : s1.length = s.length
  fr : Fr (RW μ s) w w1
  rw : ∀ b, RW μ1 s1 b → RW μ s b ∨ w.heap.size ≤ b
  lv : ∀ b, LV μ1 s1 b → LV μ s b ∨ w.heap.size ≤ b

theorem Stp.refl {id : Nat} {μ : MM} {s : List Ob} {w : World} (h : Rel μ s w) : Stp id μ s w μ s w :=
  ⟨h, fun _ hj => ⟨hj, rfl⟩, fun _ _ => rfl, fun _ _ h => h, rfl, Fr.refl _ _, fun _ hb => .inl hb, fun _ hb => .inl hb⟩

theorem Fr.alloc (R : Nat → Prop) (w : World) (cs : Array Value) (e : TypeId) : Fr R w (w.alloc (.cells cs e (0, 0))) :=
  ⟨rfl, rfl, rfl, by simp, fun k hk _ => RowKit.Below.heap_alloc w _ k hk, fun a ha => by rw [← RowKit.frozen?_alloc_cells w cs e a]; exact ha⟩

theorem heap_alloc_self (w : World) (o : Obj) : (w.alloc o).heap[w.heap.size]? = some o := by
  show (w.heap.push o)[w.heap.size]? = _
  simp

def MM.set (μ : MM) (id : Nat) (m : MA) : MM := fun j => if j = id then m else μ j
theorem MM.set_same (μ : MM) (id : Nat) (m : MA) : (μ.set id m) id = m := by simp [MM.set]
theorem MM.set_other (μ : MM) {id j : Nat} (m : MA) (h : j ≠ id) : (μ.set id m) j = μ j := by simp [MM.set, h]

theorem live_set {s : List Ob} {id : Nat} {ob : Ob} (hd : ob ≠ .dead) {j : Nat} (h : Live s j) : Live (s.set id ob) j := by
  obtain ⟨o, ho, hn⟩ := h
  by_cases e : id = j
  · subst e
    exact ⟨ob, by rw [List.getElem?_set_self (List.getElem?_eq_some_iff.1 ho).1], hd⟩
  · exact ⟨o, by rw [List.getElem?_set_ne e]; exact ho, hn⟩

theorem not_live_dead {s : List Ob} {id : Nat} (h : s[id]? = some .dead) {j : Nat} (hj : Live s j) : j ≠ id := by
  rintro rfl
  obtain ⟨o, ho, hn⟩ := hj
  rw [h] at ho
  exact hn (Option.some.inj ho).symm

/-- a new object, over a placeholder -/
theorem Stp.new {id : Nat} {μ : MM} {s : List Ob} {w : World} (h : Rel μ s w) (hid : s[id]? = some .dead) {cs : Array Value} {e : TypeId} {m : MA} {ob : Ob} (hd : ob ≠ .dead)
    (hm : m.blk = w.heap.size)
    (ho : OR (Live (s.set id ob)) (μ.set id m) (w.alloc (.cells cs e (0, 0))) m ob) : Stp id μ s w (μ.set id m) (s.set id ob) (w.alloc (.cells cs e (0, 0))) := by
  have hlt : id < s.length := (List.getElem?_eq_some_iff.1 hid).1
  refine ⟨⟨fun j o hj => ?_, fun j j' o o' hj hj' hne hw hdd => ?_⟩, fun j hj => ⟨live_set hd hj, MM.set_other μ m (not_live_dead hid hj)⟩, fun j hj => MM.set_other μ m hj, fun j hj hd' => by rw [List.getElem?_set_ne (Ne.symm hj)]; exact hd', by simp, Fr.alloc _ _ _ _, fun b hb => ?_, fun b hb => ?_⟩
  · by_cases e' : id = j
    · subst e'
      rw [List.getElem?_set_self hlt] at hj
      obtain rfl := Option.some.inj hj
      rw [MM.set_same]; exact ho
    · rw [List.getElem?_set_ne e'] at hj
      rw [MM.set_other μ m (Ne.symm e')]
      refine ((h.ob j o hj).mono fun q hq => ⟨live_set hd hq, MM.set_other μ m (not_live_dead hid hq)⟩).block fun hdd => ?_
      exact RowKit.Below.heap_alloc w _ _ (h.lt hj hdd)
  · by_cases e1 : id = j
    · subst e1
      have e2 : id ≠ j' := hne
      rw [List.getElem?_set_ne e2] at hj'
      rw [MM.set_same, MM.set_other μ m (Ne.symm e2), hm]
      exact Nat.ne_of_gt (h.lt hj' hdd)
    · rw [List.getElem?_set_ne e1] at hj
      rw [MM.set_other μ m (Ne.symm e1)]
      have hjd : o ≠ .dead := by intro e; subst e; simp [Ob.own] at hw
      by_cases e2 : id = j'
      · subst e2
        rw [MM.set_same, hm]
        exact Nat.ne_of_lt (h.lt hj hjd)
      · rw [List.getElem?_set_ne e2] at hj'
        rw [MM.set_other μ m (Ne.symm e2)]
        exact h.sep j j' o o' hj hj' hne hw hdd
  · obtain ⟨j, o, hj, hw, rfl⟩ := hb
    by_cases e' : id = j
    · subst e'
      rw [MM.set_same, hm]; exact .inr (Nat.le_refl _)
    · rw [List.getElem?_set_ne e'] at hj
      rw [MM.set_other μ m (Ne.symm e')]
      exact .inl ⟨j, o, hj, hw, rfl⟩
  · obtain ⟨j, o, hj, hw, rfl⟩ := hb
    by_cases e' : id = j
    · subst e'
      rw [MM.set_same, hm]; exact .inr (Nat.le_refl _)
    · rw [List.getElem?_set_ne e'] at hj
      rw [MM.set_other μ m (Ne.symm e')]
      exact .inl ⟨j, o, hj, hw, rfl⟩

/-- an own object's block is another one now -/
theorem Stp.store {id i : Nat} {μ : MM} {s : List Ob} {w w1 : World} (h : Rel μ s w) {ob ob' : Ob} (hi : s[i]? = some ob) (hw : ob.own = true) (hw' : ob'.own = true)
    (hfr : Fr (fun b => b = (μ i).blk) w w1)
    (ho : OR (Live (s.set i ob')) μ w1 (μ i) ob') : Stp id μ s w μ (s.set i ob') w1 := by
  have hlt : i < s.length := (List.getElem?_eq_some_iff.1 hi).1
  have hd : ob ≠ .dead := by intro e; subst e; simp [Ob.own] at hw
  have hd' : ob' ≠ .dead := by intro e; subst e; simp [Ob.own] at hw'
  refine ⟨⟨fun j o hj => ?_, fun j j' o o' hj hj' hne hjw hdd => ?_⟩, fun j hj => ⟨live_set hd' hj, rfl⟩, fun _ _ => rfl, fun j hj hdj => by rw [List.getElem?_set_ne (by rintro rfl; rw [hi] at hdj; exact hd (Option.some.inj hdj))]; exact hdj, by simp, hfr.mono fun k _ hk => ⟨i, ob, hi, hw, hk.symm⟩, fun b hb => .inl ?_, fun b hb => .inl ?_⟩
  · by_cases e' : i = j
    · subst e'
      rw [List.getElem?_set_self hlt] at hj
      obtain rfl := Option.some.inj hj
      exact ho
    · rw [List.getElem?_set_ne e'] at hj
      refine ((h.ob j o hj).mono fun q hq => ⟨live_set hd' hq, rfl⟩).block fun hdd => ?_
      exact hfr.block _ (h.lt hj hdd) (fun e => h.sep i j ob o hi hj e' hw hdd e.symm)
  · by_cases e1 : i = j
    · subst e1
      rw [List.getElem?_set_ne hne] at hj'
      exact h.sep i j' ob o' hi hj' hne hw hdd
    · rw [List.getElem?_set_ne e1] at hj
      by_cases e2 : i = j'
      · subst e2
        exact h.sep j i o ob hj hi hne hjw hd
      · rw [List.getElem?_set_ne e2] at hj'
        exact h.sep j j' o o' hj hj' hne hjw hdd
  · obtain ⟨j, o, hj, hjw, rfl⟩ := hb
    by_cases e' : i = j
    · subst e'; exact ⟨i, ob, hi, hw, rfl⟩
    · rw [List.getElem?_set_ne e'] at hj; exact ⟨j, o, hj, hjw, rfl⟩
  · obtain ⟨j, o, hj, hjw, rfl⟩ := hb
    by_cases e' : i = j
    · subst e'; exact ⟨i, ob, hi, hd, rfl⟩
    · rw [List.getElem?_set_ne e'] at hj; exact ⟨j, o, hj, hjw, rfl⟩

/-! ### the table of types -/
def zokB : AV → Value → Bool
  | .int k n, .int k' n' => k == k' && n == n'
  | .bool b, .bool b' => b == b'
  | .str s, .string s' => s.size == 0 && s'.size == 0
  | .nilp, .pointer none => true
  | .nils, .slice none 0 0 => true
  | .nilf, .nilFunc => true
  | .nili, .nilIface => true
  | .junk, _ => true
  | _, _ => false

def zsokB : List AV → List Value → Bool
  | [], [] => true
  | a :: l, v :: vs => zokB a v && zsokB l vs
  | _, _ => false

theorem size_zero_eq {s : ByteArray} (h : s.size = 0) : s = ByteArray.empty := by
  cases s with | mk d => cases d with | mk l => cases l <;> first | rfl | simp [ByteArray.size] at h

theorem zok_VR {D : Nat → Prop} {μ : MM} {a : AV} {v : Value} (h : zokB a v = true) : VR D μ a v := by
  unfold zokB at h
  split at h
  all_goals first
    | (simp only [Bool.and_eq_true, beq_iff_eq] at h; simp only [VR]; rw [size_zero_eq h.1, size_zero_eq h.2]; done)
    | (simp_all [VR]; done)

theorem zsok_VRL {D : Nat → Prop} {μ : MM} : ∀ {l : List AV} {vs : List Value}, zsokB l vs = true → VRL D μ l vs
  | [], [], _ => by simp [VRL]
  | a :: l, v :: vs, h => by
    simp only [zsokB, Bool.and_eq_true] at h
    simp only [VRL]
    exact ⟨v, vs, rfl, zok_VR h.1, zsok_VRL h.2⟩
  | [], _ :: _, h => by simp [zsokB] at h
  | _ :: _, [], h => by simp [zsokB] at h

def ckzB : CK → Value → Bool
  | .ik k, .int k' n => k == k' && n == 0
  | .bl, .bool b => !b
  | _, _ => false
def ckzsB : List CK → List Value → Bool
  | [], [] => true
  | a :: l, v :: vs => ckzB a v && ckzsB l vs
  | _, _ => false

theorem ckzs_rowV : ∀ {ks : List CK} {vs : List Value}, ckzsB ks vs = true → vs = rowV ks (ks.map fun _ => 0)
  | [], [], _ => rfl
  | k :: ks, v :: vs, h => by
    simp only [ckzsB, Bool.and_eq_true] at h
    have := ckzs_rowV h.2
    simp only [rowV, List.map_cons, List.headD_cons, List.tail_cons, ← this]
    congr 1
    have h1 := h.1
    unfold ckzB at h1
    split at h1
    · simp at h1; obtain ⟨rfl, rfl⟩ := h1; rfl
    · simp at h1; subst h1; rfl
    · simp at h1
  | [], _ :: _, h => by simp [ckzsB] at h
  | _ :: _, [], h => by simp [ckzsB] at h

def kokB : TK → TypeDesc → Bool
  | .int k, .int k' => k == k'
  | .bool, .bool => true
  | .str, .string => true
  | .ptr e, .pointer e' => e == e'
  | .slice e, .slice e' => e == e'
  | .array n e, .array n' e' => n == n' && e == e'
  | .struct fs, .struct F => F.toList.map (fun f => (f.offset, f.type)) == fs
  | .iface, .interface _ => true
  | .func, .func .. => true
  | .other, .struct _ => false
  | .other, .array .. => false
  | .other, _ => true
  | _, _ => false

/-! ### '==' of structs and arrays of numbers and bools -/
def veq : List CK → List Value → List Value → Bool
  | .ik _ :: ks, .int _ a :: l, .int _ b :: r => a == b && veq ks l r
  | .bl :: ks, .bool a :: l, .bool b :: r => a == b && veq ks l r
  | _, _, _ => true

def FitC : List CK → List Value → Prop
  | [], cs => cs = []
  | .ik k :: ks, cs => ∃ n r, cs = .int k n :: r ∧ FitC ks r
  | .bl :: ks, cs => ∃ b r, cs = .bool b :: r ∧ FitC ks r

theorem FitC.length : ∀ {ks : List CK} {cs : List Value}, FitC ks cs → cs.length = ks.length
  | [], cs, h => by rw [show cs = [] from h]; rfl
  | .ik k :: ks, cs, h => by obtain ⟨n, r, rfl, h⟩ := h; simp [FitC.length h]
  | .bl :: ks, cs, h => by obtain ⟨n, r, rfl, h⟩ := h; simp [FitC.length h]

theorem FitC.parts : ∀ {a b : List CK} {cs : List Value}, FitC (a ++ b) cs → FitC a (cs.take a.length) ∧ FitC b (cs.drop a.length)
  | [], b, cs, h => ⟨by simp [FitC], by simpa using h⟩
  | .ik k :: a, b, cs, h => by
    obtain ⟨n, r, rfl, h⟩ := h
    have := FitC.parts h
    exact ⟨⟨n, _, rfl, this.1⟩, this.2⟩
  | .bl :: a, b, cs, h => by
    obtain ⟨n, r, rfl, h⟩ := h
    have := FitC.parts h
    exact ⟨⟨n, _, rfl, this.1⟩, this.2⟩

theorem veq_append : ∀ {a b : List CK} {cs cs' : List Value}, FitC (a ++ b) cs → FitC (a ++ b) cs' → veq (a ++ b) cs cs' = (veq a (cs.take a.length) (cs'.take a.length) && veq b (cs.drop a.length) (cs'.drop a.length))
  | [], b, cs, cs', h, h' => by simp [veq]
  | .ik k :: a, b, cs, cs', h, h' => by
    obtain ⟨n, r, rfl, h⟩ := h
    obtain ⟨n', r', rfl, h'⟩ := h'
    simp only [List.cons_append, veq, List.length_cons, List.take_succ_cons, List.drop_succ_cons, Bool.and_assoc]
    rw [veq_append h h']
  | .bl :: a, b, cs, cs', h, h' => by
    obtain ⟨n, r, rfl, h⟩ := h
    obtain ⟨n', r', rfl, h'⟩ := h'
    simp only [List.cons_append, veq, List.length_cons, List.take_succ_cons, List.drop_succ_cons, Bool.and_assoc]
    rw [veq_append h h']

def catF (P : Program) (g : TypeId → Option (List CK)) : Nat → List Field → Option (List CK)
  | _, [] => some []
  | off, f :: fs => match g f.type with
    | some l => if f.name ≠ "_" ∧ f.offset = off ∧ l.length = P.cellsOf f.type ∧ (P.info? f.type).isSome = true then (catF P g (off + l.length) fs).map (l ++ ·) else none
    | none => none

def flatK (P : Program) : Nat → TypeId → Option (List CK)
  | 0, _ => none
  | n + 1, t => match P.underlying t with
    | some .bool => some [.bl]
    | some (.int k) => some [.ik k]
    | some (.struct fs) => if P.stoodInHeld t = false then catF P (flatK P n) 0 fs.toList else none
    | some (.array m e) => match flatK P n e with
      | some l => if l.length = P.cellsOf e ∧ (P.info? e).isSome = true then some (List.replicate m l).flatten else none
      | none => none
    | _ => none

def wrapV (P : Program) (t : TypeId) (cs : List Value) : Value := match P.underlying t with
  | some (.struct _) | some (.array _ _) => .agg cs.toArray
  | _ => cs.headD undef

section
variable {P : Program} {w : World}

theorem run_part_wrap {n : Nat} {e : TypeId} {ks : List CK} (hk : flatK P n e = some ks) (hl : ks.length = P.cellsOf e) (hi : (P.info? e).isSome = true) {xs : Array Value} {off : Nat} {cs : List Value}
    (hcs : (xs.toList.drop off).take ks.length = cs) (hf : FitC ks cs) : (part e xs off).run P w = .ok (wrapV P e cs) w := by
  obtain ⟨i, hi⟩ := Option.isSome_iff_exists.1 hi
  have hsz : (sizeOf e).run P w = .ok ks.length w := by
    have : P.cellsOf e = i.size := by simp [Program.cellsOf, hi]
    simp [sizeOf, typeInfo, hi, hl, this]
  cases n with
  | zero => simp [flatK] at hk
  | succ n =>
    cases hu : P.underlying e with
    | none => simp [flatK, hu] at hk
    | some d =>
      have hag : (isAgg e).run P w = .ok d.isRow w := by
        unfold isAgg
        rw [Sem.run_bind, run_underlying hu w]
        cases d <;> simp [TypeDesc.isRow]
      have scalar : d.isRow = false → ∀ c, cs = [c] → ks.length = 1 → (part e xs off).run P w = .ok c w := by
        intro hd c hc h1
        have : xs[off]? = some c := by
          have h2 := congrArg (·[0]?) (hcs.trans hc)
          simpa [h1, List.getElem?_take, List.getElem?_drop] using h2
        simp [part, hag, hd, this]
      have row : d.isRow = true → (part e xs off).run P w = .ok (.agg cs.toArray) w := by
        intro hd
        rw [← hcs]
        obtain ⟨xl⟩ := xs
        simp [part, hag, hd, hsz, List.extract_toArray, List.take_drop]
      unfold wrapV
      rw [hu]
      cases d with
      | bool =>
        simp only [flatK, hu, Option.some.injEq] at hk
        subst hk
        obtain ⟨b, r, rfl, hr⟩ := hf
        obtain rfl : r = [] := hr
        exact scalar rfl _ rfl rfl
      | int k =>
        simp only [flatK, hu, Option.some.injEq] at hk
        subst hk
        obtain ⟨b, r, rfl, hr⟩ := hf
        obtain rfl : r = [] := hr
        exact scalar rfl _ rfl rfl
      | struct fs => exact row rfl
      | array m e' => exact row rfl
      | _ => simp [flatK, hu] at hk

def EqF (P : Program) (d : Nat) (t : TypeId) (ks : List CK) : Prop :=
  ∀ (w : World) (cs cs' : List Value), FitC ks cs → FitC ks cs' → (Op.equalIn d t (wrapV P t cs) (wrapV P t cs')).run P w = .ok (veq ks cs cs') w

theorem eqFields_flat (n d : Nat) (ih : ∀ t ks, flatK P n t = some ks → EqF P d t ks) (xs ys : Array Value) : ∀ (fs : List Field) (off : Nat) (ks : List CK), catF P (flatK P n) off fs = some ks →
    FitC ks (xs.toList.drop off) → FitC ks (ys.toList.drop off) → (Op.eqFields d xs ys fs).run P w = .ok (veq ks (xs.toList.drop off) (ys.toList.drop off)) w
  | [], off, ks, h, _, _ => by
    simp only [catF, Option.some.injEq] at h
    subst h
    simp [Op.eqFields, veq]
  | f :: fs, off, ks, h, hx, hy => by
    simp only [catF] at h
    split at h
    case h_2 => cases h
    case h_1 l hl =>
      split at h
      case isFalse => cases h
      case isTrue hc =>
        obtain ⟨hn, rfl, hlen, hi⟩ := hc
        simp only [Option.map_eq_some_iff] at h
        obtain ⟨l2, h2, rfl⟩ := h
        obtain ⟨x1, x2⟩ := hx.parts
        obtain ⟨y1, y2⟩ := hy.parts
        rw [List.drop_drop] at x2 y2
        have p1 := run_part_wrap (w := w) hl hlen hi (xs := xs) rfl x1
        have p2 := run_part_wrap (w := w) hl hlen hi (xs := ys) rfl y1
        have p3 := ih f.type l hl w _ _ x1 y1
        have p4 := eqFields_flat n d ih xs ys fs (f.offset + l.length) l2 h2 x2 y2
        rw [veq_append hx hy, List.drop_drop, List.drop_drop]
        simp only [Op.eqFields, hn, ne_eq, not_false_eq_true, if_true, Sem.run_bind, p1, p2, p3, Result.andThen_ok]
        cases hq : veq l ((xs.toList.drop f.offset).take l.length) ((ys.toList.drop f.offset).take l.length)
        · simp
        · simpa using p4

theorem eqItems_flat (d : Nat) {n : Nat} {e : TypeId} {l : List CK} (hl : flatK P n e = some l) (hlen : l.length = P.cellsOf e) (hi : (P.info? e).isSome = true) (ih : EqF P d e l) (xs ys : Array Value) : ∀ (m j : Nat),
    FitC (List.replicate m l).flatten (xs.toList.drop (j * l.length)) → FitC (List.replicate m l).flatten (ys.toList.drop (j * l.length)) →
    (Op.eqItems d e (P.cellsOf e) xs ys (List.range' j m)).run P w = .ok (veq (List.replicate m l).flatten (xs.toList.drop (j * l.length)) (ys.toList.drop (j * l.length))) w
  | 0, j, _, _ => by simp [Op.eqItems, veq]
  | m + 1, j, hx, hy => by
    rw [List.replicate_succ, List.flatten_cons] at hx hy ⊢
    obtain ⟨x1, x2⟩ := hx.parts
    obtain ⟨y1, y2⟩ := hy.parts
    rw [List.drop_drop, show j * l.length + l.length = (j + 1) * l.length by rw [Nat.add_mul, Nat.one_mul]] at x2 y2
    have p1 := run_part_wrap (w := w) hl hlen hi (xs := xs) rfl x1
    have p2 := run_part_wrap (w := w) hl hlen hi (xs := ys) rfl y1
    have p3 := ih w _ _ x1 y1
    have p4 := eqItems_flat d hl hlen hi ih xs ys m (j + 1) x2 y2
    rw [veq_append hx hy, List.drop_drop, List.drop_drop, show j * l.length + l.length = (j + 1) * l.length by rw [Nat.add_mul, Nat.one_mul]]
    rw [List.range'_succ]
    rw [← hlen] at p4 ⊢
    simp only [Op.eqItems, Sem.run_bind, p1, p2, p3, Result.andThen_ok]
    cases hq : veq l ((xs.toList.drop (j * l.length)).take l.length) ((ys.toList.drop (j * l.length)).take l.length)
    · simp
    · simpa using p4

theorem equalIn_flat : ∀ (n : Nat) (t : TypeId) (ks : List CK), flatK P n t = some ks → ∀ d, n ≤ d → EqF P d t ks
  | 0, t, ks, h, _, _ => by simp [flatK] at h
  | n + 1, t, ks, h, d + 1, hd => by
    intro w cs cs' hc hc'
    cases hu : P.underlying t with
    | none => simp [flatK, hu] at h
    | some de =>
      unfold wrapV
      rw [hu]
      cases de with
      | bool =>
        simp only [flatK, hu, Option.some.injEq] at h
        subst h
        obtain ⟨b, r, rfl, hr⟩ := hc
        obtain ⟨b', r', rfl, hr'⟩ := hc'
        simp [Op.equalIn, run_underlying hu, veq]
      | int k =>
        simp only [flatK, hu, Option.some.injEq] at h
        subst h
        obtain ⟨b, r, rfl, hr⟩ := hc
        obtain ⟨b', r', rfl, hr'⟩ := hc'
        simp [Op.equalIn, run_underlying hu, veq]
      | struct fs =>
        simp only [flatK, hu] at h
        split at h
        case isFalse => cases h
        case isTrue hst =>
          have hfs : P.fieldsOf t = fs := by simp [Program.fieldsOf, hu]
          have := eqFields_flat (w := w) n d (fun t' ks' h' => equalIn_flat n t' ks' h' d (by omega)) cs.toArray cs'.toArray fs.toList 0 ks h (by simpa using hc) (by simpa using hc')
          rw [run_equalIn_struct w d t _ _ (by rw [hfs]; exact hu) hst, hfs]
          simpa using this
      | array m e =>
        simp only [flatK, hu] at h
        split at h
        case h_2 => cases h
        case h_1 l hl =>
          split at h
          case isFalse => cases h
          case isTrue hcc =>
            simp only [Option.some.injEq] at h
            subst h
            obtain ⟨i, hi⟩ := Option.isSome_iff_exists.1 hcc.2
            have := eqItems_flat (w := w) d hl hcc.1 hcc.2 (equalIn_flat n e l hl d (by omega)) cs.toArray cs'.toArray m 0 (by simpa using hc) (by simpa using hc')
            rw [run_equalIn_array w d _ _ hu hi, List.range_eq_range']
            simpa using this
      | _ => simp [flatK, hu] at h

/-- may '==' of a type be reckoned cell by cell? -/
def eqB (P : Program) (t : TypeId) (ks : List CK) : Bool := decide (flatK P 12 t = some ks) && !P.eqGuardType P.depth t && (match P.underlying t with | some (.struct _) | some (.array _ _) => true | _ => false)
end

def tiokB (P : Program) (t : Nat) (ti : TI) : Bool :=
  match P.info? t, P.underlying t with
  | some info, some d => info.size == ti.size && info.bytes == ti.bytes && kokB ti.k d && (match ti.k with | .struct fs => fs.all (fun f => (P.info? f.2).isSome) | .array _ e => (P.info? e).isSome | .slice e => (P.info? e).isSome | _ => true) &&
      (match info.zero with
       | some z => (ti.z.length != ti.size || zsokB ti.z z.cells.toList) && (match ti.ks with | some ks => ks.length == ti.size && ckzsB ks z.cells.toList | none => true) &&
          (match ti.big with | some (e, n, ks) => (match d with | .array n' e' => n' == n && e' == e | _ => false) && decide (n ≤ 16777216) && (P.info? e).any (fun ie => ie.size == ks.length) && ti.size == n * ks.length && ti.z.length != ti.size && ckzsB (List.replicate n ks).flatten z.cells.toList | none => true)
       | none => ti.z.length != ti.size && ti.ks.isNone && ti.big.isNone) && (match ti.eq with | some ks => eqB P t ks | none => true)
  | _, _ => false

structure TIok (P : Program) (t : Nat) (ti : TI) (info : TypeInfo) (d : TypeDesc) : Prop where
  inf : P.info? t = some info
  und : P.underlying t = some d
  size : info.size = ti.size
  bytes : info.bytes = ti.bytes
  kok : kokB ti.k d = true
  parts : (match ti.k with | .struct fs => fs.all (fun f => (P.info? f.2).isSome) | .array _ e => (P.info? e).isSome | .slice e => (P.info? e).isSome | _ => true) = true
  z : ti.z.length = ti.size → ∃ z, info.zero = some z ∧ zsokB ti.z z.cells.toList = true
  ks : ∀ ks, ti.ks = some ks → ks.length = ti.size ∧ ∃ z, info.zero = some z ∧ z.cells.toList = rowV ks (ks.map fun _ => 0)
  big : ∀ e n ks, ti.big = some (e, n, ks) → d = .array n e ∧ n ≤ 16777216 ∧ ti.size = n * ks.length ∧ ti.z.length ≠ ti.size ∧ ∃ z, info.zero = some z ∧ z.cells.toList = flatV ks (List.replicate n (ks.map fun _ => 0)) ∧ ∃ ie, P.info? e = some ie ∧ ie.size = ks.length
  eqv : ∀ ks, ti.eq = some ks → eqB P t ks = true

theorem rowV_replicate (ks : List CK) : ∀ n : Nat, rowV (List.replicate n ks).flatten ((List.replicate n ks).flatten.map fun _ => (0 : Int)) = flatV ks (List.replicate n (ks.map fun _ => 0)) := by
  have app : ∀ a b : List CK, rowV (a ++ b) ((a ++ b).map fun _ => (0 : Int)) = rowV a (a.map fun _ => 0) ++ rowV b (b.map fun _ => 0) := by
    intro a b
    induction a with
    | nil => simp [rowV]
    | cons x a ih => simp only [List.cons_append, List.map_cons, rowV, List.headD_cons, List.tail_cons, ih]
  intro n
  induction n with
  | zero => simp [flatV, rowV]
  | succ n ih =>
    simp only [List.replicate_succ, List.flatten_cons, app, ih]
    simp [flatV]

theorem tiok_of {P : Program} {t : Nat} {ti : TI} (h : tiokB P t ti = true) : ∃ info d, TIok P t ti info d := by
  unfold tiokB at h
  cases hi : P.info? t with
  | none => simp [hi] at h
  | some info =>
    cases hu : P.underlying t with
    | none => simp [hi, hu] at h
    | some d =>
      simp only [hi, hu, Bool.and_eq_true, beq_iff_eq] at h
      obtain ⟨⟨⟨⟨⟨h1, h2⟩, h3⟩, hp⟩, h4⟩, heq⟩ := h
      refine ⟨info, d, hi, hu, h1, h2, h3, hp, fun hz => ?_, fun ks hk => ?_, fun e n ks hb => ?_, fun ks hk => by rw [hk] at heq; exact heq⟩
      · cases hzz : info.zero with
        | none => simp [hzz, hz] at h4
        | some z =>
          simp only [hzz, Bool.and_eq_true] at h4
          refine ⟨z, rfl, ?_⟩
          have := h4.1.1
          simpa [hz] using this
      · cases hzz : info.zero with
        | none => simp [hzz, hk] at h4
        | some z =>
          simp only [hzz, hk, Bool.and_eq_true, beq_iff_eq] at h4
          exact ⟨h4.1.2.1, z, rfl, ckzs_rowV h4.1.2.2⟩
      · cases hzz : info.zero with
        | none => simp [hzz, hb] at h4
        | some z =>
          simp only [hzz, hb, Bool.and_eq_true, beq_iff_eq] at h4
          obtain ⟨_, ⟨⟨⟨⟨h5, h9⟩, h10⟩, h6⟩, h7⟩, h8⟩ := h4
          refine ⟨?_, by simpa using h9, h6, by simpa using h7, z, rfl, ?_, ?_⟩
          · cases d <;> simp at h5
            rw [h5.1, h5.2]
          · rw [ckzs_rowV h8, rowV_replicate]
          · cases hie : P.info? e with
            | none => simp [hie] at h10
            | some ie => simp [hie] at h10; exact ⟨ie, rfl, h10⟩

def TOk (P : Program) (T : TT) : Prop := ∀ t ti, T.at t = some ti → ∃ info d, TIok P t ti info d

def ttokB (P : Program) (T : TT) : Bool := T.zipIdx.all fun x => x.1.zipIdx.all fun y => decide (y.2 < 16) && tiokB P (16 * x.2 + y.2) y.1

theorem tok_of {P : Program} {T : TT} (h : ttokB P T = true) : TOk P T := by
  intro t ti ht
  unfold TT.at at ht
  cases hl : T[t / 16]? with
  | none => simp [hl] at ht
  | some l =>
    simp [hl] at ht
    unfold ttokB at h
    have h1 := List.all_eq_true.1 h (l, t / 16) (by
      rw [List.mem_zipIdx_iff_getElem?]; simpa using hl)
    have h2 := List.all_eq_true.1 h1 (ti, t % 16) (by
      rw [List.mem_zipIdx_iff_getElem?]; simpa using ht)
    simp only [Bool.and_eq_true, decide_eq_true_eq] at h2
    have e : 16 * (t / 16) + t % 16 = t := by omega
    rw [e] at h2
    exact tiok_of h2.2

/-- aggregates are those of the model -/
theorem TIok.isAgg {P : Program} {t : Nat} {ti : TI} {info : TypeInfo} {d : TypeDesc} (h : TIok P t ti info d) : ti.k.isAgg = d.isRow := by
  have := h.kok
  cases hk : ti.k <;> cases d <;> simp [hk, kokB, TK.isAgg, TypeDesc.isRow] at this ⊢

end Go.AW

/- The engine, 4: each operation does in the world what it does in the abstract state. -/
namespace Go.AW
open Go

def effApply (e : Eff) (s : List Ob) : List Ob :=
  match e with
  | .none => s
  | .set i ob => s.set i ob

theorem effK_iff (s : List Ob) (e : Eff) (k : List Ob → Prop) : effK s e k ↔ k (effApply e s) := by
  cases e <;> simp [effK, effApply, setK_iff]

def putL (t : List AV) (dst : Option Tmp) (v : AV) : List AV :=
  match dst with
  | some d => t.set d v
  | none => t

theorem putK_iff (t : List AV) (dst : Option Tmp) (v : AV) (k : List AV → Prop) : putK t dst v k ↔ k (putL t dst v) := by
  cases dst <;> simp [putK, putL, setK_iff]

section
variable {P : Program} {T : TT} {D : Nat → Prop} {μ : MM} {t : List AV} {a : Act}

theorem constK_sound {v : Value} {k : AV → Prop} (h : constK v k) : ∃ x, k x ∧ VR D μ x v := by
  unfold constK at h
  split at h
  all_goals first
    | exact h.elim
    | exact ⟨_, h, by simp [VR]⟩

theorem evK_sound (ht : VRL D μ t a.tmps.toList) {x : Operand} {k : AV → Prop} (h : evK t x k) : ∃ v, k v ∧ VR D μ v (a.eval x) := by
  cases x with
  | tmp i =>
    simp only [evK, nthK_iff] at h
    obtain ⟨v, hv, hk⟩ := h
    obtain ⟨u, hu, hr⟩ := ht.get hv
    refine ⟨v, hk, ?_⟩
    have : a.tmps[i]? = some u := by simpa using hu
    simp [Act.eval, this]
    exact hr
  | const v => exact constK_sound h
  | global g => exact h.elim
  | func f => exact ⟨_, h, by simp [VR, VRL, Act.eval]⟩

theorem evsK_sound (ht : VRL D μ t a.tmps.toList) : ∀ {xs : List Operand} {k : List AV → Prop}, evsK t xs k → ∃ l, k l ∧ VRL D μ l (xs.map a.eval)
  | [], k, h => ⟨[], h, by simp [VRL]⟩
  | x :: xs, k, h => by
    simp only [evsK] at h
    obtain ⟨v, h, hv⟩ := evK_sound ht h
    obtain ⟨l, h, hl⟩ := evsK_sound ht h
    exact ⟨v :: l, h, by simp only [List.map_cons, VRL]; exact ⟨_, _, rfl, hv, hl⟩⟩

theorem ptrK_sound {v : AV} {c : Value} (hv : VR D μ v c) {k : Nat → Nat → Nat → Prop} (h : ptrK v k) :
    ∃ i r j, v = .ptr i r j ∧ k i r j ∧ D i ∧ c = .pointer (some ⟨(μ i).blk, (μ i).off + (r * (μ i).sz + j), none⟩) := by
  cases v <;> simp only [ptrK] at h
  case ptr i r j =>
    simp only [VR] at hv
    exact ⟨i, r, j, rfl, h, hv.1, hv.2⟩

theorem intK_sound {v : AV} {c : Value} (hv : VR D μ v c) {k : Int → Prop} (h : intK v k) : ∃ q n, v = .int q n ∧ k n ∧ c = .int q n := by
  cases v <;> simp only [intK] at h
  case int q n =>
    simp only [VR] at hv
    exact ⟨q, n, rfl, h, hv⟩

theorem boolK_sound {v : AV} {c : Value} (hv : VR D μ v c) {k : Bool → Prop} (h : boolK v k) : ∃ b, v = .bool b ∧ k b ∧ c = .bool b := by
  cases v <;> simp only [boolK] at h
  case bool b =>
    simp only [VR] at hv
    exact ⟨b, rfl, h, hv⟩
end

/-- the operation runs, and what it leaves is what the abstract one leaves -/
def OpOK (P : Program) (o : Oper) (a : Act) (id : Nat) (μ : MM) (s : List Ob) (w : World) (v : AV) (eff : Eff) : Prop :=
  ∃ cv w1 μ1, ((execOp a.eval o).run P w = .ok (.value cv) w1 ∨ ((execOp a.eval o).run P w = .ok .skip w1 ∧ cv = undef)) ∧
    VR (Live (effApply eff s)) μ1 v cv ∧ Stp id μ s w μ1 (effApply eff s) w1

section
variable {P : Program} {T : TT} {μ : MM} {s : List Ob} {w : World} {t : List AV} {a : Act} {id : Nat} {o : Oper}

/-- an operation that leaves the world -/
theorem OpOK.pure (hr : Rel μ s w) {v : AV} {cv : Value} (h : (execOp a.eval o).run P w = .ok (.value cv) w) (hv : VR (Live s) μ v cv) : OpOK P o a id μ s w v .none :=
  ⟨cv, w, μ, .inl h, hv, Stp.refl hr⟩

abbrev Out (P : Program) (o : Oper) (a : Act) (id : Nat) (μ : MM) (s : List Ob) (w : World) (k : AV → Eff → FP → Prop) : Prop := ∃ v eff fp, k v eff fp ∧ OpOK P o a id μ s w v eff

variable {k : AV → Eff → FP → Prop}

theorem aval_move (hr : Rel μ s w) (ht : VRL (Live s) μ t a.tmps.toList) {x : Operand} (ho : o.op = .move x ∨ o.op = .assign x) (h : evK t x fun v => k v .none none) : Out P o a id μ s w k := by
  obtain ⟨v, h, hv⟩ := evK_sound ht h
  refine ⟨v, _, _, h, OpOK.pure hr ?_ hv⟩
  rcases ho with ho | ho <;> simp [execOp, ho]

theorem aval_pick (hr : Rel μ s w) (ht : VRL (Live s) μ t a.tmps.toList) {c x y : Operand} (ho : o.op = .pick c x y)
    (h : evK t c fun cv => boolK cv fun b' => cond b' (evK t x fun v => k v .none none) (evK t y fun v => k v .none none)) : Out P o a id μ s w k := by
  obtain ⟨cv, h, hv⟩ := evK_sound ht h
  obtain ⟨b, rfl, h, hc⟩ := boolK_sound hv h
  cases b
  all_goals
    obtain ⟨v, h, hv⟩ := evK_sound ht h
    exact ⟨v, _, _, h, OpOK.pure hr (by simp [execOp, ho, hc, asBool]) hv⟩

theorem aval_nilCheck (hr : Rel μ s w) (ht : VRL (Live s) μ t a.tmps.toList) {x : Operand} (ho : o.op = .nilCheck x)
    (h : evK t x fun v => match v with
      | .ptr .. => k v .none none
      | _ => False) : Out P o a id μ s w k := by
  obtain ⟨v, h, hv⟩ := evK_sound ht h
  cases v <;> try exact h.elim
  case ptr i r j =>
    refine ⟨_, _, _, h, OpOK.pure hr ?_ hv⟩
    simp only [VR] at hv
    simp [execOp, ho, hv.2]

theorem run_bits_and (w : World) (kd : IntKind) (x y : Int) : (Op.intBits .and kd x y).run P w = .ok (.int kd (kd.wrap (BitVec.ofInt kd.bits x &&& BitVec.ofInt kd.bits y).toNat)) w := by simp [Op.intBits]
theorem run_bits_or (w : World) (kd : IntKind) (x y : Int) : (Op.intBits .or kd x y).run P w = .ok (.int kd (kd.wrap (BitVec.ofInt kd.bits x ||| BitVec.ofInt kd.bits y).toNat)) w := by simp [Op.intBits]
theorem run_bits_xor (w : World) (kd : IntKind) (x y : Int) : (Op.intBits .xor kd x y).run P w = .ok (.int kd (kd.wrap (BitVec.ofInt kd.bits x ^^^ BitVec.ofInt kd.bits y).toNat)) w := by simp [Op.intBits]
theorem run_bits_andNot (w : World) (kd : IntKind) (x y : Int) : (Op.intBits .andNot kd x y).run P w = .ok (.int kd (kd.wrap (BitVec.ofInt kd.bits x &&& ~~~ BitVec.ofInt kd.bits y).toNat)) w := by simp [Op.intBits]

theorem aBin_sound {op : BinOp} {v u : AV} {c d : Value} (hv : VR (Live s) μ v c) (hu : VR (Live s) μ u d) {K : AV → Prop} (h : aBin op v u K) :
    ∃ r cr, K r ∧ VR (Live s) μ r cr ∧ ∀ ty, (binOp op ty c d).run P w = .ok cr w := by
  cases v <;> simp only [aBin] at h
  cases u <;> simp only at h
  case int.int ka x kb y =>
    simp only [VR] at hv hu
    subst hv hu
    cases op <;> simp only [andK_iff, decide_eq_true_eq, Bool.not_eq_true', decide_eq_false_iff_not] at h
    case shl => exact ⟨_, _, h.2, by simp only [VR]; rfl, fun ty => by simp [binOp, Op.shift, Int.not_lt.2 h.1]⟩
    case shr => exact ⟨_, _, h.2, by simp only [VR]; rfl, fun ty => by simp [binOp, Op.shift, Int.not_lt.2 h.1]⟩
    all_goals obtain ⟨rfl, h⟩ := h
    case quo => exact ⟨_, _, h.2, by simp only [VR]; rfl, fun ty => by simp [binOp, Op.intDiv, h.1]⟩
    case rem => exact ⟨_, _, h.2, by simp only [VR]; rfl, fun ty => by simp [binOp, Op.intDiv, h.1]⟩
    case and => exact ⟨_, _, h, by simp only [VR]; rfl, fun ty => by simp only [binOp, ne_eq, not_true_eq_false, if_false]; exact run_bits_and w ka x y⟩
    case or => exact ⟨_, _, h, by simp only [VR]; rfl, fun ty => by simp only [binOp, ne_eq, not_true_eq_false, if_false]; exact run_bits_or w ka x y⟩
    case xor => exact ⟨_, _, h, by simp only [VR]; rfl, fun ty => by simp only [binOp, ne_eq, not_true_eq_false, if_false]; exact run_bits_xor w ka x y⟩
    case andNot => exact ⟨_, _, h, by simp only [VR]; rfl, fun ty => by simp only [binOp, ne_eq, not_true_eq_false, if_false]; exact run_bits_andNot w ka x y⟩
    all_goals exact ⟨_, _, h, by simp only [VR]; rfl, fun ty => by simp [binOp, Op.intArith, Op.intCmp]⟩

theorem aUn_sound {op : UnOp} {v : AV} {c : Value} (hv : VR (Live s) μ v c) {K : AV → Prop} (h : aUn op v K) :
    ∃ r cr, K r ∧ VR (Live s) μ r cr ∧ (Op.unary op c).run P w = .ok cr w := by
  cases v <;> simp only [aUn] at h
  case bool b =>
    simp only [VR] at hv
    subst hv
    cases op <;> simp only at h
    exact ⟨_, _, h, by simp only [VR]; rfl, by simp [Op.unary]⟩
  case int kd x =>
    simp only [VR] at hv
    subst hv
    cases op <;> simp only at h
    · exact ⟨_, _, h, by simp only [VR]; rfl, by simp [Op.unary, Op.intArith, Z.neg]⟩
    · exact ⟨_, _, h, by simp only [VR]; rfl, by simp [Op.unary, Op.intBits, Z.not]⟩

theorem aval_unOp (hr : Rel μ s w) (ht : VRL (Live s) μ t a.tmps.toList) {op : UnOp} {ty : TypeId} {x : Operand} (ho : o.op = .unOp op ty x)
    (h : evK t x fun v => aUn op v fun r => k r .none none) : Out P o a id μ s w k := by
  obtain ⟨v, h, hv⟩ := evK_sound ht h
  obtain ⟨r, cr, h, hr', hrun⟩ := aUn_sound (P := P) (w := w) hv h
  exact ⟨r, _, _, h, OpOK.pure hr (by simp [execOp, ho, hrun]) hr'⟩

theorem equal_open (ty : TypeId) (c e : Value) : Op.equal ty c e = Op.equalIn (9999 + 1) ty c e := rfl

theorem run_equal_bool {ty : TypeId} (hu : P.underlying ty = some .bool) (x y : Bool) : (Op.equal ty (.bool x) (.bool y)).run P w = .ok (x == y) w := by
  rw [equal_open, Op.equalIn, Sem.run_bind, run_underlying hu]; simp
theorem run_equal_nil_ptr {ty e : TypeId} (hu : P.underlying ty = some (.pointer e)) (x : Option Addr) : (Op.equal ty (.pointer none) (.pointer x)).run P w = .ok x.isNone w := by
  rw [equal_open, Op.equalIn, Sem.run_bind, run_underlying hu]; simp
theorem run_equal_ptr_nil {ty e : TypeId} (hu : P.underlying ty = some (.pointer e)) (x : Addr) : (Op.equal ty (.pointer (some x)) (.pointer none)).run P w = .ok false w := by
  rw [equal_open, Op.equalIn, Sem.run_bind, run_underlying hu]; simp
theorem run_equal_nil_sl {ty e : TypeId} (hu : P.underlying ty = some (.slice e)) (x : Option Addr) (n c : Nat) : (Op.equal ty (.slice none 0 0) (.slice x n c)).run P w = .ok x.isNone w := by
  rw [equal_open, Op.equalIn, Sem.run_bind, run_underlying hu]; simp
theorem run_equal_sl_nil {ty e : TypeId} (hu : P.underlying ty = some (.slice e)) (x : Addr) (n c : Nat) : (Op.equal ty (.slice (some x) n c) (.slice none 0 0)).run P w = .ok false w := by
  rw [equal_open, Op.equalIn, Sem.run_bind, run_underlying hu]; simp

/-- what '==' and '!=' make of what Op.equal says -/
theorem eq_ops {ty : TypeId} {c e : Value} {r : Bool} (hr : (Op.equal ty c e).run P w = .ok r w)
    (hc : (∃ b, c = .bool b) ∨ (∃ x, c = .pointer x) ∨ ∃ x n m, c = .slice x n m) :
    (∀ op x y, (eqGuard op ty x y c e).run P w = .ok () w) ∧ (binOp .eql ty c e).run P w = .ok (.bool r) w ∧ (binOp .neq ty c e).run P w = .ok (.bool !r) w := by
  rcases hc with ⟨b, rfl⟩ | ⟨x, rfl⟩ | ⟨x, n, m, rfl⟩
  all_goals
    refine ⟨fun op x y => ?_, ?_, ?_⟩
    · cases op <;> simp [eqGuard]
    · cases e <;> simp [binOp, hr]
    · cases e <;> simp [binOp, hr]

theorem flatEq_sound : ∀ (ks : List CK) {l r : List AV} {cs cs' : List Value} (_ : VRL (Live s) μ l cs) (_ : VRL (Live s) μ r cs') {K : Bool → Prop} (_ : flatEq ks l r K), FitC ks cs ∧ FitC ks cs' ∧ K (veq ks cs cs') := by
  intro ks
  induction ks with
  | nil =>
    intro l r cs cs' h1 h2 K h
    cases l with
    | cons v l => simp [flatEq] at h
    | nil =>
      cases r with
      | cons v r => simp [flatEq] at h
      | nil =>
        simp only [VRL] at h1 h2
        subst h1 h2
        exact ⟨rfl, rfl, h⟩
  | cons c ks ih =>
    intro l r cs cs' h1 h2 K h
    cases l with
    | nil => cases c <;> simp [flatEq] at h
    | cons v l =>
      cases r with
      | nil => cases c <;> cases v <;> simp [flatEq] at h
      | cons u r =>
        cases c with
        | ik k =>
          cases v <;> try (simp [flatEq] at h; done)
          cases u <;> try (simp [flatEq] at h; done)
          simp only [VRL] at h1 h2
          obtain ⟨c, cr, rfl, hc, h1⟩ := h1
          obtain ⟨c', cr', rfl, hc', h2⟩ := h2
          simp only [VR] at hc hc'
          subst hc hc'
          simp only [flatEq] at h
          obtain ⟨hk, hq⟩ := (andK_iff _ _).1 h
          simp only [Bool.and_eq_true, decide_eq_true_eq] at hk
          obtain ⟨rfl, rfl⟩ := hk
          obtain ⟨f1, f2, f3⟩ := ih h1 h2 hq
          exact ⟨⟨_, _, rfl, f1⟩, ⟨_, _, rfl, f2⟩, f3⟩
        | bl =>
          cases v <;> try (simp [flatEq] at h; done)
          cases u <;> try (simp [flatEq] at h; done)
          simp only [VRL] at h1 h2
          obtain ⟨c, cr, rfl, hc, h1⟩ := h1
          obtain ⟨c', cr', rfl, hc', h2⟩ := h2
          simp only [VR] at hc hc'
          subst hc hc'
          simp only [flatEq] at h
          obtain ⟨f1, f2, f3⟩ := ih h1 h2 h
          exact ⟨⟨_, _, rfl, f1⟩, ⟨_, _, rfl, f2⟩, f3⟩

theorem aEq_sound {ty : Nat} {ti : TI} {info : TypeInfo} {d : TypeDesc} (hti : TIok P ty ti info d) {v u : AV} {c e : Value} (hv : VR (Live s) μ v c) (hu : VR (Live s) μ u e) {K : Bool → Prop} (h : aEq ti v u K) :
    ∃ r, K r ∧ (∀ op x y, (eqGuard op ty x y c e).run P w = .ok () w) ∧ (binOp .eql ty c e).run P w = .ok (.bool r) w ∧ (binOp .neq ty c e).run P w = .ok (.bool !r) w := by
  have hund := hti.und
  have hk := hti.kok
  by_cases hagg : ∃ l r, v = .agg l ∧ u = .agg r
  · obtain ⟨l, r, rfl, rfl⟩ := hagg
    simp only [aEq] at h
    split at h
    case h_2 => exact h.elim
    case h_1 ks hks =>
      simp only [VR] at hv hu
      obtain ⟨cs, rfl, hl⟩ := hv
      obtain ⟨cs', rfl, hr⟩ := hu
      obtain ⟨f1, f2, f3⟩ := flatEq_sound ks hl hr h
      have hb := hti.eqv ks hks
      simp only [eqB, Bool.and_eq_true, decide_eq_true_eq, Bool.not_eq_true'] at hb
      obtain ⟨⟨hb1, hb2⟩, hb3⟩ := hb
      have hw : ∀ c : List Value, wrapV P ty c = .agg c.toArray := by
        intro c
        unfold wrapV
        split at hb3 <;> simp_all
      have hrun := equalIn_flat 12 ty ks hb1 10000 (by omega) w cs cs' f1 f2
      rw [hw, hw] at hrun
      have hrun : (Op.equal ty (.agg cs.toArray) (.agg cs'.toArray)).run P w = .ok (veq ks cs cs') w := hrun
      refine ⟨_, f3, fun op x y => ?_, by simp [binOp, hrun], by simp [binOp, hrun]⟩
      cases op <;> simp [eqGuard, hb2]
  unfold aEq at h
  split at h
  case h_10 => exact absurd ⟨_, _, rfl, rfl⟩ hagg
  all_goals (try exact h.elim)
  all_goals
    split at h
    all_goals (try exact h.elim)
    all_goals
      rename_i hkk
      rw [hkk] at hk
      cases d <;> simp [kokB] at hk
      all_goals simp only [VR] at hv hu
  · subst hv hu; exact ⟨_, h, eq_ops (run_equal_bool hund _ _) (.inl ⟨_, rfl⟩)⟩
  · subst hv hu; exact ⟨_, h, eq_ops (run_equal_nil_ptr hund none) (.inr (.inl ⟨_, rfl⟩))⟩
  · obtain ⟨_, hv⟩ := hv; subst hv hu; exact ⟨_, h, eq_ops (run_equal_ptr_nil hund _) (.inr (.inl ⟨_, rfl⟩))⟩
  · obtain ⟨_, hu⟩ := hu; subst hv hu; exact ⟨_, h, eq_ops (run_equal_nil_ptr hund (some _)) (.inr (.inl ⟨_, rfl⟩))⟩
  · subst hv hu; exact ⟨_, h, eq_ops (run_equal_nil_sl hund none 0 0) (.inr (.inr ⟨_, _, _, rfl⟩))⟩
  · obtain ⟨_, hv⟩ := hv; subst hv hu; exact ⟨_, h, eq_ops (run_equal_sl_nil hund _ _ _) (.inr (.inr ⟨_, _, _, rfl⟩))⟩
  · obtain ⟨_, hu⟩ := hu; subst hv hu; exact ⟨_, h, eq_ops (run_equal_nil_sl hund (some _) _ _) (.inr (.inr ⟨_, _, _, rfl⟩))⟩
  · obtain ⟨_, _, _, hv, _⟩ := hv; subst hv hu; exact ⟨_, h, eq_ops (run_equal_sl_nil hund _ _ _) (.inr (.inr ⟨_, _, _, rfl⟩))⟩
  · obtain ⟨_, _, _, hu, _⟩ := hu; subst hv hu; exact ⟨_, h, eq_ops (run_equal_nil_sl hund (some _) _ _) (.inr (.inr ⟨_, _, _, rfl⟩))⟩

theorem aval_binOp (hT : TOk P T) (hr : Rel μ s w) (ht : VRL (Live s) μ t a.tmps.toList) {op : BinOp} {ty ty' : TypeId} {x y : Operand} (ho : o.op = .binOp op ty x y ty')
    (h : aval T id (.binOp op ty x y ty') t s k) : Out P o a id μ s w k := by
  simp only [aval] at h
  obtain ⟨v, h, hv⟩ := evK_sound ht h
  obtain ⟨u, h, hu⟩ := evK_sound ht h
  split at h
  case h_1 q n =>
    obtain ⟨r, cr, h, hr', hrun⟩ := aBin_sound (P := P) (w := w) hv hu h
    refine ⟨r, _, _, h, OpOK.pure hr ?_ hr'⟩
    simp only [VR] at hv
    have hg : (eqGuard op ty x y (a.eval x) (a.eval y)).run P w = .ok () w := by
      rw [hv]; cases op <;> simp [eqGuard]
    simp [execOp, ho, hg, hrun ty]
  case h_2 =>
    obtain ⟨ti, hti, h⟩ := (tyK_at _ _ _).1 h
    obtain ⟨info, d, hok⟩ := hT _ _ hti
    obtain ⟨r, h, hg, he, _⟩ := aEq_sound (w := w) hok hv hu h
    exact ⟨_, _, _, h, OpOK.pure hr (cv := .bool r) (by simp [execOp, ho, hg, he]) (by simp [VR])⟩
  case h_3 =>
    obtain ⟨ti, hti, h⟩ := (tyK_at _ _ _).1 h
    obtain ⟨info, d, hok⟩ := hT _ _ hti
    obtain ⟨r, h, hg, _, he⟩ := aEq_sound (w := w) hok hv hu h
    exact ⟨_, _, _, h, OpOK.pure hr (cv := .bool !r) (by simp [execOp, ho, hg, he]) (by simp [VR])⟩
  case h_4 => exact h.elim

theorem aval_convert (hT : TOk P T) (hr : Rel μ s w) (ht : VRL (Live s) μ t a.tmps.toList) {src dst : TypeId} {x : Operand} (ho : o.op = .convert src dst x)
    (h : aval T id (.convert src dst x) t s k) : Out P o a id μ s w k := by
  simp only [aval] at h
  obtain ⟨_, hts, h⟩ := (tyK_at _ _ _).1 h
  obtain ⟨_, ds, hos⟩ := hT _ _ hts
  have hs := hos.und
  obtain ⟨ti, hti, h⟩ := (tyK_at _ _ _).1 h
  obtain ⟨info, d, hok⟩ := hT _ _ hti
  obtain ⟨v, h, hv⟩ := evK_sound ht h
  split at h
  case h_1 kd q n hk =>
    simp only [VR] at hv
    have hd := hok.kok
    rw [hk] at hd
    cases d <;> simp [kokB] at hd
    subst hd
    refine ⟨_, _, _, h, OpOK.pure hr (cv := .int kd (kd.wrap n)) ?_ (by simp [VR])⟩
    simp [execOp, ho, convert, run_underlying hs, run_underlying hok.und, hv, Conv.intToInt]
  case h_2 => exact h.elim

theorem aval_makeFunc (hr : Rel μ s w) (ht : VRL (Live s) μ t a.tmps.toList) {f : FuncId} {x y : Array Operand} (ho : o.op = .makeFunc (.func f) x y)
    (h : aval T id (.makeFunc (.func f) x y) t s k) : Out P o a id μ s w k := by
  simp only [aval] at h
  obtain ⟨l, h, hl⟩ := evsK_sound ht h
  obtain ⟨l', h, hl'⟩ := evsK_sound ht h
  refine ⟨_, _, _, h, OpOK.pure hr (cv := .func (.func f) (x.map a.eval) (y.map a.eval)) (by simp [execOp, ho, Instr.makeFunc]) ?_⟩
  simp only [VR]
  exact ⟨x.toList.map a.eval, y.toList.map a.eval, by simp [← Array.toList_map], hl, hl'⟩

theorem aval_extract (hr : Rel μ s w) (ht : VRL (Live s) μ t a.tmps.toList) {x : Operand} {i : Nat} (ho : o.op = .extract x i)
    (h : aval T id (.extract x i) t s k) : Out P o a id μ s w k := by
  simp only [aval] at h
  obtain ⟨v, h, hv⟩ := evK_sound ht h
  split at h
  case h_1 l =>
    simp only [VR] at hv
    obtain ⟨cs, he, hv⟩ := hv
    obtain ⟨u, hu, h⟩ := (nthK_iff _ _ _).1 h
    obtain ⟨c, hc, hv⟩ := hv.get hu
    refine ⟨_, _, _, h, OpOK.pure hr (cv := c) ?_ hv⟩
    simp [execOp, ho, he, Instr.extract, hc]
  case h_2 => exact h.elim

theorem minmaxK_sound {mx : Bool} : ∀ {v : AV} {l : List AV} {c : Value} {cs : List Value} (_ : VR (Live s) μ v c) (_ : VRL (Live s) μ l cs) {K : AV → Prop} (_ : minmaxK mx v l K),
    ∃ r cr, K r ∧ VR (Live s) μ r cr ∧ (cs.foldlM (if mx then Builtin.max2 else Builtin.min2) c).run P w = .ok cr w
  | v, [], c, cs, hv, hl, K, h => by
    simp only [VRL] at hl
    subst hl
    have h' : K v := by cases v <;> simpa [minmaxK] using h
    exact ⟨v, c, h', hv, by simp⟩
  | .int q x, .int q' y :: l, c, cs, hv, hl, K, h => by
    simp only [VRL] at hl
    obtain ⟨c2, r, rfl, h2, hl⟩ := hl
    simp only [VR] at hv h2
    subst hv h2
    simp only [minmaxK, mmI] at h
    obtain ⟨r', cr, h, hr', hrun⟩ := minmaxK_sound (v := .int q (cond mx (if y > x then y else x) (if y < x then y else x))) (c := .int q (cond mx (if y > x then y else x) (if y < x then y else x))) (by simp [VR]) hl h
    refine ⟨r', cr, h, hr', ?_⟩
    cases mx
    · simp only [cond_false] at hrun
      simpa [Builtin.min2] using hrun
    · simp only [cond_true] at hrun
      simpa [Builtin.max2] using hrun
  | .junk, _ :: _, _, _, _, _, _, h | .bool _, _ :: _, _, _, _, _, _, h | .str _, _ :: _, _, _, _, _, _, h | .agg _, _ :: _, _, _, _, _, _, h | .arr _ _, _ :: _, _, _, _, _, _, h | .tup _, _ :: _, _, _, _, _, _, h
  | .nilp, _ :: _, _, _, _, _, _, h | .ptr .., _ :: _, _, _, _, _, _, h | .nils, _ :: _, _, _, _, _, _, h | .sl0, _ :: _, _, _, _, _, _, h | .sl .., _ :: _, _, _, _, _, _, h | .fn .., _ :: _, _, _, _, _, _, h | .yld _, _ :: _, _, _, _, _, _, h
  | .nilf, _ :: _, _, _, _, _, _, h | .nili, _ :: _, _, _, _, _, _, h | .iface .., _ :: _, _, _, _, _, _, h => by simp [minmaxK] at h
  | .int _ _, .junk :: _, _, _, _, _, _, h | .int _ _, .bool _ :: _, _, _, _, _, _, h | .int _ _, .str _ :: _, _, _, _, _, _, h | .int _ _, .agg _ :: _, _, _, _, _, _, h | .int _ _, .arr _ _ :: _, _, _, _, _, _, h
  | .int _ _, .tup _ :: _, _, _, _, _, _, h | .int _ _, .nilp :: _, _, _, _, _, _, h | .int _ _, .ptr .. :: _, _, _, _, _, _, h | .int _ _, .nils :: _, _, _, _, _, _, h | .int _ _, .sl0 :: _, _, _, _, _, _, h | .int _ _, .sl .. :: _, _, _, _, _, _, h
  | .int _ _, .fn .. :: _, _, _, _, _, _, h | .int _ _, .yld _ :: _, _, _, _, _, _, h | .int _ _, .nilf :: _, _, _, _, _, _, h | .int _ _, .nili :: _, _, _, _, _, _, h | .int _ _, .iface .. :: _, _, _, _, _, _, h => by simp [minmaxK] at h
end

end Go.AW

/- The engine, 5: the operations on memory. -/
namespace Go.AW
open Go
set_option linter.unusedVariables false
set_option linter.unusedSimpArgs false

/-! ### cells in the heap -/
theorem cell_of_heap {w : World} {b : Nat} {cs : List Value} {e : TypeId} {fr : Nat × Nat} (h : w.heap[b]? = some (.cells cs.toArray e fr)) (o : Nat) : w.cell? ⟨b, o, none⟩ = cs[o]? := by
  simp [World.cell?, h]

theorem frozen_of_heap {w : World} {b : Nat} {cs : Array Value} {e : TypeId} (h : w.heap[b]? = some (.cells cs e (0, 0))) (o : Nat) : w.frozen? ⟨b, o, none⟩ = false := by
  simp [World.frozen?, h]

theorem over_cons {α : Type} (l : List α) (o : Nat) (v : α) (vs : List α) (h : o + (vs.length + 1) ≤ l.length) : over (l.set o v) (o + 1) vs = over l o (v :: vs) := by
  unfold over
  have h1 : (l.set o v).take (o + 1) = l.take o ++ [v] := by
    rw [List.take_set, List.take_succ_eq_append_getElem (by omega), List.set_append_right _ _ (by simp; omega)]
    simp [List.length_take, Nat.min_eq_left (show o ≤ l.length by omega)]
  have h2 : (l.set o v).drop (o + 1 + vs.length) = l.drop (o + (v :: vs).length) := by
    rw [List.drop_set_of_lt (by omega)]
    simp; congr 1; omega
  rw [h1, h2]; simp

theorem heap_setCells {b : Nat} {e : TypeId} {fr : Nat × Nat} : ∀ (vs : List Value) (o : Nat) (w : World) (cs : List Value), w.heap[b]? = some (.cells cs.toArray e fr) → o + vs.length ≤ cs.length →
    (w.setCells b o vs).heap[b]? = some (.cells (over cs o vs).toArray e fr)
  | [], o, w, cs, h, _ => by simp [World.setCells, over, h]
  | v :: vs, o, w, cs, h, hl => by
    simp only [World.setCells]
    have h1 : (w.setCell ⟨b, o, none⟩ v).heap[b]? = some (.cells (cs.set o v).toArray e fr) := by
      simp only [World.setCell, Array.getElem?_modify]
      simp [h]
    rw [heap_setCells vs (o + 1) _ (cs.set o v) h1 (by simp at hl ⊢; omega), over_cons _ _ _ _ (by simpa using hl)]

theorem fr_setCells (b : Nat) : ∀ (vs : List Value) (o : Nat) (w : World), Fr (fun k => k = b) w (w.setCells b o vs)
  | [], o, w => Fr.refl _ _
  | v :: vs, o, w => by
    simp only [World.setCells]
    refine Fr.trans (R' := fun k => k = b) (b := w.setCell ⟨b, o, none⟩ v) ⟨rfl, rfl, rfl, by simp [World.setCell], fun k _ hk => RowKit.Below.heap_setCell w ⟨b, o, none⟩ v k hk, fun a ha => by rw [← World.frozen?_setCell w ⟨b, o, none⟩ a v]; exact ha⟩ (fr_setCells b vs (o + 1) _) fun _ _ h => h

section
variable {P : Program} {w : World}

theorem run_storeVar_gen (b o : Nat) (ty : TypeId) (v : Value) (i : TypeInfo) (hi : P.info? ty = some i) (hs : v.cells.size = i.size) (ht : w.there b o v.cells.size) (h1 : ∀ c ∈ v.cells.toList, c.oneCell' = true) :
    (storeVar ty ⟨b, o, none⟩ v).run P w = .ok () (w.setCells b o v.cells.toList) := by
  have := run_storeCells_cells (P := P) b o v.cells.toList 0 w (fun j hj => by simpa using (ht j (by simpa using hj)).1) (fun j hj => by simpa using (ht j (by simpa using hj)).2) h1
  simp only [Nat.add_zero] at this
  simp [storeVar, sizeOf, typeInfo, hi, hs, this]

theorem there_of_heap {b o n : Nat} {cs : List Value} {e : TypeId} (h : w.heap[b]? = some (.cells cs.toArray e (0, 0))) (hn : o + n ≤ cs.length) : w.there b o n := fun j hj => by
  refine ⟨?_, frozen_of_heap h _⟩
  rw [cell_of_heap h, List.getElem?_eq_getElem (by omega)]; rfl

theorem rangeAt_of_heap {b o : Nat} {cs xs : List Value} {e : TypeId} {fr : Nat × Nat} (h : w.heap[b]? = some (.cells cs.toArray e fr)) (hx : ∀ j v, xs[j]? = some v → cs[o + j]? = some v) : w.rangeAt b o xs := fun j v hv => by
  rw [cell_of_heap h]; exact hx j v hv

theorem run_loadVar_one (b o : Nat) (ty : TypeId) (d : TypeDesc) (hu : P.underlying ty = some d) (hd : d.isRow = false) {v : Value} (h : w.cell? ⟨b, o, none⟩ = some v) :
    (loadVar ty ⟨b, o, none⟩).run P w = .ok v w := by
  have hagg : (isAgg ty).run P w = .ok false w := by
    unfold isAgg
    rw [Sem.run_bind, run_underlying hu w]
    cases d <;> simp_all [TypeDesc.isRow]
  simp [loadVar, hagg, load, Sem.run, h]
end

/-! ### rows -/
theorem take_flatV_iff {ks : List CK} {l : List (List Int)} {cs : List Value} (hl : l.length * ks.length ≤ cs.length) :
    cs.take (l.length * ks.length) = flatV ks l ↔ ∀ i j, i < l.length → j < ks.length → cs[i * ks.length + j]? = (rowV ks (l.getD i []))[j]? := by
  have bd : ∀ i j, i < l.length → j < ks.length → i * ks.length + j < l.length * ks.length := by
    intro i j hi hj
    calc i * ks.length + j < i * ks.length + ks.length := by omega
      _ = (i + 1) * ks.length := (Nat.succ_mul _ _).symm
      _ ≤ l.length * ks.length := Nat.mul_le_mul_right _ hi
  constructor
  · intro h i j hi hj
    rw [← flatV_get ks l i j hi hj, ← h, List.getElem?_take, if_pos (bd i j hi hj)]
  · intro h
    apply List.ext_getElem?
    intro x
    by_cases hx : x < l.length * ks.length
    · have hk : 0 < ks.length := by
        rcases Nat.eq_zero_or_pos ks.length with e | e
        · rw [e] at hx; simp at hx
        · exact e
      have hi : x / ks.length < l.length := Nat.div_lt_of_lt_mul (by rw [Nat.mul_comm]; exact hx)
      have hj : x % ks.length < ks.length := Nat.mod_lt _ hk
      have e : x / ks.length * ks.length + x % ks.length = x := by rw [Nat.mul_comm]; exact Nat.div_add_mod x ks.length
      have h2 := h _ _ hi hj
      have h3 := flatV_get ks l _ _ hi hj
      rw [e] at h2 h3
      rw [List.getElem?_take, if_pos hx, h2, h3]
    · rw [List.getElem?_take, if_neg hx, List.getElem?_eq_none (by rw [length_flatV]; omega)]

theorem row_cell {D : Nat → Prop} {μ : MM} {w : World} {m : MA} {own : Bool} {e : TypeId} {ks : List CK} {l : List (List Int)} (h : OR D μ w m (.row own e ks l)) {i j : Nat} (hi : i < l.length) (hj : j < ks.length) :
    w.cell? ⟨m.blk, m.off + (i * m.sz + j), none⟩ = (rowV ks (l.getD i []))[j]? := by
  cases own with
  | false => simp only [OR] at h; exact h.2.2.2 i j hi hj
  | true =>
    simp only [OR] at h
    obtain ⟨h0, hs, hc, _, cs, hh, hl, ht⟩ := h
    rw [hs] at hl ht ⊢
    rw [h0, Nat.zero_add, cell_of_heap hh]
    exact (take_flatV_iff (by rw [hl]; exact Nat.mul_le_mul_right _ hc)).1 ht i j hi hj

theorem row_sz {D : Nat → Prop} {μ : MM} {w : World} {m : MA} {own : Bool} {e : TypeId} {ks : List CK} {l : List (List Int)} (h : OR D μ w m (.row own e ks l)) : m.sz = ks.length ∧ l.length ≤ m.cap := by
  cases own with
  | false => simp only [OR] at h; exact ⟨h.1, h.2.1⟩
  | true => simp only [OR] at h; exact ⟨h.2.1, h.2.2.1⟩

theorem uncK_iff (c : CK) (v : AV) (K : Int → Prop) : uncK c v K → ∃ n, K n ∧ ∀ D μ cv, VR D μ v cv → cv = ckV c n := by
  intro h
  cases c with
  | ik q =>
    cases v <;> simp only [uncK] at h
    case int q' n =>
      obtain ⟨h1, h2⟩ := (andK_iff _ _).1 h
      simp at h1; subst h1
      exact ⟨n, h2, fun D μ cv hv => by simpa [VR, ckV] using hv⟩
  | bl =>
    cases v <;> simp only [uncK] at h
    case bool b => exact ⟨_, h, fun D μ cv hv => by cases b <;> simpa [VR, ckV] using hv⟩

theorem uncsK_sound : ∀ (ks : List CK) (l : List AV) (k : List Int → List AV → Prop), uncsK ks l k →
    ∃ r rest, k r rest ∧ r.length = ks.length ∧ ∀ D μ vs, VRL D μ l vs → vs.take ks.length = rowV ks r ∧ VRL D μ rest (vs.drop ks.length)
  | [], l, k, h => ⟨[], l, h, rfl, fun D μ vs hv => by simpa [rowV] using hv⟩
  | _ :: _, [], k, h => by simp [uncsK] at h
  | c :: cs, v :: vs, k, h => by
    simp only [uncsK] at h
    obtain ⟨n, h, hn⟩ := uncK_iff _ _ _ h
    obtain ⟨r, rest, h, hl, hr⟩ := uncsK_sound cs vs _ h
    refine ⟨n :: r, rest, h, by simp [hl], fun D μ xs hx => ?_⟩
    simp only [VRL] at hx
    obtain ⟨x, ys, rfl, h1, h2⟩ := hx
    obtain ⟨h3, h4⟩ := hr D μ ys h2
    refine ⟨?_, by simpa using h4⟩
    simp only [List.length_cons, List.take_succ_cons, rowV, List.headD_cons, List.tail_cons, h3, hn D μ x h1]

theorem rowsK_sound (ks : List CK) : ∀ (n : Nat) (l : List AV) (k : List (List Int) → Prop), rowsK ks n l k →
    ∃ rs, k rs ∧ rs.length = n ∧ ∀ D μ vs, VRL D μ l vs → vs.take (n * ks.length) = flatV ks rs
  | 0, l, k, h => ⟨[], h, rfl, fun D μ vs _ => by simp [flatV]⟩
  | n + 1, l, k, h => by
    simp only [rowsK] at h
    obtain ⟨r, rest, h, _, hr⟩ := uncsK_sound ks l _ h
    obtain ⟨rs, h, hn, hrs⟩ := rowsK_sound ks n rest _ h
    refine ⟨r :: rs, h, by simp [hn], fun D μ vs hv => ?_⟩
    obtain ⟨h1, h2⟩ := hr D μ vs hv
    have h3 := hrs D μ _ h2
    have : (n + 1) * ks.length = ks.length + n * ks.length := by rw [Nat.succ_mul]; omega
    rw [this, List.take_add, h1, h3]
    simp [flatV]

section
variable {P : Program} {T : TT} {μ : MM} {s : List Ob} {w : World} {t : List AV} {a : Act} {id : Nat} {o : Oper} {k : AV → Eff → FP → Prop}

theorem loadOb_sound {ty : Nat} {ti : TI} {info : TypeInfo} {d : TypeDesc} (hok : TIok P ty ti info d) (hr : Rel μ s w) {i r j : Nat} {ob : Ob} (hob : s[i]? = some ob) {K : AV → FP → Prop} (h : loadOb ti r j K i ob) :
    ∃ u fp c, K u fp ∧ VR (Live s) μ u c ∧ (loadVar ty ⟨(μ i).blk, (μ i).off + (r * (μ i).sz + j), none⟩).run P w = .ok c w := by
  have hor := hr.ob i ob hob
  have fin : ∀ (u : AV) (fp : FP) (c : Value), K u fp → VR (Live s) μ u c → (loadVar ty ⟨(μ i).blk, (μ i).off + (r * (μ i).sz + j), none⟩).run P w = .ok c w →
      ∃ u fp c, K u fp ∧ VR (Live s) μ u c ∧ (loadVar ty ⟨(μ i).blk, (μ i).off + (r * (μ i).sz + j), none⟩).run P w = .ok c w := fun u fp c h1 h2 h3 => ⟨u, fp, c, h1, h2, h3⟩
  cases ob with
  | dead => exact h.elim
  | cells sz c =>
    simp only [loadOb] at h
    simp only [OR] at hor
    obtain ⟨h0, hsz, cs, e, hh, hc⟩ := hor
    obtain ⟨hle, h⟩ := (dropK_iff _ _ _).1 h
    rcases (cond_iff _ _ _).1 h with ⟨hagg, h⟩ | ⟨hagg, h⟩
    · obtain ⟨hle2, h⟩ := (takeK_iff _ _ _).1 h
      have hvs := (hc.drop (r * sz + j)).take ti.size
      refine fin _ _ (.agg ((cs.drop (r * sz + j)).take ti.size).toArray) h (by simp only [VR]; exact ⟨_, rfl, hvs⟩) ?_
      refine run_loadVar_mid w _ _ ty _ d (rangeAt_of_heap hh fun q v hq => ?_) hok.und (by rw [← hok.isAgg]; exact hagg) ?_
      · rw [List.getElem?_take] at hq
        split at hq
        · rw [List.getElem?_drop] at hq; rw [h0, hsz, Nat.zero_add]; exact hq
        · simp at hq
      · rw [VRL.length hvs, hok.inf]; simp [hok.size]; simp at hle2; omega
    · obtain ⟨u, hu, h⟩ := (nthK_iff _ _ _).1 h
      obtain ⟨cv, hcv, hvr⟩ := (hc.drop (r * sz + j)).get hu
      refine fin _ _ cv h hvr (run_loadVar_one _ _ ty d hok.und (by rw [← hok.isAgg]; exact hagg) ?_)
      rw [cell_of_heap hh, h0, hsz, Nat.zero_add]
      simpa using hcv
  | row own e ks l =>
    have hsz := (row_sz hor).1
    simp only [loadOb] at h
    cases hb : ti.big with
    | some q =>
      obtain ⟨e', n, ks'⟩ := q
      simp only [hb, andK_iff, Bool.and_eq_true, decide_eq_true_eq] at h
      obtain ⟨⟨⟨⟨rfl, hn⟩, rfl⟩, rfl⟩, hkk⟩ := h
      obtain ⟨hd, _, hsize, _⟩ := hok.big _ _ _ hb
      refine fin _ _ (.agg (flatV ks l).toArray) hkk (by simp [VR]) ?_
      refine run_loadVar_mid w _ _ ty _ d (fun q v hq => ?_) hok.und (by simp [hd, TypeDesc.isRow]) ?_
      · have hq' : q < l.length * ks.length := by have := (List.getElem?_eq_some_iff.1 hq).1; rw [length_flatV] at this; exact this
        have hk : 0 < ks.length := by
          rcases Nat.eq_zero_or_pos ks.length with e | e
          · rw [e] at hq'; simp at hq'
          · exact e
        have hi : q / ks.length < l.length := Nat.div_lt_of_lt_mul (by rw [Nat.mul_comm]; exact hq')
        have hj : q % ks.length < ks.length := Nat.mod_lt _ hk
        have e : q / ks.length * ks.length + q % ks.length = q := by rw [Nat.mul_comm]; exact Nat.div_add_mod q ks.length
        have h2 := row_cell hor hi hj
        have h3 := flatV_get ks l _ _ hi hj
        rw [e] at h3
        rw [hsz, e] at h2
        simp only [Nat.zero_mul, Nat.zero_add, Nat.add_zero]
        rw [h2, ← h3, hq]
      · rw [length_flatV, hok.inf]; simp [hok.size, hsize, hn]
    | none =>
      simp only [hb, andK_iff, decide_eq_true_eq] at h
      obtain ⟨hi, h⟩ := h
      have hlen : (rowCells ks l r).length = ks.length := length_ckvs _ _
      have hrow : VRL (Live s) μ (rowCells ks l r) (rowV ks (l.getD r [])) := VRL_row _ _
      rcases (cond_iff _ _ _).1 h with ⟨hagg, h⟩ | ⟨hagg, h⟩
      · obtain ⟨hle, h⟩ := (dropK_iff _ _ _).1 h
        obtain ⟨hle2, h⟩ := (takeK_iff _ _ _).1 h
        have hvs := (hrow.drop j).take ti.size
        refine fin _ _ (.agg (((rowV ks (l.getD r [])).drop j).take ti.size).toArray) h (by simp only [VR]; exact ⟨_, rfl, hvs⟩) ?_
        refine run_loadVar_mid w _ _ ty _ d (fun q v hq => ?_) hok.und (by rw [← hok.isAgg]; exact hagg) ?_
        · rw [List.getElem?_take] at hq
          split at hq
          · rw [List.getElem?_drop] at hq
            have hj' : j + q < ks.length := by have := (List.getElem?_eq_some_iff.1 hq).1; rw [length_rowV] at this; exact this
            have := row_cell hor hi hj'
            rw [← Nat.add_assoc, ← Nat.add_assoc] at this
            rw [← Nat.add_assoc, this]; exact hq
          · simp at hq
        · rw [VRL.length hvs, hok.inf]; simp [hok.size]; simp at hle2; omega
      · obtain ⟨u, hu, h⟩ := (nthK_iff _ _ _).1 h
        obtain ⟨cv, hcv, hvr⟩ := hrow.get hu
        have hj' : j < ks.length := by have := (List.getElem?_eq_some_iff.1 hu).1; rw [hlen] at this; exact this
        refine fin _ _ cv h hvr (run_loadVar_one _ _ ty d hok.und (by rw [← hok.isAgg]; exact hagg) ?_)
        rw [row_cell hor hi hj', hcv]


theorem aval_load (hT : TOk P T) (hr : Rel μ s w) (ht : VRL (Live s) μ t a.tmps.toList) {ty : TypeId} {x : Operand} (ho : o.op = .load ty x)
    (h : aval T id (.load ty x) t s k) : Out P o a id μ s w k := by
  simp only [aval] at h
  obtain ⟨ti, hti, h⟩ := (tyK_at _ _ _).1 h
  obtain ⟨info, d, hok⟩ := hT _ _ hti
  obtain ⟨v, h, hv⟩ := evK_sound ht h
  obtain ⟨i, r, j, rfl, h, hlive, hx⟩ := ptrK_sound hv h
  obtain ⟨ob, hob, h⟩ := (nthK_iff _ _ _).1 h
  obtain ⟨u, fp, c, hk, hu, hrun⟩ := loadOb_sound hok hr hob h
  exact ⟨u, _, fp, hk, OpOK.pure hr (by simp [execOp, ho, hx, Instr.loadAt, Instr.sureAddr, hrun]) hu⟩

end
end Go.AW

/- The engine, 6: stores, new objects, addresses, parts of values. -/
namespace Go.AW
open Go
set_option linter.unusedVariables false
set_option linter.unusedSimpArgs false

theorem over_length {α : Type} (l : List α) (j : Nat) (vs : List α) (h : j + vs.length ≤ l.length) : (over l j vs).length = l.length := by
  unfold over; simp; omega

theorem over_get {α : Type} (l : List α) (j : Nat) (vs : List α) (h : j + vs.length ≤ l.length) (x : Nat) : (over l j vs)[x]? = if x < j then l[x]? else if x < j + vs.length then vs[x - j]? else l[x]? := by
  unfold over
  have hlen : (l.take j ++ vs).length = j + vs.length := by simp; omega
  by_cases h1 : x < j + vs.length
  · rw [List.getElem?_append_left (by rw [hlen]; exact h1)]
    by_cases h2 : x < j
    · rw [List.getElem?_append_left (by simp; omega), List.getElem?_take, if_pos h2, if_pos h2]
    · rw [List.getElem?_append_right (by simp; omega), if_neg h2, if_pos h1]
      congr 1; simp; omega
  · rw [List.getElem?_append_right (by rw [hlen]; omega), hlen, if_neg (by omega), if_neg h1, List.getElem?_drop]
    congr 1; omega

section
variable {P : Program} {T : TT} {μ : MM} {s : List Ob} {w : World} {t : List AV} {a : Act} {id : Nat} {o : Oper} {k : AV → Eff → FP → Prop}

theorem overK_iff' {l : List AV} {j : Nat} {vs : List AV} {K : List AV → Prop} (h : overK l j vs K) : (vs = [] ∧ K l) ∨ (vs ≠ [] ∧ j + vs.length ≤ l.length ∧ K (over l j vs)) := by
  cases vs with
  | nil => left; cases l <;> cases j <;> simpa [overK] using h
  | cons v vs => right; exact ⟨by simp, (overK_iff _ _ _ _ (.inl (by simp))).1 h⟩

theorem aval_store (hT : TOk P T) (hr : Rel μ s w) (ht : VRL (Live s) μ t a.tmps.toList) {ty : TypeId} {x y : Operand} (ho : o.op = .store ty x y)
    (h : aval T id (.store ty x y) t s k) : Out P o a id μ s w k := by
  simp only [aval] at h
  obtain ⟨ti, hti, h⟩ := (tyK_at _ _ _).1 h
  obtain ⟨info, d, hok⟩ := hT _ _ hti
  obtain ⟨v, h, hv⟩ := evK_sound ht h
  obtain ⟨i, r, j, rfl, h, hlive, hx⟩ := ptrK_sound hv h
  obtain ⟨u, h, hu⟩ := evK_sound ht h
  obtain ⟨ob, hob, h⟩ := (nthK_iff _ _ _).1 h
  have hor := hr.ob i ob hob
  -- what storing says of the operation
  have fin : ∀ (ob' : Ob) (w1 : World), k .junk (.set i ob') (some (i, true)) → ob.own = true → ob'.own = true → Fr (fun b => b = (μ i).blk) w w1 → OR (Live (s.set i ob')) μ w1 (μ i) ob' →
      (storeVar ty ⟨(μ i).blk, (μ i).off + (r * (μ i).sz + j), none⟩ (a.eval y)).run P w = .ok () w1 → Out P o a id μ s w k := by
    intro ob' w1 hk hw hw' hfr hor' hrun
    refine ⟨_, _, _, hk, undef, w1, μ, .inr ⟨by simp [execOp, ho, hx, Instr.storeAt, Instr.sureAddr, hrun], rfl⟩, by simp [VR], ?_⟩
    exact Stp.store hr hob hw hw' hfr hor'
  have hkeep : ∀ ob', ob' ≠ .dead → ∀ q, Live s q → Live (s.set i ob') q ∧ μ q = μ q := fun ob' hd q hq => ⟨live_set hd hq, rfl⟩
  cases ob with
  | dead => exact h.elim
  | cells sz c =>
    simp only [storeOb] at h
    simp only [OR] at hor
    obtain ⟨h0, hsz, cs, e, hh, hc⟩ := hor
    obtain ⟨vs, hvs, h⟩ : ∃ vs, (u = .agg vs ∨ (u.one = true ∧ vs = [u])) ∧ andK (vs.length == ti.size && vs.all AV.one) (overK c (r * sz + j) vs fun c' => k .junk (.set i (.cells sz c')) (some (i, true))) := by
      rcases (cellsK_iff _ _).1 h with ⟨l, rfl, h⟩ | ⟨h1, h⟩
      · exact ⟨l, .inl rfl, h⟩
      · exact ⟨[u], .inr ⟨h1, rfl⟩, h⟩
    obtain ⟨hc1, h⟩ := (andK_iff _ _).1 h
    simp only [Bool.and_eq_true, beq_iff_eq] at hc1
    have hcells := hu.cells hvs
    have hone := VRL.one hcells hc1.2
    have hlen : (a.eval y).cells.size = vs.length := by have := VRL.length hcells; simpa using this
    rcases overK_iff' h with ⟨hvn, hkk⟩ | ⟨_, hle, hkk⟩
    · -- nothing is stored
      subst hvn
      have hz : (a.eval y).cells.toList = [] := by simpa [VRL] using hcells
      refine fin _ w hkk rfl rfl (Fr.refl _ _) ?_ ?_
      · rw [show s.set i (.cells sz c) = s from by
          apply List.ext_getElem?; intro q
          by_cases e' : i = q
          · subst e'; rw [List.getElem?_set_self (List.getElem?_eq_some_iff.1 hob).1, hob]
          · rw [List.getElem?_set_ne e']]
        simp only [OR]; exact ⟨h0, hsz, cs, e, hh, hc⟩
      · rw [run_storeVar_gen _ _ ty _ info hok.inf (by rw [hlen, hc1.1, hok.size]) (by rw [hlen]; intro q hq; simp at hq) hone, hz]
        simp [World.setCells]
    · have hlc := VRL.length hc
      refine fin _ _ hkk rfl rfl (fr_setCells _ _ _ _) ?_ (run_storeVar_gen _ _ ty _ info hok.inf (by rw [hlen, hc1.1, hok.size]) (there_of_heap hh (by rw [h0, hsz, hlen, hlc]; omega)) hone)
      simp only [OR]
      refine ⟨h0, hsz, over cs (r * sz + j) (a.eval y).cells.toList, e, ?_, ?_⟩
      · have := heap_setCells (a.eval y).cells.toList ((μ i).off + (r * (μ i).sz + j)) w cs hh (by rw [h0, hsz, VRL.length hcells, hlc]; omega)
        rw [this, h0, hsz, Nat.zero_add]
      · exact (hc.over hcells _).mono (hkeep _ (by simp))
  | row own e ks l =>
    cases own with
    | false => simp [storeOb] at h
    | true =>
      have hor0 := hor
      simp only [OR] at hor
      obtain ⟨h0, hsz, hcap, hmax, cs, hh, hcl, htake⟩ := hor
      have hbd : l.length * ks.length ≤ cs.length := by rw [hcl, hsz]; exact Nat.mul_le_mul_right _ hcap
      rw [hsz] at htake
      have hget := (take_flatV_iff hbd).1 htake
      simp only [storeOb] at h
      -- some cells of one element
      have some1 : ∀ vs : List AV, (u = .agg vs ∨ (u.one = true ∧ vs = [u])) → andK (vs.length == ti.size) (storeRow ks l r j vs fun l' => k .junk (.set i (.row true e ks l')) (some (i, true))) → Out P o a id μ s w k := by
        intro vs hvs h
        obtain ⟨hc1, h⟩ := (andK_iff _ _).1 h
        simp only [beq_iff_eq] at hc1
        obtain ⟨hrl, h⟩ := (andK_iff _ _).1 h
        simp only [decide_eq_true_eq] at hrl
        have hcells := hu.cells hvs
        have hlen : (a.eval y).cells.size = vs.length := by have := VRL.length hcells; simpa using this
        have hrow : VRL (Live s) μ (rowCells ks l r) (rowV ks (l.getD r [])) := VRL_row _ _
        obtain ⟨c', hov, h⟩ : ∃ c', ((vs = [] ∧ c' = rowCells ks l r) ∨ (vs ≠ [] ∧ j + vs.length ≤ ks.length ∧ c' = over (rowCells ks l r) j vs)) ∧ uncsK ks c' fun r' _ => k .junk (.set i (.row true e ks (l.set r r'))) (some (i, true)) := by
          rcases overK_iff' h with ⟨h1, h⟩ | ⟨h1, h2, h⟩
          · exact ⟨_, .inl ⟨h1, rfl⟩, h⟩
          · exact ⟨_, .inr ⟨h1, by rw [show (rowCells ks l r).length = ks.length from length_ckvs _ _] at h2; exact h2, rfl⟩, h⟩
        obtain ⟨r', rest, hkk, hr'l, hr'⟩ := uncsK_sound _ _ _ h
        clear h
        have hcv : VRL (Live s) μ c' (if vs = [] then rowV ks (l.getD r []) else over (rowV ks (l.getD r [])) j (a.eval y).cells.toList) := by
          rcases hov with ⟨h1, rfl⟩ | ⟨h1, _, rfl⟩
          · rw [if_pos h1]; exact hrow
          · rw [if_neg h1]; exact hrow.over hcells j
        have hnew := (hr' _ _ _ hcv).1
        have hjv : vs = [] ∨ j + vs.length ≤ ks.length := by
          rcases hov with ⟨h1, _⟩ | ⟨_, h2, _⟩
          · exact .inl h1
          · exact .inr h2
        -- each stored cell is one cell
        have hone : ∀ c ∈ (a.eval y).cells.toList, c.oneCell' = true := by
          intro c hc
          obtain ⟨q, hq⟩ := List.mem_iff_getElem?.1 hc
          have hql : q < vs.length := by rw [← hlen]; have := (List.getElem?_eq_some_iff.1 hq).1; simpa using this
          have hne : vs ≠ [] := by intro e'; subst e'; simp at hql
          have hjv' := hjv.resolve_left hne
          rw [if_neg hne] at hnew
          have h3 : (over (rowV ks (l.getD r [])) j (a.eval y).cells.toList)[j + q]? = some c := by
            rw [over_get _ _ _ (by rw [length_rowV]; simpa [hlen] using hjv'), if_neg (by omega), if_pos (by simp [hlen]; omega)]
            rw [show j + q - j = q by omega]; exact hq
          have h4 : (rowV ks r')[j + q]? = some c := by
            rw [← hnew, List.getElem?_take, if_pos (by omega)]; exact h3
          have hck : ∀ (ks : List CK) (r : List Int) (c : Value), c ∈ rowV ks r → c.oneCell' = true := by
            intro ks
            induction ks with
            | nil => intro r c hc; simp [rowV] at hc
            | cons x xs ih =>
              intro r c hc
              simp only [rowV, List.mem_cons] at hc
              rcases hc with rfl | hc
              · cases x <;> rfl
              · exact ih _ _ hc
          exact hck _ _ _ (List.mem_of_getElem? h4)
        by_cases hvn : vs = []
        · subst hvn
          have hz : (a.eval y).cells.toList = [] := by simpa [VRL] using hcells
          refine fin _ w hkk rfl rfl (Fr.refl _ _) ?_ ?_
          · simp only [OR, List.length_set]
            refine ⟨h0, hsz, hcap, hmax, cs, hh, hcl, ?_⟩
            rw [hsz]
            have : (l.set r r').length * ks.length ≤ cs.length := by simpa using hbd
            rw [← List.length_set (i := r) (as := l) (a := r')]
            rw [take_flatV_iff this]
            intro i' j' hi' hj'
            rw [List.length_set] at hi'
            rw [hget i' j' hi' hj']
            by_cases e' : r = i'
            · subst e'
              simp only [if_true] at hnew
              rw [List.take_of_length_le (by rw [length_rowV]; exact Nat.le_refl _)] at hnew
              simp [List.getElem?_set_self hrl, ← hnew]
            · simp [List.getElem?_set_ne e']
          · rw [run_storeVar_gen _ _ ty _ info hok.inf (by rw [hlen, hc1, hok.size]) (by rw [hlen]; intro q hq; simp at hq) hone, hz]
            simp [World.setCells]
        · have hjv' := hjv.resolve_left hvn
          rw [if_neg hvn] at hnew
          have hrb : r * ks.length + ks.length ≤ l.length * ks.length := by rw [← Nat.succ_mul]; exact Nat.mul_le_mul_right _ hrl
          have hfit : r * ks.length + j + (a.eval y).cells.toList.length ≤ cs.length := by simp only [Array.length_toList, hlen]; omega
          refine fin _ _ hkk rfl rfl (fr_setCells _ _ _ _) ?_ (run_storeVar_gen _ _ ty _ info hok.inf (by rw [hlen, hc1, hok.size]) (there_of_heap hh (by rw [h0, hsz, hlen, Nat.zero_add]; omega)) hone)
          simp only [OR, List.length_set]
          refine ⟨h0, hsz, hcap, hmax, over cs (r * ks.length + j) (a.eval y).cells.toList, ?_, by rw [over_length _ _ _ hfit]; exact hcl, ?_⟩
          · have := heap_setCells (a.eval y).cells.toList ((μ i).off + (r * (μ i).sz + j)) w cs hh (by rw [h0, hsz, Nat.zero_add]; exact hfit)
            rw [this, h0, hsz, Nat.zero_add]
          · rw [hsz]
            have hb2 : (l.set r r').length * ks.length ≤ (over cs (r * ks.length + j) (a.eval y).cells.toList).length := by rw [over_length _ _ _ hfit]; simpa using hbd
            rw [← List.length_set (i := r) (as := l) (a := r')]
            rw [take_flatV_iff hb2]
            intro i' j' hi' hj'
            rw [List.length_set] at hi'
            rw [over_get _ _ _ hfit]
            have hfit2 : j + (a.eval y).cells.toList.length ≤ (rowV ks (l.getD r [])).length := by rw [length_rowV]; simp only [Array.length_toList, hlen]; exact hjv'
            by_cases e' : r = i'
            · subst e'
              have h5 : (rowV ks r')[j']? = (over (rowV ks (l.getD r [])) j (a.eval y).cells.toList)[j']? := by
                rw [← hnew, List.getElem?_take, if_pos hj']
              rw [over_get _ _ _ hfit2] at h5
              have h6 : (l.set r r').getD r [] = r' := by simp [List.getElem?_set_self hrl]
              rw [h6, h5]
              by_cases c1 : j' < j
              · rw [if_pos (by omega), if_pos c1]; exact hget _ _ hrl hj'
              · rw [if_neg (by omega), if_neg c1]
                by_cases c2 : j' < j + (a.eval y).cells.toList.length
                · rw [if_pos (by omega), if_pos c2]; congr 1; omega
                · rw [if_neg (by omega), if_neg c2]; exact hget _ _ hrl hj'
            · have h6 : (l.set r r').getD i' [] = l.getD i' [] := by simp [List.getElem?_set_ne e']
              rw [h6]
              have hl2 : (a.eval y).cells.toList.length = vs.length := by simp [hlen]
              rcases Nat.lt_or_gt_of_ne e' with c | c
              · have : (r + 1) * ks.length ≤ i' * ks.length := Nat.mul_le_mul_right _ c
                rw [Nat.succ_mul] at this
                rw [if_neg (by omega), if_neg (by rw [hl2]; omega)]; exact hget _ _ hi' hj'
              · have : (i' + 1) * ks.length ≤ r * ks.length := Nat.mul_le_mul_right _ c
                rw [Nat.succ_mul] at this
                rw [if_pos (by omega)]; exact hget _ _ hi' hj'
      by_cases harr : ∃ ks' l', u = .arr ks' l'
      · -- a whole row
        obtain ⟨ks', l', hua⟩ := harr
        subst hua
        simp only [andK_iff, Bool.and_eq_true, decide_eq_true_eq] at h
        obtain ⟨⟨⟨⟨⟨hks, hll⟩, hrr⟩, hjj⟩, hsize⟩, hkk⟩ := h
        subst hks hrr hjj
        simp only [VR] at hu
        have hcv : (a.eval y).cells.toList = flatV ks l' := by rw [hu]; simp [Value.cells]
        have hlen : (a.eval y).cells.size = l.length * ks.length := by
          have : (a.eval y).cells.toList.length = l.length * ks.length := by rw [hcv, length_flatV, hll]
          simpa using this
        have hck : ∀ (ks : List CK) (r : List Int) (c : Value), c ∈ rowV ks r → c.oneCell' = true := by
          intro ks
          induction ks with
          | nil => intro r c hc; simp [rowV] at hc
          | cons x xs ih =>
            intro r c hc
            simp only [rowV, List.mem_cons] at hc
            rcases hc with rfl | hc
            · cases x <;> rfl
            · exact ih _ _ hc
        have hone : ∀ c ∈ (a.eval y).cells.toList, c.oneCell' = true := by
          intro c hc
          rw [hcv] at hc
          simp only [flatV, List.mem_flatten, List.mem_map] at hc
          obtain ⟨_, ⟨r, _, rfl⟩, hc⟩ := hc
          exact hck _ _ _ hc
        have hfit : 0 + (a.eval y).cells.toList.length ≤ cs.length := by simp only [Array.length_toList, hlen, Nat.zero_add]; exact hbd
        refine fin _ _ hkk rfl rfl (fr_setCells _ _ _ _) ?_ (run_storeVar_gen _ _ ty _ info hok.inf (by rw [hlen, ← hsize, hok.size]) (there_of_heap hh (by rw [h0, hlen]; simpa using hbd)) hone)
        simp only [OR]
        refine ⟨h0, hsz, by omega, hmax, over cs 0 (a.eval y).cells.toList, ?_, by rw [over_length _ _ _ hfit]; exact hcl, ?_⟩
        · have := heap_setCells (a.eval y).cells.toList ((μ i).off + (0 * (μ i).sz + 0)) w cs hh (by rw [h0]; simpa using hfit)
          rw [this, h0]; simp
        · rw [hsz, hcv]
          unfold over
          simp only [List.take_zero, List.nil_append, Nat.zero_add]
          have hlf : (flatV ks l').length = l'.length * ks.length := length_flatV _ _
          rw [List.take_append_of_le_length (by rw [hlf]; exact Nat.le_refl _), List.take_of_length_le (by rw [hlf]; exact Nat.le_refl _)]
      · have h' : cellsK u fun vs => andK (vs.length == ti.size) (storeRow ks l r j vs fun l' => k .junk (.set i (.row true e ks l')) (some (i, true))) := by
          cases u <;> first | exact h | exact absurd ⟨_, _, rfl⟩ harr
        rcases (cellsK_iff _ _).1 h' with ⟨l', hl', hkk⟩ | ⟨h1, hkk⟩
        · exact some1 _ (.inl hl') hkk
        · exact some1 _ (.inr ⟨h1, rfl⟩) hkk

end
end Go.AW

/- The engine, 7: new objects, parts of values, addresses, slices; all operations together. -/
namespace Go.AW
open Go
set_option linter.unusedVariables false
set_option linter.unusedSimpArgs false

section
variable {P : Program} {T : TT} {μ : MM} {s : List Ob} {w : World} {t : List AV} {a : Act} {id : Nat} {o : Oper} {k : AV → Eff → FP → Prop}

/-- a value that points to the new object -/
theorem OpOK.made (hr : Rel μ s w) (hid : s[id]? = some .dead) {v : AV} {cv : Value} {cs : Array Value} {e : TypeId} {m : MA} {ob : Ob} (hd : ob ≠ .dead) (hm : m.blk = w.heap.size)
    (hrun : (execOp a.eval o).run P w = .ok (.value cv) (w.alloc (.cells cs e)))
    (hob : OR (Live (s.set id ob)) (μ.set id m) (w.alloc (.cells cs e)) m ob) (hv : VR (Live (s.set id ob)) (μ.set id m) v cv) : OpOK P o a id μ s w v (.set id ob) :=
  ⟨cv, _, _, .inl hrun, hv, Stp.new hr hid hd hm hob⟩

theorem live_new (hid : s[id]? = some .dead) {ob : Ob} (hd : ob ≠ .dead) : Live (s.set id ob) id :=
  ⟨ob, by rw [List.getElem?_set_self (List.getElem?_eq_some_iff.1 hid).1], hd⟩

theorem VRL.new {l : List AV} {vs : List Value} (h : VRL (Live s) μ l vs) (hid : s[id]? = some .dead) {ob : Ob} (hd : ob ≠ .dead) (m : MA) : VRL (Live (s.set id ob)) (μ.set id m) l vs :=
  h.mono fun _ hq => ⟨live_set hd hq, MM.set_other μ m (not_live_dead hid hq)⟩

/-- a new block of cells -/
theorem OR.newCells {l : List AV} {vs : Array Value} (h : VRL (Live s) μ l vs.toList) (hid : s[id]? = some .dead) (sz cap : Nat) (e : TypeId) :
    OR (Live (s.set id (.cells sz l))) (μ.set id ⟨w.heap.size, 0, sz, cap⟩) (w.alloc (.cells vs e)) ⟨w.heap.size, 0, sz, cap⟩ (.cells sz l) := by
  simp only [OR]
  exact ⟨trivial, trivial, vs.toList, e, by simpa using heap_alloc_self w (.cells vs e), h.new hid (by simp) _⟩

/-- a new row -/
theorem OR.newRow {D : Nat → Prop} {μ' : MM} {ks : List CK} {l : List (List Int)} {vs : Array Value} {cap : Nat} {e : TypeId} (hl : l.length ≤ cap) (hm : cap ≤ maxLen) (hs : vs.size = cap * ks.length) (hv : vs.toList.take (l.length * ks.length) = flatV ks l) :
    OR D μ' (w.alloc (.cells vs e)) ⟨w.heap.size, 0, ks.length, cap⟩ (.row true e ks l) := by
  simp only [OR]
  exact ⟨trivial, trivial, hl, hm, vs.toList, by simpa using heap_alloc_self w (.cells vs e), by simpa using hs, hv⟩

theorem ptr_new (hid : s[id]? = some .dead) {ob : Ob} (hd : ob ≠ .dead) (sz cap : Nat) : VR (Live (s.set id ob)) (μ.set id ⟨w.heap.size, 0, sz, cap⟩) (.ptr id 0 0) (.pointer (some ⟨w.heap.size, 0, none⟩)) := by
  simp only [VR, MM.set_same]
  exact ⟨live_new hid hd, by simp⟩

theorem sl_new (hid : s[id]? = some .dead) {ob : Ob} (hd : ob ≠ .dead) (sz : Nat) {len cap : Nat} (h : len ≤ cap) : VR (Live (s.set id ob)) (μ.set id ⟨w.heap.size, 0, sz, cap⟩) (.sl id 0 len none) (.slice (some ⟨w.heap.size, 0, none⟩) len cap) := by
  simp only [VR, MM.set_same]
  exact ⟨live_new hid hd, cap, _, rfl, fun _ => by simp, h, by omega, by omega⟩

theorem run_newVar' (e : TypeId) (v : Value) : (newVar e v).run P w = .ok ⟨w.heap.size, 0, none⟩ (w.alloc (.cells v.cells e)) := by
  simp [newVar, newRow, run_newObj_alloc]

theorem maxLen_big {n : Nat} (h : n ≤ 16777216) : n ≤ maxLen := by unfold maxLen; omega

theorem aval_alloc (hT : TOk P T) (hr : Rel μ s w) (hid : s[id]? = some .dead) {e : TypeId} (ho : o.op = .alloc e)
    (h : aval T id (.alloc e) t s k) : Out P o a id μ s w k := by
  simp only [aval] at h
  obtain ⟨ti, hti, h⟩ := (tyK_at _ _ _).1 h
  obtain ⟨info, d, hok⟩ := hT _ _ hti
  obtain ⟨hc, h⟩ := (andK_iff _ _).1 h
  have fin : ∀ z : Value, info.zero = some z → (execOp a.eval o).run P w = .ok (.value (.pointer (some ⟨w.heap.size, 0, none⟩))) (w.alloc (.cells z.cells e)) := by
    intro z hz
    simp [execOp, ho, Instr.alloc, zeroValue, typeInfo, hok.inf, hz, run_newVar']
  unfold zOb at h
  split at h
  case h_1 e' n ks hb =>
    obtain ⟨hd, hn, hsize, _, z, hz, hzc, _⟩ := hok.big _ _ _ hb
    have hzs : z.cells.size = n * ks.length := by
      have : z.cells.toList.length = n * ks.length := by rw [hzc, length_flatV, List.length_replicate]
      simpa using this
    exact ⟨_, _, _, h, OpOK.made hr hid (by simp) rfl (fin z hz) (OR.newRow (cap := n) (by simp) (maxLen_big hn) hzs (by
      rw [List.length_replicate, List.take_of_length_le (by simp [hzs]), hzc])) (ptr_new hid (by simp) _ _)⟩
  case h_2 hb =>
    simp [hb] at hc
    obtain ⟨z, hz, hzz⟩ := hok.z hc
    exact ⟨_, _, _, h, OpOK.made hr hid (by simp) rfl (fin z hz) (OR.newCells (zsok_VRL hzz) hid 0 0 e) (ptr_new hid (by simp) _ _)⟩

theorem aval_box (hT : TOk P T) (hr : Rel μ s w) (ht : VRL (Live s) μ t a.tmps.toList) (hid : s[id]? = some .dead) {e : TypeId} {x : Operand} (ho : o.op = .box e x)
    (h : aval T id (.box e x) t s k) : Out P o a id μ s w k := by
  simp only [aval] at h
  obtain ⟨ti, hti, h⟩ := (tyK_at _ _ _).1 h
  obtain ⟨info, d, hok⟩ := hT _ _ hti
  obtain ⟨v, h, hv⟩ := evK_sound ht h
  have fin : (execOp a.eval o).run P w = .ok (.value (.pointer (some ⟨w.heap.size, 0, none⟩))) (w.alloc (.cells (a.eval x).cells e)) := by
    simp [execOp, ho, Instr.box, run_newVar']
  by_cases harr : ∃ ks l, v = .arr ks l
  · obtain ⟨ks, l, rfl⟩ := harr
    simp only at h
    split at h
    case h_1 e' n ks' hb =>
      obtain ⟨hc, hkk⟩ := (andK_iff _ _).1 h
      simp only [Bool.and_eq_true, decide_eq_true_eq] at hc
      obtain ⟨hks, hl⟩ := hc
      subst hks
      clear h
      obtain ⟨hd, hn, hsize, _, z, hz, hzc, _⟩ := hok.big _ _ _ hb
      simp only [VR] at hv
      have hcv : (a.eval x).cells.toList = flatV ks l := by rw [hv]; simp [Value.cells]
      have hsz : (a.eval x).cells.size = n * ks.length := by
        have : (a.eval x).cells.toList.length = n * ks.length := by rw [hcv, length_flatV, hl]
        simpa using this
      exact ⟨_, _, _, hkk, OpOK.made hr hid (by simp) rfl fin (OR.newRow (cap := n) (Nat.le_of_eq hl) (maxLen_big hn) hsz (by
        rw [List.take_of_length_le (by simp [hsz, hl]), hcv])) (ptr_new hid (by simp) _ _)⟩
    case h_2 => exact h.elim
  · have h' : cellsK v fun c => andK (c.all AV.one) (k (.ptr id 0 0) (.set id (.cells 0 c)) (some (id, true))) := by
      cases v <;> first | exact h | exact absurd ⟨_, _, rfl⟩ harr
    obtain ⟨c, hc, h⟩ : ∃ c, (v = .agg c ∨ (v.one = true ∧ c = [v])) ∧ andK (c.all AV.one) (k (.ptr id 0 0) (.set id (.cells 0 c)) (some (id, true))) := by
      rcases (cellsK_iff _ _).1 h' with ⟨l, hl, h⟩ | ⟨h1, h⟩
      · exact ⟨l, .inl hl, h⟩
      · exact ⟨[v], .inr ⟨h1, rfl⟩, h⟩
    obtain ⟨_, h⟩ := (andK_iff _ _).1 h
    exact ⟨_, _, _, h, OpOK.made hr hid (by simp) rfl fin (OR.newCells (hv.cells hc) hid 0 0 e) (ptr_new hid (by simp) _ _)⟩

/-! ### parts put into zeros -/
theorem fill_over (place : Nat → Option (Nat × Nat)) (cells : Array Value) (i off size : Nat) (v : Value) (rest : List (Nat × Value)) (hp : place i = some (off, size)) (hs : v.cells.size = size) (hle : off + size ≤ cells.size) :
    Instr.fill place cells ((i, v) :: rest) = Instr.fill place (over cells.toList off v.cells.toList).toArray rest := by
  have key : ∀ (vs : List Value) (j : Nat) (cs : Array Value), off + j + vs.length ≤ cs.size → (vs.zipIdx j).foldl (fun cs (x : Value × Nat) => cs.setIfInBounds (off + x.2) x.1) cs = (over cs.toList (off + j) vs).toArray := by
    intro vs
    induction vs with
    | nil => intro j cs h; simp [over]
    | cons v vs ih =>
      intro j cs h
      simp only [List.length_cons] at h
      rw [List.zipIdx_cons, List.foldl_cons, ih (j + 1) _ (by simp; omega)]
      congr 1
      rw [Array.toList_setIfInBounds]
      have := over_cons cs.toList (off + j) v vs (by simp; omega)
      rw [← this, Nat.add_assoc]
  simp only [Instr.fill, hp]
  rw [if_neg (by simp [hs]; omega)]
  have := key v.cells.toList 0 cells (by simp [hs]; omega)
  simp only [Nat.add_zero] at this
  rw [← this, ← Array.foldl_toList]
  congr 1
  simp

theorem fillArr_sound {D : Nat → Prop} (ht : VRL D μ t a.tmps.toList) (es : Nat) : ∀ (ps : List (Nat × Operand)) (z : List AV) (zs : List Value) (K : List AV → Prop), VRL D μ z zs → fillArr t es ps z K →
    ∃ l ls, K l ∧ VRL D μ l ls ∧ Instr.fill (fun i => some (i * es, es)) zs.toArray (ps.map fun p => (p.1, a.eval p.2)) = some ls.toArray
  | [], z, zs, K, hz, h => ⟨z, zs, h, hz, by simp [Instr.fill]⟩
  | (i, x) :: ps, z, zs, K, hz, h => by
    simp only [fillArr] at h
    obtain ⟨v, h, hv⟩ := evK_sound ht h
    obtain ⟨cs, hcs, h⟩ : ∃ cs, (v = .agg cs ∨ (v.one = true ∧ cs = [v])) ∧ andK (cs.length == es && !(es == 0)) (overK z (i * es) cs fun z' => fillArr t es ps z' K) := by
      rcases (cellsK_iff _ _).1 h with ⟨l, hl, h⟩ | ⟨h1, h⟩
      · exact ⟨l, .inl hl, h⟩
      · exact ⟨[v], .inr ⟨h1, rfl⟩, h⟩
    obtain ⟨hc, h⟩ := (andK_iff _ _).1 h
    simp only [Bool.and_eq_true, beq_iff_eq, Bool.not_eq_true', beq_eq_false_iff_ne] at hc
    obtain ⟨hc, hpos⟩ := hc
    have hcells := hv.cells hcs
    rcases overK_iff' h with ⟨hn, _⟩ | ⟨_, hle, h⟩
    · subst hn; simp at hc; omega
    obtain ⟨l, ls, hK, hl, hf⟩ := fillArr_sound ht es ps _ _ K (hz.over hcells (i * es)) h
    refine ⟨l, ls, hK, hl, ?_⟩
    have hsz : (a.eval x).cells.size = es := by have := VRL.length hcells; simp at this; omega
    rw [List.map_cons, fill_over _ _ i (i * es) es _ _ rfl hsz (by have := VRL.length hz; simp; omega)]
    exact hf

theorem fillStruct_sound {D : Nat → Prop} (hT : TOk P T) (ht : VRL D μ t a.tmps.toList) (fs : List (Nat × Nat)) (place : Nat → Option (Nat × Nat)) (hplace : ∀ i f ti, fs[i]? = some f → T.at f.2 = some ti → place i = some (f.1, ti.size)) :
    ∀ (ps : List (Nat × Operand)) (z : List AV) (zs : List Value) (K : List AV → Prop), VRL D μ z zs → fillStruct t T fs ps z K →
    ∃ l ls, K l ∧ VRL D μ l ls ∧ Instr.fill place zs.toArray (ps.map fun p => (p.1, a.eval p.2)) = some ls.toArray
  | [], z, zs, K, hz, h => ⟨z, zs, h, hz, by simp [Instr.fill]⟩
  | (i, x) :: ps, z, zs, K, hz, h => by
    simp only [fillStruct] at h
    obtain ⟨f, hf, h⟩ := (nthK_iff _ _ _).1 h
    obtain ⟨ti, hti, h⟩ := (tyK_at _ _ _).1 h
    obtain ⟨v, h, hv⟩ := evK_sound ht h
    obtain ⟨cs, hcs, h⟩ : ∃ cs, (v = .agg cs ∨ (v.one = true ∧ cs = [v])) ∧ andK (cs.length == ti.size && !(ti.size == 0)) (overK z f.1 cs fun z' => fillStruct t T fs ps z' K) := by
      rcases (cellsK_iff _ _).1 h with ⟨l, hl, h⟩ | ⟨h1, h⟩
      · exact ⟨l, .inl hl, h⟩
      · exact ⟨[v], .inr ⟨h1, rfl⟩, h⟩
    obtain ⟨hc, h⟩ := (andK_iff _ _).1 h
    simp only [Bool.and_eq_true, beq_iff_eq, Bool.not_eq_true', beq_eq_false_iff_ne] at hc
    obtain ⟨hc, hpos⟩ := hc
    have hcells := hv.cells hcs
    rcases overK_iff' h with ⟨hn, h⟩ | ⟨_, hle, h⟩
    · subst hn; simp at hc; omega
    · obtain ⟨l, ls, hK, hl, hfill⟩ := fillStruct_sound hT ht fs place hplace ps _ _ K (hz.over hcells f.1) h
      refine ⟨l, ls, hK, hl, ?_⟩
      have hsz : (a.eval x).cells.size = ti.size := by have := VRL.length hcells; simp at this; omega
      rw [List.map_cons, fill_over _ _ i f.1 ti.size _ _ (hplace i f ti hf hti) hsz (by have := VRL.length hz; simp; omega)]
      exact hfill

theorem struct_field {ty : Nat} {ti : TI} {info : TypeInfo} {d : TypeDesc} (hok : TIok P ty ti info d) {fs : List (Nat × Nat)} (hk : ti.k = .struct fs) :
    ∃ F, d = .struct F ∧ fs = F.toList.map fun f => (f.offset, f.type) := by
  have := hok.kok
  rw [hk] at this
  cases d <;> simp [kokB] at this
  case struct F => exact ⟨F, rfl, this.symm⟩

theorem array_elem {ty : Nat} {ti : TI} {info : TypeInfo} {d : TypeDesc} (hok : TIok P ty ti info d) {n e : Nat} (hk : ti.k = .array n e) : d = .array n e := by
  have := hok.kok
  rw [hk] at this
  cases d <;> simp [kokB] at this
  rw [this.1, this.2]

theorem slice_elem {ty : Nat} {ti : TI} {info : TypeInfo} {d : TypeDesc} (hok : TIok P ty ti info d) {e : Nat} (hk : ti.k = .slice e) : d = .slice e := by
  have := hok.kok
  rw [hk] at this
  cases d <;> simp [kokB] at this
  rw [this]

end
end Go.AW

/- The engine, 8: the other operations; all operations together. -/
namespace Go.AW
open Go
set_option linter.unusedVariables false
set_option linter.unusedSimpArgs false

section
variable {P : Program} {T : TT} {μ : MM} {s : List Ob} {w : World} {t : List AV} {a : Act} {id : Nat} {o : Oper} {k : AV → Eff → FP → Prop}

theorem info_size (hT : TOk P T) {e : Nat} {te : TI} (he : T.at e = some te) : ∃ info, P.info? e = some info ∧ info.size = te.size := by
  obtain ⟨info, d, hok⟩ := hT _ _ he
  exact ⟨info, hok.inf, hok.size⟩

theorem aval_build (hT : TOk P T) (hr : Rel μ s w) (ht : VRL (Live s) μ t a.tmps.toList) {ty : TypeId} {parts : Array (Nat × Operand)} (ho : o.op = .build ty parts)
    (h : aval T id (.build ty parts) t s k) : Out P o a id μ s w k := by
  simp only [aval] at h
  obtain ⟨ti, hti, h⟩ := (tyK_at _ _ _).1 h
  obtain ⟨info, d, hok⟩ := hT _ _ hti
  have hparts : (parts.map fun (i, x) => (i, a.eval x)).toList = parts.toList.map fun p => (p.1, a.eval p.2) := by simp
  have fin : ∀ cells : List Value, P.built ty (parts.toList.map fun p => (p.1, a.eval p.2)) = some cells.toArray → (execOp a.eval o).run P w = .ok (.value (.agg cells.toArray)) w := by
    intro cells hb
    have := run_build (P := P) w ty (parts.map fun (i, x) => (i, a.eval x)) cells.toArray (by rw [hparts]; exact hb)
    simp [execOp, ho, this]
  split at h
  case h_1 fs hk =>
    obtain ⟨hz, h⟩ := (andK_iff _ _).1 h
    simp only [beq_iff_eq] at hz
    obtain ⟨z, hzz, hzok⟩ := hok.z hz
    obtain ⟨F, hd, hF⟩ := struct_field hok hk
    have hp := hok.parts
    rw [hk] at hp
    simp only [List.all_eq_true] at hp
    -- the fields' places
    have hm : F.toList.mapM (fun f => (P.info? f.type).map fun i => (f.offset, i.size)) = some (fs.map fun f => (f.1, ((P.info? f.2).map (·.size)).getD 0)) := by
      rw [hF] at hp ⊢
      generalize F.toList = L at hp
      induction L with
      | nil => simp
      | cons f L ih =>
        have h1 := hp (f.offset, f.type) (by simp)
        obtain ⟨inf, hinf⟩ := Option.isSome_iff_exists.1 h1
        have ih := ih (fun x hx => hp x (by simp only [List.map_cons, List.mem_cons]; exact .inr hx))
        simp only at hinf
        simp [List.mapM_cons, hinf, ih]
    obtain ⟨l, ls, hK, hl, hfill⟩ := fillStruct_sound (P := P) hT ht fs (fun i => (fs.map fun f => (f.1, ((P.info? f.2).map (·.size)).getD 0))[i]?) (by
      intro i f tf hf htf
      obtain ⟨inf, hi1, hi2⟩ := info_size hT htf
      simp [hf, hi1, hi2]) _ _ z.cells.toList _ (zsok_VRL hzok) h
    refine ⟨_, _, _, hK, OpOK.pure hr (fin ls ?_) (by simp only [VR]; exact ⟨ls, rfl, hl⟩)⟩
    unfold Program.built
    simp only [hok.inf, hok.und, hd, hzz, hm]
    simpa using hfill
  case h_2 n e hk =>
    have hd := array_elem hok hk
    split at h
    case h_1 q n' ks hb =>
      obtain ⟨hd', hn, hsize, _, z, hz, hzc, _⟩ := hok.big _ _ _ hb
      split at h
      case h_1 hpl =>
        refine ⟨_, _, _, h, OpOK.pure hr (fin (flatV ks (List.replicate n' (ks.map fun _ => 0))) ?_) (by simp [VR])⟩
        have hp := hok.parts
        rw [hk] at hp
        obtain ⟨ie, hie⟩ := Option.isSome_iff_exists.1 hp
        unfold Program.built
        simp only [hok.inf, hok.und, hd, hz, hpl, hie, List.map_nil, Instr.fill, ← hzc]
      case h_2 => exact h.elim
    case h_2 =>
      obtain ⟨hz, h⟩ := (andK_iff _ _).1 h
      simp only [beq_iff_eq] at hz
      obtain ⟨z, hzz, hzok⟩ := hok.z hz
      obtain ⟨te, hte, h⟩ := (tyK_at _ _ _).1 h
      obtain ⟨ie, hie, hies⟩ := info_size hT hte
      obtain ⟨l, ls, hK, hl, hfill⟩ := fillArr_sound ht te.size _ _ z.cells.toList _ (zsok_VRL hzok) h
      refine ⟨_, _, _, hK, OpOK.pure hr (fin ls ?_) (by simp only [VR]; exact ⟨ls, rfl, hl⟩)⟩
      unfold Program.built
      simp only [hok.inf, hok.und, hd, hzz, hie, hies]
      simpa using hfill
  case h_3 => exact h.elim

theorem VRL_rep {D : Nat → Prop} {z : List AV} {zs : Array Value} (h : VRL D μ z zs.toList) (hz : z ≠ []) (len : Nat) :
    VRL D μ (List.replicate len z).flatten ((Array.range (len * zs.size)).map (zs[· % zs.size]!)).toList := by
  have hzl : zs.size = z.length := by have := VRL.length h; simpa using this
  have hpos : 0 < z.length := List.length_pos_iff.2 hz
  have hfl : ∀ n, ((List.replicate n z).flatten).length = n * z.length := by intro n; simp
  have hget : ∀ n x, x < n * z.length → (List.replicate n z).flatten[x]? = z[x % z.length]? := by
    intro n
    induction n with
    | zero => intro x hx; simp at hx
    | succ n ih =>
      intro x hx
      rw [List.replicate_succ, List.flatten_cons]
      by_cases hlt : x < z.length
      · rw [List.getElem?_append_left hlt, Nat.mod_eq_of_lt hlt]
      · rw [List.getElem?_append_right (by omega), ih _ (by rw [Nat.succ_mul] at hx; omega)]
        congr 1
        rw [Nat.mod_eq_sub_mod (a := x) (by omega)]
  rw [VRL_iff]
  refine ⟨by simp [hzl], fun i av v ha hv => ?_⟩
  have hi : i < len * z.length := by have := (List.getElem?_eq_some_iff.1 ha).1; rw [hfl] at this; exact this
  rw [hget _ _ hi] at ha
  have him : i % zs.size < zs.size := Nat.mod_lt _ (by omega)
  have hv' : zs[i % zs.size]! = v := by
    simp [hzl, hi] at hv
    simpa [hzl] using hv
  rw [getElem!_pos zs _ him] at hv'
  exact (VRL_iff.1 h).2 (i % z.length) av v ha (by rw [← hzl, ← hv']; simp [him])

theorem fill_size {place : Nat → Option (Nat × Nat)} : ∀ (ps : List (Nat × Value)) (cs cs' : Array Value), Instr.fill place cs ps = some cs' → cs'.size = cs.size
  | [], cs, cs', h => by simp [Instr.fill] at h; rw [h]
  | (i, v) :: ps, cs, cs', h => by
    simp only [Instr.fill] at h
    split at h
    · simp at h
    · rename_i off size hp
      split at h
      · simp at h
      · rw [fill_size ps _ _ h]
        have : ∀ (l : List (Value × Nat)) (cs : Array Value), (l.foldl (fun cs (x : Value × Nat) => cs.setIfInBounds (off + x.2) x.1) cs).size = cs.size := by
          intro l
          induction l with
          | nil => intro cs; rfl
          | cons x l ih => intro cs; rw [List.foldl_cons, ih]; simp
        rw [← Array.foldl_toList]
        exact this _ _

theorem aval_buildSlice (hT : TOk P T) (hr : Rel μ s w) (ht : VRL (Live s) μ t a.tmps.toList) (hid : s[id]? = some .dead) {ty : TypeId} {len : Nat} {parts : Array (Nat × Operand)} (ho : o.op = .buildSlice ty len parts)
    (h : aval T id (.buildSlice ty len parts) t s k) : Out P o a id μ s w k := by
  simp only [aval] at h
  obtain ⟨ti, hti, h⟩ := (tyK_at _ _ _).1 h
  obtain ⟨info, d, hok⟩ := hT _ _ hti
  have hparts : (parts.map fun (i, x) => (i, a.eval x)).toList = parts.toList.map fun p => (p.1, a.eval p.2) := by simp
  split at h
  case h_2 => exact h.elim
  case h_1 e hk =>
  have hd := slice_elem hok hk
  obtain ⟨te, hte, h⟩ := (tyK_at _ _ _).1 h
  obtain ⟨ie, de, hoke⟩ := hT _ _ hte
  obtain ⟨hc, h⟩ := (andK_iff _ _).1 h
  simp only [Bool.and_eq_true, decide_eq_true_eq, Bool.not_eq_true', beq_eq_false_iff_ne, beq_iff_eq] at hc
  obtain ⟨⟨⟨hbig, hlen⟩, hne⟩, hzl⟩ := hc
  obtain ⟨z, hz, hzok⟩ := hoke.z hzl
  have hzs : VRL (Live s) μ te.z z.cells.toList := zsok_VRL hzok
  have hzsz : z.cells.size = te.size := by have := VRL.length hzs; simp at this; omega
  have hrep := VRL_rep hzs (by intro e'; rw [e'] at hzl; simp at hzl; omega) len
  obtain ⟨l, ls, hK, hl, hfill⟩ := fillArr_sound ht te.size _ _ _ _ hrep h
  have hlsl : ls.length = len * te.size := by
    have h1 := VRL.length hl
    have h2 := VRL.length hrep
    have h3 := @fill_size (fun i => some (i * te.size, te.size))
    have := h3 _ _ _ hfill
    simp at this
    rw [this, hzsz]
  have fin : (execOp a.eval o).run P w = .ok (.value (.slice (some ⟨w.heap.size, 0, none⟩) len len)) (w.alloc (.cells ls.toArray e)) := by
    have hf : Instr.fill (fun i => some (i * te.size, te.size)) (Array.map (fun x => z.cells[x % z.cells.size]!) (Array.range (len * te.size))) (List.map (fun x => (x.fst, a.eval x.snd)) parts.toList) = some ls.toArray := by
      rw [← hfill, hzsz]
    simp only [execOp, ho, Instr.buildSlice, Sem.run_bind, run_underlying hok.und, hd, Result.andThen_ok, sizeOf, typeInfo, hoke.inf]
    simp [run_newObj_alloc, newRow, hoke.inf, hoke.size, Nat.not_lt.2 hbig, typeInfo, zeroValue, hz]
    split
    · rename_i h0
      have hf0 : Instr.fill (fun i => some (i * te.size, te.size)) (Array.map (fun x => (default : Value)) (Array.range (len * te.size))) (List.map (fun x => (x.fst, a.eval x.snd)) parts.toList) = some ls.toArray := by
        have e1 : ∀ f : Nat → Value, Array.map f (Array.range 0) = #[] := fun f => Array.eq_empty_of_size_eq_zero (by rw [Array.size_map, Array.size_range])
        rw [← hf, h0, e1, e1]
      simp [hf0, run_newObj_alloc]
    · simp [hf, run_newObj_alloc]
  split at hK
  case h_1 ks hks =>
    obtain ⟨hksl, z', hz', hzr⟩ := hoke.ks _ hks
    obtain ⟨rs, hK, hrl, hrs⟩ := rowsK_sound ks len l _ hK
    refine ⟨_, _, _, hK, OpOK.made hr hid (by simp) rfl fin (OR.newRow (cap := len) (Nat.le_of_eq hrl) (maxLen_big hlen) (by simp [hlsl, hksl]) ?_) (sl_new hid (by simp) _ (Nat.le_refl _))⟩
    rw [hrl]; exact hrs _ _ _ hl
  case h_2 =>
    obtain ⟨_, hK⟩ := (andK_iff _ _).1 hK
    exact ⟨_, _, _, hK, OpOK.made hr hid (by simp) rfl fin (OR.newCells (by simpa using hl) hid te.size len e) (sl_new hid (by simp) _ (Nat.le_refl _))⟩

end
end Go.AW
