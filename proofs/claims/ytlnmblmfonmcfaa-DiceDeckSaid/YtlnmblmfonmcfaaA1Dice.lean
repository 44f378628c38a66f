/- Part of the proof of a law of the seat: its functions, walked. No condition. -/
import Derived.Test.YtlnmblmfonmcfaaA1T
import Derived.Test.YtlnmblmfonmcfaaEngC
namespace Go.AW.A1
open Go Go.AW Go.Proofs
set_option maxRecDepth 100000
set_option linter.unusedVariables false
theorem hP : Try.prog.follows .mixedOrders = true := by kernel_rfl

def mixI (x : Int) : Int :=
  let a := Z.mul .u64 (Z.xor .u64 x (Z.shr .u64 x 30)) 13787848793156543929
  let b := Z.mul .u64 (Z.xor .u64 a (Z.shr .u64 a 27)) 10723151780598845931
  Z.xor .u64 b (Z.shr .u64 b 31)

theorem mix (x : Int) (s : List Ob) (Q : AV → List Ob → Prop) (h : ∀ v, v = mixI x → Q (.int .u64 v) s) : AC Try.prog 18 [.int .u64 x] s Q := by
  refine AC_pure rfl ?_
  refine AC_body tok 0 Try.func18 rfl (by kernel_rfl) ?_
  conv => whnf
  exact ⟨rfl, h _ rfl⟩

/-- one more number mixed in -/
def linkI (x n : Int) : Int := mixI (Z.add .u64 x (IntKind.u64.wrap n))

theorem chain2 {x a b : Int} {s : List Ob} {e : TypeId} {i : Nat} (hs : s[i]? = some (.row true e [.ik .i64] [[a], [b]])) {Q : AV → List Ob → Prop} (h : ∀ v, v = linkI (linkI (mixI x) a) b → Q (.int .u64 v) s) :
    AC Try.prog 37 [.int .u64 x, .sl i 0 2 none] s Q := by
  refine AC_read (args' := [.int .u64 x, .sl 0 0 2 none]) (L := [.row true e [.ik .i64] [[a], [b]]]) [i] (by simp) rfl rfl (by rintro (_ | i') j ob h1 h2 <;> simp at h1 h2; subst h1 h2; exact hs) ?_
  refine AC_body tok 3 Try.func37 rfl (by kernel_rfl) ?_
  conv => whnf
  refine mix _ _ _ (fun v1 h1 => ?_)
  conv => whnf
  refine mix _ _ _ (fun v2 h2 => ?_)
  conv => whnf
  refine mix _ _ _ (fun v3 h3 => ?_)
  conv => whnf
  exact ⟨rfl, rfl, h _ (by subst h1 h2 h3; rfl)⟩

theorem chain1 {x a : Int} {s : List Ob} {e : TypeId} {i : Nat} (hs : s[i]? = some (.row true e [.ik .i64] [[a]])) {Q : AV → List Ob → Prop} (h : ∀ v, v = linkI (mixI x) a → Q (.int .u64 v) s) :
    AC Try.prog 37 [.int .u64 x, .sl i 0 1 none] s Q := by
  refine AC_read (args' := [.int .u64 x, .sl 0 0 1 none]) (L := [.row true e [.ik .i64] [[a]]]) [i] (by simp) rfl rfl (by rintro (_ | i') j ob h1 h2 <;> simp at h1 h2; subst h1 h2; exact hs) ?_
  refine AC_body tok 3 Try.func37 rfl (by kernel_rfl) ?_
  conv => whnf
  refine mix _ _ _ (fun v1 h1 => ?_)
  conv => whnf
  refine mix _ _ _ (fun v2 h2 => ?_)
  conv => whnf
  exact ⟨rfl, rfl, h _ (by subst h1 h2; rfl)⟩

def drawI (x a b : Int) : Int := linkI (linkI (mixI x) a) b

theorem draw {x a b : Int} {s : List Ob} {Q : AV → List Ob → Prop} (h : ∀ v, v = drawI x a b → Q (.int .u64 v) s) : AC Try.prog 20 [.int .u64 x, .int .i64 a, .int .i64 b] s Q := by
  refine AC_pure rfl ?_
  refine AC_body tok 0 Try.func20 rfl (by kernel_rfl) ?_
  conv => whnf
  refine chain2 rfl (fun v1 h1 => ?_)
  conv => whnf
  exact ⟨rfl, h _ h1⟩

theorem mul64 {a b : Int} (ha : 0 ≤ a) (ha' : a < 18446744073709551616) (hb : 0 ≤ b) (hb' : b < 18446744073709551616) {s : List Ob} {Q : AV → List Ob → Prop}
    (h : ∀ v u, v = a * b / 18446744073709551616 → u = a * b % 18446744073709551616 → Q (.tup [.int .u64 v, .int .u64 u]) s) : AC Try.prog 38 [.int .u64 a, .int .u64 b] s Q := by
  refine AC_pure rfl ?_
  refine AC_body tok 0 Try.func38 rfl (by kernel_rfl) ?_
  conv => whnf
  refine ⟨rfl, Qeq ?_ (h _ _ rfl rfl)⟩
  rw [Z.mask_u (a := a) (m := 4294967295) 32 rfl (by omega) ha ha', Z.mask_u (a := b) (m := 4294967295) 32 rfl (by omega) hb hb', Z.shr_eq (a := a) (k := 32) 32 rfl, Z.shr_eq (a := b) (k := 32) 32 rfl]
  simp only [Z.add, Z.mul, Z.mask_w _ 4294967295 32 rfl (by omega), Z.shr_eq (k := 32) 32 (show min (Int.toNat 32) IntKind.u64.bits = 32 from rfl)]
  simp only [Z.wrap_u]
  obtain ⟨h1, h2⟩ := Z.hi_eq ha ha' hb hb'
  simp only [AV.tup.injEq, List.cons.injEq, AV.int.injEq, true_and, and_true]
  rw [h1]
  have p1 := Z.half_mul (a := a / 4294967296) (b := b / 4294967296) (by omega) (by omega) (by omega) (by omega)
  have p2 := Z.half_mul (a := a / 4294967296) (b := b % 4294967296) (by omega) (by omega) (by omega) (by omega)
  have p3 := Z.half_mul (a := a % 4294967296) (b := b / 4294967296) (by omega) (by omega) (by omega) (by omega)
  have p4 := Z.half_mul (a := a % 4294967296) (b := b % 4294967296) (by omega) (by omega) (by omega) (by omega)
  simp only [show (2 : Int) ^ 32 = 4294967296 from rfl]
  generalize (a / 4294967296) * (b / 4294967296) = s at *
  generalize (a / 4294967296) * (b % 4294967296) = q at *
  generalize (a % 4294967296) * (b / 4294967296) = r at *
  generalize (a % 4294967296) * (b % 4294967296) = p at *
  omega
theorem or_add {X Y n : Nat} (hY : Y < 2 ^ n) : (X * 2 ^ n ||| Y) = X * 2 ^ n + Y := by
  rw [Nat.mul_comm]; exact (Nat.two_pow_add_eq_or_of_lt hY X).symm
theorem mulR {a b : Int} (ha : 0 ≤ a) (ha' : a < 18446744073709551616) (hb : 0 ≤ b) (hb' : b < 18446744073709551616) {s : List Ob} {Q : AV → List Ob → Prop}
    (h : ∀ v u, v = a * b / 18446744073709551616 → u = a * b % 18446744073709551616 → Q (.tup [.int .u64 v, .int .u64 u]) s) : AC Try.prog 35 [.int .u64 a, .int .u64 b] s Q := by
  refine AC_pure rfl ?_
  refine AC_body tok 0 Try.func35 rfl (by kernel_rfl) ?_
  conv => whnf
  refine ⟨rfl, Qeq ?_ (h _ _ rfl rfl)⟩
  rw [Z.mask_u (a := a) (m := 4294967295) 32 rfl (by omega) ha ha', Z.mask_u (a := b) (m := 4294967295) 32 rfl (by omega) hb hb', Z.shr_eq (a := a) (k := 32) 32 rfl, Z.shr_eq (a := b) (k := 32) 32 rfl]
  simp only [Z.add, Z.mul, Z.mask_w _ 4294967295 32 rfl (by omega), Z.shr_eq (k := 32) 32 (show min (Int.toNat 32) IntKind.u64.bits = 32 from rfl)]
  obtain ⟨h1, h2⟩ := Z.hi_eq ha ha' hb hb'
  simp only [AV.tup.injEq, List.cons.injEq, AV.int.injEq, true_and, and_true]
  rw [h1]
  have p1 := Z.half_mul (a := a / 4294967296) (b := b / 4294967296) (by omega) (by omega) (by omega) (by omega)
  have p2 := Z.half_mul (a := a / 4294967296) (b := b % 4294967296) (by omega) (by omega) (by omega) (by omega)
  have p3 := Z.half_mul (a := a % 4294967296) (b := b / 4294967296) (by omega) (by omega) (by omega) (by omega)
  have p4 := Z.half_mul (a := a % 4294967296) (b := b % 4294967296) (by omega) (by omega) (by omega) (by omega)
  simp only [show (2 : Int) ^ 32 = 4294967296 from rfl]
  rw [h2]
  generalize (a / 4294967296) * (b / 4294967296) = s at *
  generalize (a / 4294967296) * (b % 4294967296) = q at *
  generalize (a % 4294967296) * (b / 4294967296) = r at *
  generalize (a % 4294967296) * (b % 4294967296) = p at *
  refine ⟨by simp only [Z.wrap_u]; omega, ?_⟩
  have e : ∀ X Y : Int, 0 ≤ Y → Y < 4294967296 → 0 ≤ X → Z.or .u64 (Z.shl .u64 X 32) Y = X * 4294967296 % 18446744073709551616 + Y := by
    intro X Y h1 h2 h3
    have h4 : Z.shl .u64 X 32 = X * 4294967296 % 18446744073709551616 := Z.wrap_u _
    rw [h4, Z.or_u (by omega) (by omega) (by omega) (by omega)]
    have h5 : (X * 4294967296 % 18446744073709551616).toNat = (X % 4294967296).toNat * 2 ^ 32 := by omega
    have h6 : Y.toNat < 2 ^ 32 := by omega
    rw [h5, or_add h6]
    omega
  rw [e]
  · simp only [Z.wrap_u]; omega
  · simp only [Z.wrap_u]; omega
  · simp only [Z.wrap_u]; omega
  · simp only [Z.wrap_u]; omega

theorem bit_u {x i : Int} (hx : 0 ≤ x) (hx' : x < 18446744073709551616) (hi : 0 ≤ i) (hi' : i < 64) : Z.and .u64 (Z.shr .u64 x i) 1 = ((x.toNat.testBit i.toNat).toNat : Int) := by
  rw [Z.shr_eq i.toNat (show min i.toNat 64 = i.toNat by omega)]
  have h0 : (0 : Int) < 2 ^ i.toNat := Int.pow_pos (by omega)
  have h1 : 0 ≤ x / 2 ^ i.toNat := Int.ediv_nonneg hx (Int.le_of_lt h0)
  have h2 : x / 2 ^ i.toNat ≤ x := Int.ediv_le_self _ hx
  rw [Z.mask_u (m := 1) 1 rfl (by omega) h1 (by omega), Nat.toNat_testBit]
  have : x = (x.toNat : Int) := (Int.toNat_of_nonneg hx).symm
  rw [this]
  simp only [Int.toNat_natCast]
  norm_cast
theorem bitx (p q : Bool) : p.toNat ^^^ q.toNat = (p ^^ q).toNat := by cases p <;> cases q <;> rfl
theorem toNat_lt2 (p : Bool) : p.toNat < 2 := by cases p <;> decide
theorem grow_u {V : Nat} {i out : Int} (hi : 0 ≤ i) (hi' : i < 64) (ho : out = ((V % 2 ^ i.toNat : Nat) : Int)) {b : Int} (hb : b = ((V.testBit i.toNat).toNat : Int)) :
    Z.add .u64 out (Z.shl .u64 b i) = ((V % 2 ^ (i + 1).toNat : Nat) : Int) := by
  have e : (i + 1).toNat = i.toNat + 1 := by omega
  have h2 : V % 2 ^ (i.toNat + 1) = V % 2 ^ i.toNat + 2 ^ i.toNat * (V.testBit i.toNat).toNat := by rw [Nat.toNat_testBit]; exact Nat.mod_pow_succ
  have h3 : V % 2 ^ (i.toNat + 1) < 2 ^ 64 := Nat.lt_of_lt_of_le (Nat.mod_lt _ (Nat.two_pow_pos _)) (Nat.pow_le_pow_right (by omega) (by omega))
  have h4 : Z.shl .u64 b i = ((2 ^ i.toNat * (V.testBit i.toNat).toNat : Nat) : Int) := by
    unfold Z.shl
    rw [show min i.toNat IntKind.u64.bits = i.toNat by (show min i.toNat 64 = _; omega), hb]
    have : (((V.testBit i.toNat).toNat : Int) * 2 ^ i.toNat) = ((2 ^ i.toNat * (V.testBit i.toNat).toNat : Nat) : Int) := by rw [Nat.mul_comm]; norm_cast
    rw [this, Z.cast_lt (by omega)]
  rw [h4, ho, e, h2]
  have : Z.add .u64 ((V % 2 ^ i.toNat : Nat) : Int) ((2 ^ i.toNat * (V.testBit i.toNat).toNat : Nat) : Int) = IntKind.u64.wrap ((V % 2 ^ i.toNat + 2 ^ i.toNat * (V.testBit i.toNat).toNat : Nat) : Int) := by unfold Z.add; norm_cast
  rw [this, Z.cast_lt (by omega)]

/-- **shifted**: bit by bit -/
theorem shifted {x k : Int} (hx : 0 ≤ x) (hx' : x < 18446744073709551616) (hk : 0 ≤ k) (hk' : k < 64) {s : List Ob} {Q : AV → List Ob → Prop}
    (hQ : ∀ v, v = ((x.toNat ^^^ x.toNat >>> k.toNat : Nat) : Int) → Q (.int .u64 v) s) : AC Try.prog 36 [.int .u64 x, .int .i64 k] s Q := by
  refine AC_pure rfl ?_
  refine AC_body tok 0 Try.func36 rfl (by kernel_rfl) ?_
  conv => whnf
  have hX : x.toNat < 2 ^ 64 := by omega
  have hlt : x.toNat ^^^ x.toNat >>> k.toNat < 2 ^ 64 := Nat.xor_lt_two_pow hX (Nat.lt_of_le_of_lt (Nat.shiftRight_le _ _) hX)
  refine ALs.inv (ι := Nat × Int × Int) tok 0 (keepN 7) (fun p => p.2.1 + p.1 = 64 ∧ p.2.2 = (((x.toNat ^^^ x.toNat >>> k.toNat) % 2 ^ p.2.1.toNat : Nat) : Int) ∧ 0 ≤ p.2.1) (fun p => p.1)
    (fun p => [.int .u64 x, .int .i64 k, .junk, .junk, .int .u64 0, .int .u64 p.2.2, .int .i64 p.2.1] ++ junks 27) (fun _ => []) (fun _ => ()) (64, 0, 0) ⟨by rfl, by simp [Nat.mod_one], by simp⟩ rfl rfl rfl ?_
  rintro ⟨n, i, out⟩ ⟨h1, h2, h3⟩
  dsimp only at h1 h2 h3
  conv => whnf
  refine ifP (fun h => ?_) (fun h => ?_)
  · dsimp only at h
    conv => whnf
    refine andP h3 ?_
    conv => whnf
    have e1 : Z.add .i64 i 1 = i + 1 := Z.wrap_iid (by omega) (by omega)
    have e2 : Z.add .i64 i k = i + k := Z.wrap_iid (by omega) (by omega)
    have hstep : ∀ b : Int, b = (((x.toNat ^^^ x.toNat >>> k.toNat).testBit i.toNat).toNat : Int) → Z.add .u64 out (Z.shl .u64 b i) = (((x.toNat ^^^ x.toNat >>> k.toNat) % 2 ^ (Z.add .i64 i 1).toNat : Nat) : Int) := by
      intro b hb
      rw [e1]
      exact grow_u h3 h h2 hb
    refine ifP (fun h => ?_) (fun h => ?_)
    · conv => whnf
      dsimp only at h
      refine andP (by show 0 ≤ Z.add .i64 i k; omega) ?_
      conv => whnf
      refine andP h3 ?_
      conv => whnf
      refine ⟨(n - 1, _, _), rfl, rfl, rfl, ?_, ?_, hstep _ ?_, ?_⟩
      · show n - 1 < n; omega
      · show Z.add .i64 i 1 + ((n - 1 : Nat) : Int) = 64; omega
      · dsimp only
        rw [e2, bit_u hx hx' h3 (by omega), bit_u hx hx' (i := i + k) (by omega) (by omega), Z.xor_u (by omega) (by have := toNat_lt2 (x.toNat.testBit i.toNat); omega) (by omega) (by have := toNat_lt2 (x.toNat.testBit (i + k).toNat); omega)]
        simp only [Int.toNat_natCast]
        rw [bitx, Nat.testBit_xor, Nat.testBit_shiftRight, show (i + k).toNat = k.toNat + i.toNat by omega]
      · show 0 ≤ Z.add .i64 i 1; omega
    · conv => whnf
      dsimp only at h
      refine andP h3 ?_
      conv => whnf
      refine ⟨(n - 1, _, _), rfl, rfl, rfl, ?_, ?_, hstep _ ?_, ?_⟩
      · show n - 1 < n; omega
      · show Z.add .i64 i 1 + ((n - 1 : Nat) : Int) = 64; omega
      · dsimp only
        rw [bit_u hx hx' h3 (by omega), Nat.testBit_xor, Nat.testBit_shiftRight]
        have : x.toNat.testBit (k.toNat + i.toNat) = false := Nat.testBit_lt_two_pow (Nat.lt_of_lt_of_le hX (Nat.pow_le_pow_right (by omega) (by omega)))
        rw [this, Bool.xor_false]
      · show 0 ≤ Z.add .i64 i 1; omega
  · conv => whnf
    have : i = 64 := by dsimp only at h; omega
    subst this
    refine ⟨rfl, hQ _ ?_⟩
    dsimp only
    rw [h2, show Int.toNat 64 = 64 from rfl, Nat.mod_eq_of_lt hlt]

theorem shr_u {x k : Int} (hx : 0 ≤ x) (hk : 0 ≤ k) (hk' : k < 64) : Z.shr .u64 x k = ((x.toNat >>> k.toNat : Nat) : Int) := by
  rw [Z.shr_eq k.toNat (show min k.toNat 64 = k.toNat by omega), Nat.shiftRight_eq_div_pow]
  have : x = (x.toNat : Int) := (Int.toNat_of_nonneg hx).symm
  rw [this]
  simp only [Int.toNat_natCast]
  norm_cast
theorem xs_u {x k : Int} (hx : 0 ≤ x) (hx' : x < 18446744073709551616) (hk : 0 ≤ k) (hk' : k < 64) : ((x.toNat ^^^ x.toNat >>> k.toNat : Nat) : Int) = Z.xor .u64 x (Z.shr .u64 x k) := by
  rw [shr_u hx hk hk', Z.xor_u hx hx' (Int.natCast_nonneg _) (by have := Nat.shiftRight_le x.toNat k.toNat; generalize x.toNat >>> k.toNat = z at *; omega), Int.toNat_natCast]
theorem xor_lo (x y : Int) : 0 ≤ Z.xor .u64 x y := Z.wrap_u_lo _
theorem xor_hi (x y : Int) : Z.xor .u64 x y < 18446744073709551616 := Z.wrap_u_hi _

theorem mixR {x : Int} (hx : 0 ≤ x) (hx' : x < 18446744073709551616) {s : List Ob} {Q : AV → List Ob → Prop} (h : ∀ v, v = mixI x → Q (.int .u64 v) s) : AC Try.prog 19 [.int .u64 x] s Q := by
  refine AC_pure rfl ?_
  refine AC_body tok 0 Try.func19 rfl (by kernel_rfl) ?_
  conv => whnf
  refine shifted hx hx' (by omega) (by omega) (fun v1 h1 => ?_)
  rw [xs_u hx hx' (by omega) (by omega)] at h1
  conv => whnf
  refine mulR (by rw [h1]; exact xor_lo _ _) (by rw [h1]; exact xor_hi _ _) (by omega) (by omega) (fun v2 u2 _ h2 => ?_)
  rw [← Z.wrap_u] at h2
  conv => whnf
  have l2 : 0 ≤ u2 := by rw [h2]; exact Z.wrap_u_lo _
  have g2 : u2 < 18446744073709551616 := by rw [h2]; exact Z.wrap_u_hi _
  refine shifted l2 g2 (by omega) (by omega) (fun v3 h3 => ?_)
  rw [xs_u l2 g2 (by omega) (by omega)] at h3
  conv => whnf
  refine mulR (by rw [h3]; exact xor_lo _ _) (by rw [h3]; exact xor_hi _ _) (by omega) (by omega) (fun v4 u4 _ h4 => ?_)
  rw [← Z.wrap_u] at h4
  conv => whnf
  have l4 : 0 ≤ u4 := by rw [h4]; exact Z.wrap_u_lo _
  have g4 : u4 < 18446744073709551616 := by rw [h4]; exact Z.wrap_u_hi _
  refine shifted l4 g4 (by omega) (by omega) (fun v5 h5 => ?_)
  rw [xs_u l4 g4 (by omega) (by omega)] at h5
  conv => whnf
  exact ⟨rfl, h _ (by subst h1 h2 h3 h4 h5; rfl)⟩

theorem drawR {x a b : Int} (hx : 0 ≤ x) (hx' : x < 18446744073709551616) {s : List Ob} {Q : AV → List Ob → Prop} (h : ∀ v, v = drawI x a b → Q (.int .u64 v) s) : AC Try.prog 21 [.int .u64 x, .int .i64 a, .int .i64 b] s Q := by
  refine AC_pure rfl ?_
  refine AC_body tok 0 Try.func21 rfl (by kernel_rfl) ?_
  conv => whnf
  refine mixR hx hx' (fun v1 h1 => ?_)
  conv => whnf
  refine mixR (Z.wrap_u_lo _) (Z.wrap_u_hi _) (fun v2 h2 => ?_)
  conv => whnf
  refine mixR (Z.wrap_u_lo _) (Z.wrap_u_hi _) (fun v3 h3 => ?_)
  conv => whnf
  exact ⟨rfl, h _ (by subst h1 h2 h3; rfl)⟩

def belowI (x n : Int) : Int := if n < 1 ∨ 2147483648 < n then 0 else x * n / 18446744073709551616

theorem belowI_ok {x n : Int} (hx : 0 ≤ x) (hx' : x < 18446744073709551616) (h1 : ¬n < 1) (h2 : ¬n > 2147483648) : IntKind.i64.wrap (x * IntKind.u64.wrap n / 18446744073709551616) = belowI x n := by
  rw [Z.wrap_uid (by omega) (by omega)]
  unfold belowI
  rw [if_neg (by omega)]
  have h3 : 0 ≤ x * n := Int.mul_nonneg hx (by omega)
  have h4 : x * n ≤ 18446744073709551615 * 2147483648 := Int.mul_le_mul (by omega) (by omega) (by omega) (by omega)
  exact Z.wrap_iid (by omega) (by omega)

theorem below {x n : Int} (hx : 0 ≤ x) (hx' : x < 18446744073709551616) {s : List Ob} {Q : AV → List Ob → Prop} (h : ∀ v, v = belowI x n → Q (.int .i64 v) s) : AC Try.prog 22 [.int .u64 x, .int .i64 n] s Q := by
  refine AC_pure rfl ?_
  refine AC_body tok 0 Try.func22 rfl (by kernel_rfl) ?_
  conv => whnf
  refine ifI (fun h1 => ?_) (fun h1 => ?_)
  · have h1 : ¬n < 1 := by simpa using h1
    conv => whnf
    rw [decide_eq_false h1]
    conv => whnf
    refine ifP (fun h2 => ?_) (fun h2 => ?_)
    · conv => whnf
      refine ⟨rfl, h _ ?_⟩
      unfold belowI; rw [if_pos (by omega)]
    · conv => whnf
      refine mul64 hx hx' (Z.wrap_u_lo _) (Z.wrap_u_hi _) (fun v u hv _ => ?_)
      conv => whnf
      exact ⟨rfl, h _ (by rw [hv, belowI_ok hx hx' h1 h2])⟩
  · have h1 : n < 1 := by simpa using h1
    conv => whnf
    rw [decide_eq_true h1]
    conv => whnf
    refine ⟨rfl, h _ ?_⟩
    unfold belowI; rw [if_pos (by omega)]
theorem belowR {x n : Int} (hx : 0 ≤ x) (hx' : x < 18446744073709551616) {s : List Ob} {Q : AV → List Ob → Prop} (h : ∀ v, v = belowI x n → Q (.int .i64 v) s) : AC Try.prog 23 [.int .u64 x, .int .i64 n] s Q := by
  refine AC_pure rfl ?_
  refine AC_body tok 0 Try.func23 rfl (by kernel_rfl) ?_
  conv => whnf
  refine ifI (fun h1 => ?_) (fun h1 => ?_)
  · have h1 : ¬n < 1 := by simpa using h1
    conv => whnf
    rw [decide_eq_false h1]
    conv => whnf
    refine ifP (fun h2 => ?_) (fun h2 => ?_)
    · conv => whnf
      refine ⟨rfl, h _ ?_⟩
      unfold belowI; rw [if_pos (by omega)]
    · conv => whnf
      refine mulR hx hx' (Z.wrap_u_lo _) (Z.wrap_u_hi _) (fun v u hv _ => ?_)
      conv => whnf
      exact ⟨rfl, h _ (by rw [hv, belowI_ok hx hx' h1 h2])⟩
  · have h1 : n < 1 := by simpa using h1
    conv => whnf
    rw [decide_eq_true h1]
    conv => whnf
    refine ⟨rfl, h _ ?_⟩
    unfold belowI; rw [if_pos (by omega)]

/-- a new deck -/
theorem deckNew {x p : Int} {s : List Ob} {Q : AV → List Ob → Prop} (h : ∀ v, v = linkI (mixI x) p → Q (.ptr s.length 0 0) (s ++ [.cells 0 [.bool true, .int .u64 v, .int .i64 0]])) : AC Try.prog 26 [.int .u64 x, .int .i64 p] s Q := by
  refine AC_new1 rfl 1 0 0 ?_
  refine AC_body tok 0 Try.func26 rfl (by kernel_rfl) ?_
  conv => whnf
  refine chain1 rfl (fun v1 h1 => ?_)
  conv => whnf
  exact ⟨rfl, rfl, h _ h1⟩
theorem deckNext {b c : Int} {s : List Ob} {i : Nat} (hs : s[i]? = some (.cells 0 [.bool true, .int .u64 b, .int .i64 c])) {Q : AV → List Ob → Prop}
    (h : ∀ v u, v = linkI b c → u = Z.add .i64 c 1 → Q (.int .u64 v) (s.set i (.cells 0 [.bool true, .int .u64 b, .int .i64 u]))) : AC Try.prog 27 [.ptr i 0 0] s Q := by
  refine AC_one (args' := [.ptr 0 0 0]) i hs rfl ?_
  refine AC_body tok 0 Try.func27 rfl (by kernel_rfl) ?_
  conv => whnf
  refine AW_draw tok hP ?_
  conv => whnf
  refine AQ_pure (r := .int .u64 (linkI b c)) (fun s Q h => mix _ _ _ (fun v hv => by rw [hv]; exact h)) ?_
  conv => whnf
  refine ⟨⟨by kernel_rfl⟩, ?_⟩
  conv => whnf
  exact ⟨rfl, rfl, h _ _ rfl rfl⟩

/-- the chapter's examples -/
theorem awake {s : List Ob} {Q : AV → List Ob → Prop} (h : Q (.bool true) s) : AC Try.prog 24 [] s Q := by
  refine AC_pure rfl ?_
  refine AC_body tok 0 Try.func24 rfl (by kernel_rfl) ?_
  conv => whnf
  refine mix _ _ _ (fun v hv => ?_)
  obtain rfl : v = 0 := hv.trans (by decide +kernel)
  conv => whnf
  refine below (by omega) (by omega) (fun v hv => ?_)
  obtain rfl : v = 5 := hv.trans (by decide +kernel)
  conv => whnf
  refine mix _ _ _ (fun v hv => ?_)
  obtain rfl : v = 16294208416658607535 := hv.trans (by decide +kernel)
  conv => whnf
  refine deckNew (fun v1 h1 => ?_)
  conv => whnf
  refine deckNext rfl (fun v2 u2 h2 hu => ?_)
  conv => whnf
  refine draw (fun v3 h3 => ?_)
  conv => whnf
  refine ⟨rfl, Qeq (congrArg AV.bool ?_) h⟩
  obtain rfl : v2 = v3 := by subst h1 h3; exact h2
  exact beq_self_eq_true v2

theorem law6 {x seed p q n : Int} (hx : 0 ≤ x) (hx' : x < 18446744073709551616) (hs : 0 ≤ seed) (hs' : seed < 18446744073709551616) {s : List Ob} {Q : AV → List Ob → Prop} (h : Q (.bool true) s) :
    AC Try.prog 6 [.int .u64 x, .int .u64 seed, .int .i64 p, .int .i64 q, .int .i64 n] s Q := by
  refine AC_pure rfl ?_
  refine AC_body tok 0 Try.func6 rfl (by kernel_rfl) ?_
  conv => whnf
  refine mix _ _ _ (fun v1 h1 => ?_)
  conv => whnf
  refine mixR hx hx' (fun v2 h2 => ?_)
  obtain rfl : v2 = v1 := h2.trans h1.symm
  conv => whnf
  rw [beq_self_eq_true]
  conv => whnf
  refine draw (fun v1 h1 => ?_)
  conv => whnf
  refine drawR hs hs' (fun v2 h2 => ?_)
  obtain rfl : v2 = v1 := h2.trans h1.symm
  conv => whnf
  rw [beq_self_eq_true]
  conv => whnf
  refine below hx hx' (fun v1 h1 => ?_)
  conv => whnf
  refine belowR hx hx' (fun v2 h2 => ?_)
  obtain rfl : v2 = v1 := h2.trans h1.symm
  conv => whnf
  rw [beq_self_eq_true]
  conv => whnf
  refine awake ?_
  conv => whnf
  exact ⟨rfl, h⟩
end Go.AW.A1
