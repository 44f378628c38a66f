/-
  No cell of these rows narrows 'for every input' (looked for: loops, veiled, ifaces, maps, wideKeys, modest, calm, conditions, laid).
  DERIVED. THE GIVEN ROWS OF THIS SEAT. 4 by the template 'for every input the law returns true; each argument reads behind the call as it read before'; 0 by the template 'total and deterministic' (their statements: YtgajnkfaelecaaaTotals.lean).
  GIVEN WITH THE SEED: the statements are not yours to turn. If you find one false, say at which input.
  Laid BY PROGRAM, IN A SANDBOX (cutbox-rows.mjs): the forced cells as the released guide's own fill.sh prints them over the translation 8b2c746bd653b0d5… (all of the seat's roots in one cut). By AI agents, Wed Nov 11 2026. No macro, syntax, notation, axiom, sorry.
-/
import Derived.Test.YtgajnkfaelecaaaChecked
import GoSem.Claim
import GoSem.ClaimJoined
import GoSem.ClaimMapViews
import Derived.JoinedTies
import Derived.KernelRfl
namespace Go.Proofs.Ytgajnkfaelecaaa
/- THE CELL 'sum', in the pinned program and in every row, IS THE sha256 OF THE DUMP (.gsa) THAT YtgajnkfaelecaaaProg.lean LOADS. Nothing in Lean hashes anything: it is a label: what it is worth is what the hold of that sum in a sandbox is worth. -/
noncomputable def Try.pinned : Pinned := { name := "ytgajnkfaelecaaa", sum := "8b2c746bd653b0d5fe32d1e439375875090dabf5cf8e61d3f0cae39a72ed564c", checked := Try.checked }
namespace Rows
def none {H : Type} : Left H := { results := [], args := [] }

/-- 'skylightlaw27.LensSees': WHATEVER THE INPUT: true; the input reads as it did. -/
def lensSeesSpec : ChangeSpec := { name := "lensSees", fn := fun _ => fun
  | [d1, d2, d3, d4] => { results := [.lit (.bool true)], args := [d1, d2, d3, d4] }
  | _ => none }
def lensSeesRow : OpenClaim := { program := "ytgajnkfaelecaaa", sum := "8b2c746bd653b0d5fe32d1e439375875090dabf5cf8e61d3f0cae39a72ed564c", func := "skylight/skylightlaw27.LensSees", spec := "lensSees", unfollowed := true, recurses := true, apart := false }
def LensSeesSaid : Prop := lensSeesRow.holds Try.pinned (OpenSpec.ofChange lensSeesSpec)

/-- ITS FALSE NEIGHBOUR: 'it returns false'. Refute it at one input. -/
def lensSeesWrong : ChangeSpec := { name := "lensSees", fn := fun _ => fun
  | [d1, d2, d3, d4] => { results := [.lit (.bool false)], args := [d1, d2, d3, d4] }
  | _ => none }
def LensSeesWrongFalsely : Prop := lensSeesRow.holds Try.pinned (OpenSpec.ofChange lensSeesWrong)

/-- 'skylightlaw27.LensAhead': WHATEVER THE INPUT: true; the input reads as it did. -/
def lensAheadSpec : ChangeSpec := { name := "lensAhead", fn := fun _ => fun
  | [d1, d2, d3, d4, d5, d6, d7] => { results := [.lit (.bool true)], args := [d1, d2, d3, d4, d5, d6, d7] }
  | _ => none }
def lensAheadRow : OpenClaim := { program := "ytgajnkfaelecaaa", sum := "8b2c746bd653b0d5fe32d1e439375875090dabf5cf8e61d3f0cae39a72ed564c", func := "skylight/skylightlaw27.LensAhead", spec := "lensAhead", unfollowed := true, recurses := true, apart := false }
def LensAheadSaid : Prop := lensAheadRow.holds Try.pinned (OpenSpec.ofChange lensAheadSpec)

/-- ITS FALSE NEIGHBOUR: 'it returns false'. Refute it at one input. -/
def lensAheadWrong : ChangeSpec := { name := "lensAhead", fn := fun _ => fun
  | [d1, d2, d3, d4, d5, d6, d7] => { results := [.lit (.bool false)], args := [d1, d2, d3, d4, d5, d6, d7] }
  | _ => none }
def LensAheadWrongFalsely : Prop := lensAheadRow.holds Try.pinned (OpenSpec.ofChange lensAheadWrong)

/-- 'skylightlaw10.BoxHit': WHATEVER THE INPUT: true; the input reads as it did. -/
def boxHitSpec : ChangeSpec := { name := "boxHit", fn := fun _ => fun
  | [d1, d2, d3, d4, d5] => { results := [.lit (.bool true)], args := [d1, d2, d3, d4, d5] }
  | _ => none }
def boxHitRow : OpenClaim := { program := "ytgajnkfaelecaaa", sum := "8b2c746bd653b0d5fe32d1e439375875090dabf5cf8e61d3f0cae39a72ed564c", func := "skylight/skylightlaw10.BoxHit", spec := "boxHit", unfollowed := true, recurses := true, apart := false }
def BoxHitSaid : Prop := boxHitRow.holds Try.pinned (OpenSpec.ofChange boxHitSpec)

/-- ITS FALSE NEIGHBOUR: 'it returns false'. Refute it at one input. -/
def boxHitWrong : ChangeSpec := { name := "boxHit", fn := fun _ => fun
  | [d1, d2, d3, d4, d5] => { results := [.lit (.bool false)], args := [d1, d2, d3, d4, d5] }
  | _ => none }
def BoxHitWrongFalsely : Prop := boxHitRow.holds Try.pinned (OpenSpec.ofChange boxHitWrong)

/-- 'skylightlaw10.BoxJoin': WHATEVER THE INPUT: true; the input reads as it did. -/
def boxJoinSpec : ChangeSpec := { name := "boxJoin", fn := fun _ => fun
  | [d1, d2, d3] => { results := [.lit (.bool true)], args := [d1, d2, d3] }
  | _ => none }
def boxJoinRow : OpenClaim := { program := "ytgajnkfaelecaaa", sum := "8b2c746bd653b0d5fe32d1e439375875090dabf5cf8e61d3f0cae39a72ed564c", func := "skylight/skylightlaw10.BoxJoin", spec := "boxJoin", unfollowed := true, recurses := true, apart := false }
def BoxJoinSaid : Prop := boxJoinRow.holds Try.pinned (OpenSpec.ofChange boxJoinSpec)

/-- ITS FALSE NEIGHBOUR: 'it returns false'. Refute it at one input. -/
def boxJoinWrong : ChangeSpec := { name := "boxJoin", fn := fun _ => fun
  | [d1, d2, d3] => { results := [.lit (.bool false)], args := [d1, d2, d3] }
  | _ => none }
def BoxJoinWrongFalsely : Prop := boxJoinRow.holds Try.pinned (OpenSpec.ofChange boxJoinWrong)

/- THE SECOND FORM. 'bulk': how many values and letters a reading holds, each counted each time it is reached (what is shared counts as often as it is met; a slice's spare places count too). A statement '..UptoSaid' is the law's where the arguments, and the package variables that the reading takes, are together of bulk at most 1048576: NARROWER than '..Said'. Prove '..Said' where nothing that the law and all that it calls make is longer than what came in: it says more and counts as full. Else prove '..UptoSaid'. A law counts once. -/
mutual
def uptoBulk {H : Type} : DataW H → Nat
  | .lit (.string bytes) => bytes.length + 1
  | .lit _ => 1
  | .nil => 1
  | .ptr d => uptoBulk d + 1
  | .slice elems spare => uptoBulkAll elems + uptoBulkAll spare + 1
  | .agg parts => uptoBulkAll parts + 1
  | .iface _ d => uptoBulk d + 1
  | .map entries => uptoBulkEntries entries + 1
  | .held _ => 1
def uptoBulkAll {H : Type} : List (DataW H) → Nat
  | [] => 0
  | d :: r => uptoBulk d + uptoBulkAll r
def uptoBulkEntries {H : Type} : List (Lit × DataW H) → Nat
  | [] => 0
  | x :: r => uptoBulkEntry x + uptoBulkEntries r
def uptoBulkEntry {H : Type} : Lit × DataW H → Nat
  | (.string bytes, d) => bytes.length + uptoBulk d + 1
  | (_, d) => uptoBulk d + 1
 end
def uptoSmall : (H : Type) → List (DataW H) → Bool := fun _ ds => decide (uptoBulkAll ds ≤ 1048576)
def OpenSpec.upto (s : _root_.Go.ChangeSpec) : _root_.Go.OpenSpec := { _root_.Go.OpenSpec.ofChange s with cond := some uptoSmall }

/-- 'skylightlaw27.LensSees', WHERE WHAT IT READS IS OF BULK AT MOST 1048576: true; the input reads as it did. -/
def lensSeesUptoRow : OpenClaim := { program := "ytgajnkfaelecaaa", sum := "8b2c746bd653b0d5fe32d1e439375875090dabf5cf8e61d3f0cae39a72ed564c", func := "skylight/skylightlaw27.LensSees", spec := "lensSees", unfollowed := true, recurses := true, apart := false, narrowed := true }
def LensSeesUptoSaid : Prop := lensSeesUptoRow.holds Try.pinned (OpenSpec.upto lensSeesSpec)

/-- 'skylightlaw27.LensAhead', WHERE WHAT IT READS IS OF BULK AT MOST 1048576: true; the input reads as it did. -/
def lensAheadUptoRow : OpenClaim := { program := "ytgajnkfaelecaaa", sum := "8b2c746bd653b0d5fe32d1e439375875090dabf5cf8e61d3f0cae39a72ed564c", func := "skylight/skylightlaw27.LensAhead", spec := "lensAhead", unfollowed := true, recurses := true, apart := false, narrowed := true }
def LensAheadUptoSaid : Prop := lensAheadUptoRow.holds Try.pinned (OpenSpec.upto lensAheadSpec)

/-- 'skylightlaw10.BoxHit', WHERE WHAT IT READS IS OF BULK AT MOST 1048576: true; the input reads as it did. -/
def boxHitUptoRow : OpenClaim := { program := "ytgajnkfaelecaaa", sum := "8b2c746bd653b0d5fe32d1e439375875090dabf5cf8e61d3f0cae39a72ed564c", func := "skylight/skylightlaw10.BoxHit", spec := "boxHit", unfollowed := true, recurses := true, apart := false, narrowed := true }
def BoxHitUptoSaid : Prop := boxHitUptoRow.holds Try.pinned (OpenSpec.upto boxHitSpec)

/-- 'skylightlaw10.BoxJoin', WHERE WHAT IT READS IS OF BULK AT MOST 1048576: true; the input reads as it did. -/
def boxJoinUptoRow : OpenClaim := { program := "ytgajnkfaelecaaa", sum := "8b2c746bd653b0d5fe32d1e439375875090dabf5cf8e61d3f0cae39a72ed564c", func := "skylight/skylightlaw10.BoxJoin", spec := "boxJoin", unfollowed := true, recurses := true, apart := false, narrowed := true }
def BoxJoinUptoSaid : Prop := boxJoinUptoRow.holds Try.pinned (OpenSpec.upto boxJoinSpec)

end Rows
end Go.Proofs.Ytgajnkfaelecaaa
