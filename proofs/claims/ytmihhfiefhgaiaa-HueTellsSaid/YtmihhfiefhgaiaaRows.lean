/-
  No cell of these rows narrows 'for every input' (looked for: loops, veiled, ifaces, maps, wideKeys, modest, calm, conditions, laid).
  DERIVED. THE GIVEN ROWS OF THIS SEAT. 5 by the template 'for every input the law returns true; each argument reads behind the call as it read before'; 0 by the template 'total and deterministic' (their statements: YtmihhfiefhgaiaaTotals.lean).
  GIVEN WITH THE SEED: the statements are not yours to turn. If you find one false, say at which input.
  Laid BY PROGRAM, IN A SANDBOX (cutbox-rows.mjs): the forced cells as the released guide's own fill.sh prints them over the translation 80714feb8372ee61… (all of the seat's roots in one cut). By AI agents, Wed Nov 11 2026. No macro, syntax, notation, axiom, sorry.
-/
import Derived.Test.YtmihhfiefhgaiaaChecked
import GoSem.Claim
import GoSem.ClaimJoined
import GoSem.ClaimMapViews
import Derived.JoinedTies
import Derived.KernelRfl
namespace Go.Proofs.Ytmihhfiefhgaiaa
/- THE CELL 'sum', in the pinned program and in every row, IS THE sha256 OF THE DUMP (.gsa) THAT YtmihhfiefhgaiaaProg.lean LOADS. Nothing in Lean hashes anything: it is a label: what it is worth is what the hold of that sum in a sandbox is worth. -/
noncomputable def Try.pinned : Pinned := { name := "ytmihhfiefhgaiaa", sum := "80714feb8372ee615d88dfcb1be11fac0aae4fd02b0948d49499abb31ad71432", checked := Try.checked }
namespace Rows
def none {H : Type} : Left H := { results := [], args := [] }

/-- 'skylightlaw08.PoseNone': WHATEVER THE INPUT: true; the input reads as it did. -/
def poseNoneSpec : ChangeSpec := { name := "poseNone", fn := fun _ => fun
  | [d1, d2, d3] => { results := [.lit (.bool true)], args := [d1, d2, d3] }
  | _ => none }
def poseNoneRow : OpenClaim := { program := "ytmihhfiefhgaiaa", sum := "80714feb8372ee615d88dfcb1be11fac0aae4fd02b0948d49499abb31ad71432", func := "skylight/skylightlaw08.PoseNone", spec := "poseNone", apart := false }
def PoseNoneSaid : Prop := poseNoneRow.holds Try.pinned (OpenSpec.ofChange poseNoneSpec)

/-- ITS FALSE NEIGHBOUR: 'it returns false'. Refute it at one input. -/
def poseNoneWrong : ChangeSpec := { name := "poseNone", fn := fun _ => fun
  | [d1, d2, d3] => { results := [.lit (.bool false)], args := [d1, d2, d3] }
  | _ => none }
def PoseNoneWrongFalsely : Prop := poseNoneRow.holds Try.pinned (OpenSpec.ofChange poseNoneWrong)

/-- 'skylightlaw08.PoseQuarters': WHATEVER THE INPUT: true; the input reads as it did. -/
def poseQuartersSpec : ChangeSpec := { name := "poseQuarters", fn := fun _ => fun
  | [d1, d2] => { results := [.lit (.bool true)], args := [d1, d2] }
  | _ => none }
def poseQuartersRow : OpenClaim := { program := "ytmihhfiefhgaiaa", sum := "80714feb8372ee615d88dfcb1be11fac0aae4fd02b0948d49499abb31ad71432", func := "skylight/skylightlaw08.PoseQuarters", spec := "poseQuarters", apart := false }
def PoseQuartersSaid : Prop := poseQuartersRow.holds Try.pinned (OpenSpec.ofChange poseQuartersSpec)

/-- ITS FALSE NEIGHBOUR: 'it returns false'. Refute it at one input. -/
def poseQuartersWrong : ChangeSpec := { name := "poseQuarters", fn := fun _ => fun
  | [d1, d2] => { results := [.lit (.bool false)], args := [d1, d2] }
  | _ => none }
def PoseQuartersWrongFalsely : Prop := poseQuartersRow.holds Try.pinned (OpenSpec.ofChange poseQuartersWrong)

/-- 'skylightlaw08.PoseTells': WHATEVER THE INPUT: true; the input reads as it did. -/
def poseTellsSpec : ChangeSpec := { name := "poseTells", fn := fun _ => fun
  | [d1, d2, d3, d4, d5, d6, d7] => { results := [.lit (.bool true)], args := [d1, d2, d3, d4, d5, d6, d7] }
  | _ => none }
def poseTellsRow : OpenClaim := { program := "ytmihhfiefhgaiaa", sum := "80714feb8372ee615d88dfcb1be11fac0aae4fd02b0948d49499abb31ad71432", func := "skylight/skylightlaw08.PoseTells", spec := "poseTells", recurses := true, apart := false }
def PoseTellsSaid : Prop := poseTellsRow.holds Try.pinned (OpenSpec.ofChange poseTellsSpec)

/-- ITS FALSE NEIGHBOUR: 'it returns false'. Refute it at one input. -/
def poseTellsWrong : ChangeSpec := { name := "poseTells", fn := fun _ => fun
  | [d1, d2, d3, d4, d5, d6, d7] => { results := [.lit (.bool false)], args := [d1, d2, d3, d4, d5, d6, d7] }
  | _ => none }
def PoseTellsWrongFalsely : Prop := poseTellsRow.holds Try.pinned (OpenSpec.ofChange poseTellsWrong)

/-- 'skylightlaw09.HueMix': WHATEVER THE INPUT: true; the input reads as it did. -/
def hueMixSpec : ChangeSpec := { name := "hueMix", fn := fun _ => fun
  | [d1, d2, d3, d4] => { results := [.lit (.bool true)], args := [d1, d2, d3, d4] }
  | _ => none }
def hueMixRow : OpenClaim := { program := "ytmihhfiefhgaiaa", sum := "80714feb8372ee615d88dfcb1be11fac0aae4fd02b0948d49499abb31ad71432", func := "skylight/skylightlaw09.HueMix", spec := "hueMix", unfollowed := true, recurses := true, named := ["math/bits.divideError", "math/bits.overflowError"], apart := false }
def HueMixSaid : Prop := hueMixRow.holds Try.pinned (OpenSpec.ofChange hueMixSpec)

/-- ITS FALSE NEIGHBOUR: 'it returns false'. Refute it at one input. -/
def hueMixWrong : ChangeSpec := { name := "hueMix", fn := fun _ => fun
  | [d1, d2, d3, d4] => { results := [.lit (.bool false)], args := [d1, d2, d3, d4] }
  | _ => none }
def HueMixWrongFalsely : Prop := hueMixRow.holds Try.pinned (OpenSpec.ofChange hueMixWrong)

/-- 'skylightlaw09.HueTells': WHATEVER THE INPUT: true; the input reads as it did. -/
def hueTellsSpec : ChangeSpec := { name := "hueTells", fn := fun _ => fun
  | [d1, d2, d3, d4] => { results := [.lit (.bool true)], args := [d1, d2, d3, d4] }
  | _ => none }
def hueTellsRow : OpenClaim := { program := "ytmihhfiefhgaiaa", sum := "80714feb8372ee615d88dfcb1be11fac0aae4fd02b0948d49499abb31ad71432", func := "skylight/skylightlaw09.HueTells", spec := "hueTells", unfollowed := true, recurses := true, named := ["math/bits.divideError", "math/bits.overflowError"], apart := false }
def HueTellsSaid : Prop := hueTellsRow.holds Try.pinned (OpenSpec.ofChange hueTellsSpec)

/-- ITS FALSE NEIGHBOUR: 'it returns false'. Refute it at one input. -/
def hueTellsWrong : ChangeSpec := { name := "hueTells", fn := fun _ => fun
  | [d1, d2, d3, d4] => { results := [.lit (.bool false)], args := [d1, d2, d3, d4] }
  | _ => none }
def HueTellsWrongFalsely : Prop := hueTellsRow.holds Try.pinned (OpenSpec.ofChange hueTellsWrong)

/- THE SECOND FORM. 'bulk': how many values and letters a reading holds, each counted each time it is reached (what is shared counts as often as it is met; a slice's spare places count too). A statement '..UptoSaid' is the law's where the arguments, and the package variables that the reading takes, are together of bulk at most 1048576: NARROWER than '..Said'. Prove '..Said' where nothing that the law and all that it calls make is longer than what came in: it says more and counts as full. Else prove '..UptoSaid'. A law counts once. -/
mutual
def uptoBulk {H : Type} : DataW H → Nat
  | .lit (.string bytes) => bytes.length + 1
  | .lit _ => 1
  | .nil => 1
  | .ptr d => uptoBulk d + 1
  | .slice elems spare => uptoBulkAll elems + uptoBulkAll spare + 1
  | .agg parts => uptoBulkAll parts + 1
  | .iface _ d => uptoBulk d + 1
  | .map entries => uptoBulkEntries entries + 1
  | .held _ => 1
def uptoBulkAll {H : Type} : List (DataW H) → Nat
  | [] => 0
  | d :: r => uptoBulk d + uptoBulkAll r
def uptoBulkEntries {H : Type} : List (Lit × DataW H) → Nat
  | [] => 0
  | x :: r => uptoBulkEntry x + uptoBulkEntries r
def uptoBulkEntry {H : Type} : Lit × DataW H → Nat
  | (.string bytes, d) => bytes.length + uptoBulk d + 1
  | (_, d) => uptoBulk d + 1
 end
def uptoSmall : (H : Type) → List (DataW H) → Bool := fun _ ds => decide (uptoBulkAll ds ≤ 1048576)
def OpenSpec.upto (s : _root_.Go.ChangeSpec) : _root_.Go.OpenSpec := { _root_.Go.OpenSpec.ofChange s with cond := some uptoSmall }

/-- 'skylightlaw08.PoseNone', WHERE WHAT IT READS IS OF BULK AT MOST 1048576: true; the input reads as it did. -/
def poseNoneUptoRow : OpenClaim := { program := "ytmihhfiefhgaiaa", sum := "80714feb8372ee615d88dfcb1be11fac0aae4fd02b0948d49499abb31ad71432", func := "skylight/skylightlaw08.PoseNone", spec := "poseNone", apart := false, narrowed := true }
def PoseNoneUptoSaid : Prop := poseNoneUptoRow.holds Try.pinned (OpenSpec.upto poseNoneSpec)

/-- 'skylightlaw08.PoseQuarters', WHERE WHAT IT READS IS OF BULK AT MOST 1048576: true; the input reads as it did. -/
def poseQuartersUptoRow : OpenClaim := { program := "ytmihhfiefhgaiaa", sum := "80714feb8372ee615d88dfcb1be11fac0aae4fd02b0948d49499abb31ad71432", func := "skylight/skylightlaw08.PoseQuarters", spec := "poseQuarters", apart := false, narrowed := true }
def PoseQuartersUptoSaid : Prop := poseQuartersUptoRow.holds Try.pinned (OpenSpec.upto poseQuartersSpec)

/-- 'skylightlaw08.PoseTells', WHERE WHAT IT READS IS OF BULK AT MOST 1048576: true; the input reads as it did. -/
def poseTellsUptoRow : OpenClaim := { program := "ytmihhfiefhgaiaa", sum := "80714feb8372ee615d88dfcb1be11fac0aae4fd02b0948d49499abb31ad71432", func := "skylight/skylightlaw08.PoseTells", spec := "poseTells", recurses := true, apart := false, narrowed := true }
def PoseTellsUptoSaid : Prop := poseTellsUptoRow.holds Try.pinned (OpenSpec.upto poseTellsSpec)

/-- 'skylightlaw09.HueMix', WHERE WHAT IT READS IS OF BULK AT MOST 1048576: true; the input reads as it did. -/
def hueMixUptoRow : OpenClaim := { program := "ytmihhfiefhgaiaa", sum := "80714feb8372ee615d88dfcb1be11fac0aae4fd02b0948d49499abb31ad71432", func := "skylight/skylightlaw09.HueMix", spec := "hueMix", unfollowed := true, recurses := true, named := ["math/bits.divideError", "math/bits.overflowError"], apart := false, narrowed := true }
def HueMixUptoSaid : Prop := hueMixUptoRow.holds Try.pinned (OpenSpec.upto hueMixSpec)

/-- 'skylightlaw09.HueTells', WHERE WHAT IT READS IS OF BULK AT MOST 1048576: true; the input reads as it did. -/
def hueTellsUptoRow : OpenClaim := { program := "ytmihhfiefhgaiaa", sum := "80714feb8372ee615d88dfcb1be11fac0aae4fd02b0948d49499abb31ad71432", func := "skylight/skylightlaw09.HueTells", spec := "hueTells", unfollowed := true, recurses := true, named := ["math/bits.divideError", "math/bits.overflowError"], apart := false, narrowed := true }
def HueTellsUptoSaid : Prop := hueTellsUptoRow.holds Try.pinned (OpenSpec.upto hueTellsSpec)

end Rows
end Go.Proofs.Ytmihhfiefhgaiaa
