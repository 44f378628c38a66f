/-
  No cell of these rows narrows 'for every input' (looked for: loops, veiled, ifaces, maps, wideKeys, modest, calm, conditions, laid).
  DERIVED. THE GIVEN ROWS OF THIS SEAT. 6 by the template 'for every input the law returns true; each argument reads behind the call as it read before'; 0 by the template 'total and deterministic' (their statements: YtoeafkgnhebbjaaTotals.lean).
  GIVEN WITH THE SEED: the statements are not yours to turn. If you find one false, say at which input.
  Laid BY PROGRAM, IN A SANDBOX (cutbox-rows.mjs): the forced cells as the released guide's own fill.sh prints them over the translation 4c123c6793dc8ffe… (all of the seat's roots in one cut). By AI agents, Wed Nov 11 2026. No macro, syntax, notation, axiom, sorry.
-/
import Derived.Test.YtoeafkgnhebbjaaChecked
import GoSem.Claim
import GoSem.ClaimJoined
import GoSem.ClaimMapViews
import Derived.JoinedTies
import Derived.KernelRfl
namespace Go.Proofs.Ytoeafkgnhebbjaa
/- THE CELL 'sum', in the pinned program and in every row, IS THE sha256 OF THE DUMP (.gsa) THAT YtoeafkgnhebbjaaProg.lean LOADS. Nothing in Lean hashes anything: it is a label: what it is worth is what the hold of that sum in a sandbox is worth. -/
noncomputable def Try.pinned : Pinned := { name := "ytoeafkgnhebbjaa", sum := "4c123c6793dc8ffe0d2edeaa12c09a950b585c5f7969e988c305bc8783287807", checked := Try.checked }
namespace Rows
def none {H : Type} : Left H := { results := [], args := [] }

/-- 'skylightlaw01.NumRoot': WHATEVER THE INPUT: true; the input reads as it did. -/
def numRootSpec : ChangeSpec := { name := "numRoot", fn := fun _ => fun
  | [d1, d2, d3, d4] => { results := [.lit (.bool true)], args := [d1, d2, d3, d4] }
  | _ => none }
def numRootRow : OpenClaim := { program := "ytoeafkgnhebbjaa", sum := "4c123c6793dc8ffe0d2edeaa12c09a950b585c5f7969e988c305bc8783287807", func := "skylight/skylightlaw01.NumRoot", spec := "numRoot", named := ["math/bits.divideError", "math/bits.overflowError"], apart := false }
def NumRootSaid : Prop := numRootRow.holds Try.pinned (OpenSpec.ofChange numRootSpec)

/-- ITS FALSE NEIGHBOUR: 'it returns false'. Refute it at one input. -/
def numRootWrong : ChangeSpec := { name := "numRoot", fn := fun _ => fun
  | [d1, d2, d3, d4] => { results := [.lit (.bool false)], args := [d1, d2, d3, d4] }
  | _ => none }
def NumRootWrongFalsely : Prop := numRootRow.holds Try.pinned (OpenSpec.ofChange numRootWrong)

/-- 'skylightlaw01.NumTells': WHATEVER THE INPUT: true; the input reads as it did. -/
def numTellsSpec : ChangeSpec := { name := "numTells", fn := fun _ => fun
  | [d1, d2, d3, d4, d5, d6] => { results := [.lit (.bool true)], args := [d1, d2, d3, d4, d5, d6] }
  | _ => none }
def numTellsRow : OpenClaim := { program := "ytoeafkgnhebbjaa", sum := "4c123c6793dc8ffe0d2edeaa12c09a950b585c5f7969e988c305bc8783287807", func := "skylight/skylightlaw01.NumTells", spec := "numTells", named := ["math/bits.divideError", "math/bits.overflowError"], apart := false }
def NumTellsSaid : Prop := numTellsRow.holds Try.pinned (OpenSpec.ofChange numTellsSpec)

/-- ITS FALSE NEIGHBOUR: 'it returns false'. Refute it at one input. -/
def numTellsWrong : ChangeSpec := { name := "numTells", fn := fun _ => fun
  | [d1, d2, d3, d4, d5, d6] => { results := [.lit (.bool false)], args := [d1, d2, d3, d4, d5, d6] }
  | _ => none }
def NumTellsWrongFalsely : Prop := numTellsRow.holds Try.pinned (OpenSpec.ofChange numTellsWrong)

/-- 'skylightlaw01.NumBack': WHATEVER THE INPUT: true; the input reads as it did. -/
def numBackSpec : ChangeSpec := { name := "numBack", fn := fun _ => fun
  | [d1, d2, d3] => { results := [.lit (.bool true)], args := [d1, d2, d3] }
  | _ => none }
def numBackRow : OpenClaim := { program := "ytoeafkgnhebbjaa", sum := "4c123c6793dc8ffe0d2edeaa12c09a950b585c5f7969e988c305bc8783287807", func := "skylight/skylightlaw01.NumBack", spec := "numBack", named := ["math/bits.divideError", "math/bits.overflowError"], apart := false }
def NumBackSaid : Prop := numBackRow.holds Try.pinned (OpenSpec.ofChange numBackSpec)

/-- ITS FALSE NEIGHBOUR: 'it returns false'. Refute it at one input. -/
def numBackWrong : ChangeSpec := { name := "numBack", fn := fun _ => fun
  | [d1, d2, d3] => { results := [.lit (.bool false)], args := [d1, d2, d3] }
  | _ => none }
def NumBackWrongFalsely : Prop := numBackRow.holds Try.pinned (OpenSpec.ofChange numBackWrong)

/-- 'skylightlaw40.ToneRises': WHATEVER THE INPUT: true; the input reads as it did. -/
def toneRisesSpec : ChangeSpec := { name := "toneRises", fn := fun _ => fun
  | [d1, d2, d3, d4, d5] => { results := [.lit (.bool true)], args := [d1, d2, d3, d4, d5] }
  | _ => none }
def toneRisesRow : OpenClaim := { program := "ytoeafkgnhebbjaa", sum := "4c123c6793dc8ffe0d2edeaa12c09a950b585c5f7969e988c305bc8783287807", func := "skylight/skylightlaw40.ToneRises", spec := "toneRises", inPlace := ["math/bits.Add64"], unfollowed := true, recurses := true, named := ["math/bits.divideError", "math/bits.overflowError"], apart := false }
def ToneRisesSaid : Prop := toneRisesRow.holds Try.pinned (OpenSpec.ofChange toneRisesSpec)

/-- ITS FALSE NEIGHBOUR: 'it returns false'. Refute it at one input. -/
def toneRisesWrong : ChangeSpec := { name := "toneRises", fn := fun _ => fun
  | [d1, d2, d3, d4, d5] => { results := [.lit (.bool false)], args := [d1, d2, d3, d4, d5] }
  | _ => none }
def ToneRisesWrongFalsely : Prop := toneRisesRow.holds Try.pinned (OpenSpec.ofChange toneRisesWrong)

/-- 'skylightlaw40.ToneMean': WHATEVER THE INPUT: true; the input reads as it did. -/
def toneMeanSpec : ChangeSpec := { name := "toneMean", fn := fun _ => fun
  | [d] => { results := [.lit (.bool true)], args := [d] }
  | _ => none }
def toneMeanRow : OpenClaim := { program := "ytoeafkgnhebbjaa", sum := "4c123c6793dc8ffe0d2edeaa12c09a950b585c5f7969e988c305bc8783287807", func := "skylight/skylightlaw40.ToneMean", spec := "toneMean", inPlace := ["math/bits.Add64"], unfollowed := true, recurses := true, named := ["math/bits.divideError", "math/bits.overflowError"], apart := false }
def ToneMeanSaid : Prop := toneMeanRow.holds Try.pinned (OpenSpec.ofChange toneMeanSpec)

/-- ITS FALSE NEIGHBOUR: 'it returns false'. Refute it at one input. -/
def toneMeanWrong : ChangeSpec := { name := "toneMean", fn := fun _ => fun
  | [d] => { results := [.lit (.bool false)], args := [d] }
  | _ => none }
def ToneMeanWrongFalsely : Prop := toneMeanRow.holds Try.pinned (OpenSpec.ofChange toneMeanWrong)

/-- 'skylightlaw40.ToneTells': WHATEVER THE INPUT: true; the input reads as it did. -/
def toneTellsSpec : ChangeSpec := { name := "toneTells", fn := fun _ => fun
  | [d1, d2, d3, d4] => { results := [.lit (.bool true)], args := [d1, d2, d3, d4] }
  | _ => none }
def toneTellsRow : OpenClaim := { program := "ytoeafkgnhebbjaa", sum := "4c123c6793dc8ffe0d2edeaa12c09a950b585c5f7969e988c305bc8783287807", func := "skylight/skylightlaw40.ToneTells", spec := "toneTells", inPlace := ["math/bits.Add64"], unfollowed := true, recurses := true, named := ["math/bits.divideError", "math/bits.overflowError"], apart := false }
def ToneTellsSaid : Prop := toneTellsRow.holds Try.pinned (OpenSpec.ofChange toneTellsSpec)

/-- ITS FALSE NEIGHBOUR: 'it returns false'. Refute it at one input. -/
def toneTellsWrong : ChangeSpec := { name := "toneTells", fn := fun _ => fun
  | [d1, d2, d3, d4] => { results := [.lit (.bool false)], args := [d1, d2, d3, d4] }
  | _ => none }
def ToneTellsWrongFalsely : Prop := toneTellsRow.holds Try.pinned (OpenSpec.ofChange toneTellsWrong)

/- THE SECOND FORM. 'bulk': how many values and letters a reading holds, each counted each time it is reached (what is shared counts as often as it is met; a slice's spare places count too). A statement '..UptoSaid' is the law's where the arguments, and the package variables that the reading takes, are together of bulk at most 1048576: NARROWER than '..Said'. Prove '..Said' where nothing that the law and all that it calls make is longer than what came in: it says more and counts as full. Else prove '..UptoSaid'. A law counts once. -/
mutual
def uptoBulk {H : Type} : DataW H → Nat
  | .lit (.string bytes) => bytes.length + 1
  | .lit _ => 1
  | .nil => 1
  | .ptr d => uptoBulk d + 1
  | .slice elems spare => uptoBulkAll elems + uptoBulkAll spare + 1
  | .agg parts => uptoBulkAll parts + 1
  | .iface _ d => uptoBulk d + 1
  | .map entries => uptoBulkEntries entries + 1
  | .held _ => 1
def uptoBulkAll {H : Type} : List (DataW H) → Nat
  | [] => 0
  | d :: r => uptoBulk d + uptoBulkAll r
def uptoBulkEntries {H : Type} : List (Lit × DataW H) → Nat
  | [] => 0
  | x :: r => uptoBulkEntry x + uptoBulkEntries r
def uptoBulkEntry {H : Type} : Lit × DataW H → Nat
  | (.string bytes, d) => bytes.length + uptoBulk d + 1
  | (_, d) => uptoBulk d + 1
 end
def uptoSmall : (H : Type) → List (DataW H) → Bool := fun _ ds => decide (uptoBulkAll ds ≤ 1048576)
def OpenSpec.upto (s : _root_.Go.ChangeSpec) : _root_.Go.OpenSpec := { _root_.Go.OpenSpec.ofChange s with cond := some uptoSmall }

/-- 'skylightlaw01.NumRoot', WHERE WHAT IT READS IS OF BULK AT MOST 1048576: true; the input reads as it did. -/
def numRootUptoRow : OpenClaim := { program := "ytoeafkgnhebbjaa", sum := "4c123c6793dc8ffe0d2edeaa12c09a950b585c5f7969e988c305bc8783287807", func := "skylight/skylightlaw01.NumRoot", spec := "numRoot", named := ["math/bits.divideError", "math/bits.overflowError"], apart := false, narrowed := true }
def NumRootUptoSaid : Prop := numRootUptoRow.holds Try.pinned (OpenSpec.upto numRootSpec)

/-- 'skylightlaw01.NumTells', WHERE WHAT IT READS IS OF BULK AT MOST 1048576: true; the input reads as it did. -/
def numTellsUptoRow : OpenClaim := { program := "ytoeafkgnhebbjaa", sum := "4c123c6793dc8ffe0d2edeaa12c09a950b585c5f7969e988c305bc8783287807", func := "skylight/skylightlaw01.NumTells", spec := "numTells", named := ["math/bits.divideError", "math/bits.overflowError"], apart := false, narrowed := true }
def NumTellsUptoSaid : Prop := numTellsUptoRow.holds Try.pinned (OpenSpec.upto numTellsSpec)

/-- 'skylightlaw01.NumBack', WHERE WHAT IT READS IS OF BULK AT MOST 1048576: true; the input reads as it did. -/
def numBackUptoRow : OpenClaim := { program := "ytoeafkgnhebbjaa", sum := "4c123c6793dc8ffe0d2edeaa12c09a950b585c5f7969e988c305bc8783287807", func := "skylight/skylightlaw01.NumBack", spec := "numBack", named := ["math/bits.divideError", "math/bits.overflowError"], apart := false, narrowed := true }
def NumBackUptoSaid : Prop := numBackUptoRow.holds Try.pinned (OpenSpec.upto numBackSpec)

/-- 'skylightlaw40.ToneRises', WHERE WHAT IT READS IS OF BULK AT MOST 1048576: true; the input reads as it did. -/
def toneRisesUptoRow : OpenClaim := { program := "ytoeafkgnhebbjaa", sum := "4c123c6793dc8ffe0d2edeaa12c09a950b585c5f7969e988c305bc8783287807", func := "skylight/skylightlaw40.ToneRises", spec := "toneRises", inPlace := ["math/bits.Add64"], unfollowed := true, recurses := true, named := ["math/bits.divideError", "math/bits.overflowError"], apart := false, narrowed := true }
def ToneRisesUptoSaid : Prop := toneRisesUptoRow.holds Try.pinned (OpenSpec.upto toneRisesSpec)

/-- 'skylightlaw40.ToneMean', WHERE WHAT IT READS IS OF BULK AT MOST 1048576: true; the input reads as it did. -/
def toneMeanUptoRow : OpenClaim := { program := "ytoeafkgnhebbjaa", sum := "4c123c6793dc8ffe0d2edeaa12c09a950b585c5f7969e988c305bc8783287807", func := "skylight/skylightlaw40.ToneMean", spec := "toneMean", inPlace := ["math/bits.Add64"], unfollowed := true, recurses := true, named := ["math/bits.divideError", "math/bits.overflowError"], apart := false, narrowed := true }
def ToneMeanUptoSaid : Prop := toneMeanUptoRow.holds Try.pinned (OpenSpec.upto toneMeanSpec)

/-- 'skylightlaw40.ToneTells', WHERE WHAT IT READS IS OF BULK AT MOST 1048576: true; the input reads as it did. -/
def toneTellsUptoRow : OpenClaim := { program := "ytoeafkgnhebbjaa", sum := "4c123c6793dc8ffe0d2edeaa12c09a950b585c5f7969e988c305bc8783287807", func := "skylight/skylightlaw40.ToneTells", spec := "toneTells", inPlace := ["math/bits.Add64"], unfollowed := true, recurses := true, named := ["math/bits.divideError", "math/bits.overflowError"], apart := false, narrowed := true }
def ToneTellsUptoSaid : Prop := toneTellsUptoRow.holds Try.pinned (OpenSpec.upto toneTellsSpec)

end Rows
end Go.Proofs.Ytoeafkgnhebbjaa
