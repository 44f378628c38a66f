/-
  No cell of these rows narrows 'for every input' (looked for: loops, veiled, ifaces, maps, wideKeys, modest, calm, conditions, laid).
  DERIVED. THE GIVEN ROWS OF THIS SEAT. 6 by the template 'for every input the law returns true; each argument reads behind the call as it read before'; 0 by the template 'total and deterministic' (their statements: YtabnlimfmfmkmaaTotals.lean).
  GIVEN WITH THE SEED: the statements are not yours to turn. If you find one false, say at which input.
  Laid BY PROGRAM, IN A SANDBOX (cutbox-rows.mjs): the forced cells as the released guide's own fill.sh prints them over the translation 13f9cc9654d31fa2… (all of the seat's roots in one cut). By AI agents, Wed Nov 11 2026. No macro, syntax, notation, axiom, sorry.
-/
import Derived.Test.YtabnlimfmfmkmaaChecked
import GoSem.Claim
import GoSem.ClaimJoined
import GoSem.ClaimMapViews
import Derived.JoinedTies
import Derived.KernelRfl
namespace Go.Proofs.Ytabnlimfmfmkmaa
/- THE CELL 'sum', in the pinned program and in every row, IS THE sha256 OF THE DUMP (.gsa) THAT YtabnlimfmfmkmaaProg.lean LOADS. Nothing in Lean hashes anything: it is a label: what it is worth is what the hold of that sum in a sandbox is worth. -/
noncomputable def Try.pinned : Pinned := { name := "ytabnlimfmfmkmaa", sum := "13f9cc9654d31fa2e7645dec6f1be67c49ceb9bcb78f7aa656d663b89ca3b788", checked := Try.checked }
namespace Rows
def none {H : Type} : Left H := { results := [], args := [] }

/-- 'skylightlaw07.BasisUpright': WHATEVER THE INPUT: true; the input reads as it did. -/
def basisUprightSpec : ChangeSpec := { name := "basisUpright", fn := fun _ => fun
  | [d] => { results := [.lit (.bool true)], args := [d] }
  | _ => none }
def basisUprightRow : OpenClaim := { program := "ytabnlimfmfmkmaa", sum := "13f9cc9654d31fa2e7645dec6f1be67c49ceb9bcb78f7aa656d663b89ca3b788", func := "skylight/skylightlaw07.BasisUpright", spec := "basisUpright", unfollowed := true, recurses := true, apart := false }
def BasisUprightSaid : Prop := basisUprightRow.holds Try.pinned (OpenSpec.ofChange basisUprightSpec)

/-- ITS FALSE NEIGHBOUR: 'it returns false'. Refute it at one input. -/
def basisUprightWrong : ChangeSpec := { name := "basisUpright", fn := fun _ => fun
  | [d] => { results := [.lit (.bool false)], args := [d] }
  | _ => none }
def BasisUprightWrongFalsely : Prop := basisUprightRow.holds Try.pinned (OpenSpec.ofChange basisUprightWrong)

/-- 'skylightlaw07.BasisTells': WHATEVER THE INPUT: true; the input reads as it did. -/
def basisTellsSpec : ChangeSpec := { name := "basisTells", fn := fun _ => fun
  | [d1, d2, d3, d4] => { results := [.lit (.bool true)], args := [d1, d2, d3, d4] }
  | _ => none }
def basisTellsRow : OpenClaim := { program := "ytabnlimfmfmkmaa", sum := "13f9cc9654d31fa2e7645dec6f1be67c49ceb9bcb78f7aa656d663b89ca3b788", func := "skylight/skylightlaw07.BasisTells", spec := "basisTells", unfollowed := true, recurses := true, apart := false }
def BasisTellsSaid : Prop := basisTellsRow.holds Try.pinned (OpenSpec.ofChange basisTellsSpec)

/-- ITS FALSE NEIGHBOUR: 'it returns false'. Refute it at one input. -/
def basisTellsWrong : ChangeSpec := { name := "basisTells", fn := fun _ => fun
  | [d1, d2, d3, d4] => { results := [.lit (.bool false)], args := [d1, d2, d3, d4] }
  | _ => none }
def BasisTellsWrongFalsely : Prop := basisTellsRow.holds Try.pinned (OpenSpec.ofChange basisTellsWrong)

/-- 'skylightlaw07.BasisBack': WHATEVER THE INPUT: true; the input reads as it did. -/
def basisBackSpec : ChangeSpec := { name := "basisBack", fn := fun _ => fun
  | [d1, d2, d3, d4] => { results := [.lit (.bool true)], args := [d1, d2, d3, d4] }
  | _ => none }
def basisBackRow : OpenClaim := { program := "ytabnlimfmfmkmaa", sum := "13f9cc9654d31fa2e7645dec6f1be67c49ceb9bcb78f7aa656d663b89ca3b788", func := "skylight/skylightlaw07.BasisBack", spec := "basisBack", unfollowed := true, recurses := true, apart := false }
def BasisBackSaid : Prop := basisBackRow.holds Try.pinned (OpenSpec.ofChange basisBackSpec)

/-- ITS FALSE NEIGHBOUR: 'it returns false'. Refute it at one input. -/
def basisBackWrong : ChangeSpec := { name := "basisBack", fn := fun _ => fun
  | [d1, d2, d3, d4] => { results := [.lit (.bool false)], args := [d1, d2, d3, d4] }
  | _ => none }
def BasisBackWrongFalsely : Prop := basisBackRow.holds Try.pinned (OpenSpec.ofChange basisBackWrong)

/-- 'skylightlaw23.SpreadHigh': WHATEVER THE INPUT: true; the input reads as it did. -/
def spreadHighSpec : ChangeSpec := { name := "spreadHigh", fn := fun _ => fun
  | [d1, d2, d3] => { results := [.lit (.bool true)], args := [d1, d2, d3] }
  | _ => none }
def spreadHighRow : OpenClaim := { program := "ytabnlimfmfmkmaa", sum := "13f9cc9654d31fa2e7645dec6f1be67c49ceb9bcb78f7aa656d663b89ca3b788", func := "skylight/skylightlaw23.SpreadHigh", spec := "spreadHigh", unfollowed := true, recurses := true, apart := false }
def SpreadHighSaid : Prop := spreadHighRow.holds Try.pinned (OpenSpec.ofChange spreadHighSpec)

/-- ITS FALSE NEIGHBOUR: 'it returns false'. Refute it at one input. -/
def spreadHighWrong : ChangeSpec := { name := "spreadHigh", fn := fun _ => fun
  | [d1, d2, d3] => { results := [.lit (.bool false)], args := [d1, d2, d3] }
  | _ => none }
def SpreadHighWrongFalsely : Prop := spreadHighRow.holds Try.pinned (OpenSpec.ofChange spreadHighWrong)

/-- 'skylightlaw23.SpreadTells': WHATEVER THE INPUT: true; the input reads as it did. -/
def spreadTellsSpec : ChangeSpec := { name := "spreadTells", fn := fun _ => fun
  | [d1, d2, d3, d4] => { results := [.lit (.bool true)], args := [d1, d2, d3, d4] }
  | _ => none }
def spreadTellsRow : OpenClaim := { program := "ytabnlimfmfmkmaa", sum := "13f9cc9654d31fa2e7645dec6f1be67c49ceb9bcb78f7aa656d663b89ca3b788", func := "skylight/skylightlaw23.SpreadTells", spec := "spreadTells", unfollowed := true, recurses := true, apart := false }
def SpreadTellsSaid : Prop := spreadTellsRow.holds Try.pinned (OpenSpec.ofChange spreadTellsSpec)

/-- ITS FALSE NEIGHBOUR: 'it returns false'. Refute it at one input. -/
def spreadTellsWrong : ChangeSpec := { name := "spreadTells", fn := fun _ => fun
  | [d1, d2, d3, d4] => { results := [.lit (.bool false)], args := [d1, d2, d3, d4] }
  | _ => none }
def SpreadTellsWrongFalsely : Prop := spreadTellsRow.holds Try.pinned (OpenSpec.ofChange spreadTellsWrong)

/-- 'skylightlaw23.SpreadSide': WHATEVER THE INPUT: true; the input reads as it did. -/
def spreadSideSpec : ChangeSpec := { name := "spreadSide", fn := fun _ => fun
  | [d1, d2, d3, d4] => { results := [.lit (.bool true)], args := [d1, d2, d3, d4] }
  | _ => none }
def spreadSideRow : OpenClaim := { program := "ytabnlimfmfmkmaa", sum := "13f9cc9654d31fa2e7645dec6f1be67c49ceb9bcb78f7aa656d663b89ca3b788", func := "skylight/skylightlaw23.SpreadSide", spec := "spreadSide", unfollowed := true, recurses := true, apart := false }
def SpreadSideSaid : Prop := spreadSideRow.holds Try.pinned (OpenSpec.ofChange spreadSideSpec)

/-- ITS FALSE NEIGHBOUR: 'it returns false'. Refute it at one input. -/
def spreadSideWrong : ChangeSpec := { name := "spreadSide", fn := fun _ => fun
  | [d1, d2, d3, d4] => { results := [.lit (.bool false)], args := [d1, d2, d3, d4] }
  | _ => none }
def SpreadSideWrongFalsely : Prop := spreadSideRow.holds Try.pinned (OpenSpec.ofChange spreadSideWrong)

/- THE SECOND FORM. 'bulk': how many values and letters a reading holds, each counted each time it is reached (what is shared counts as often as it is met; a slice's spare places count too). A statement '..UptoSaid' is the law's where the arguments, and the package variables that the reading takes, are together of bulk at most 1048576: NARROWER than '..Said'. Prove '..Said' where nothing that the law and all that it calls make is longer than what came in: it says more and counts as full. Else prove '..UptoSaid'. A law counts once. -/
mutual
def uptoBulk {H : Type} : DataW H → Nat
  | .lit (.string bytes) => bytes.length + 1
  | .lit _ => 1
  | .nil => 1
  | .ptr d => uptoBulk d + 1
  | .slice elems spare => uptoBulkAll elems + uptoBulkAll spare + 1
  | .agg parts => uptoBulkAll parts + 1
  | .iface _ d => uptoBulk d + 1
  | .map entries => uptoBulkEntries entries + 1
  | .held _ => 1
def uptoBulkAll {H : Type} : List (DataW H) → Nat
  | [] => 0
  | d :: r => uptoBulk d + uptoBulkAll r
def uptoBulkEntries {H : Type} : List (Lit × DataW H) → Nat
  | [] => 0
  | x :: r => uptoBulkEntry x + uptoBulkEntries r
def uptoBulkEntry {H : Type} : Lit × DataW H → Nat
  | (.string bytes, d) => bytes.length + uptoBulk d + 1
  | (_, d) => uptoBulk d + 1
 end
def uptoSmall : (H : Type) → List (DataW H) → Bool := fun _ ds => decide (uptoBulkAll ds ≤ 1048576)
def OpenSpec.upto (s : _root_.Go.ChangeSpec) : _root_.Go.OpenSpec := { _root_.Go.OpenSpec.ofChange s with cond := some uptoSmall }

/-- 'skylightlaw07.BasisUpright', WHERE WHAT IT READS IS OF BULK AT MOST 1048576: true; the input reads as it did. -/
def basisUprightUptoRow : OpenClaim := { program := "ytabnlimfmfmkmaa", sum := "13f9cc9654d31fa2e7645dec6f1be67c49ceb9bcb78f7aa656d663b89ca3b788", func := "skylight/skylightlaw07.BasisUpright", spec := "basisUpright", unfollowed := true, recurses := true, apart := false, narrowed := true }
def BasisUprightUptoSaid : Prop := basisUprightUptoRow.holds Try.pinned (OpenSpec.upto basisUprightSpec)

/-- 'skylightlaw07.BasisTells', WHERE WHAT IT READS IS OF BULK AT MOST 1048576: true; the input reads as it did. -/
def basisTellsUptoRow : OpenClaim := { program := "ytabnlimfmfmkmaa", sum := "13f9cc9654d31fa2e7645dec6f1be67c49ceb9bcb78f7aa656d663b89ca3b788", func := "skylight/skylightlaw07.BasisTells", spec := "basisTells", unfollowed := true, recurses := true, apart := false, narrowed := true }
def BasisTellsUptoSaid : Prop := basisTellsUptoRow.holds Try.pinned (OpenSpec.upto basisTellsSpec)

/-- 'skylightlaw07.BasisBack', WHERE WHAT IT READS IS OF BULK AT MOST 1048576: true; the input reads as it did. -/
def basisBackUptoRow : OpenClaim := { program := "ytabnlimfmfmkmaa", sum := "13f9cc9654d31fa2e7645dec6f1be67c49ceb9bcb78f7aa656d663b89ca3b788", func := "skylight/skylightlaw07.BasisBack", spec := "basisBack", unfollowed := true, recurses := true, apart := false, narrowed := true }
def BasisBackUptoSaid : Prop := basisBackUptoRow.holds Try.pinned (OpenSpec.upto basisBackSpec)

/-- 'skylightlaw23.SpreadHigh', WHERE WHAT IT READS IS OF BULK AT MOST 1048576: true; the input reads as it did. -/
def spreadHighUptoRow : OpenClaim := { program := "ytabnlimfmfmkmaa", sum := "13f9cc9654d31fa2e7645dec6f1be67c49ceb9bcb78f7aa656d663b89ca3b788", func := "skylight/skylightlaw23.SpreadHigh", spec := "spreadHigh", unfollowed := true, recurses := true, apart := false, narrowed := true }
def SpreadHighUptoSaid : Prop := spreadHighUptoRow.holds Try.pinned (OpenSpec.upto spreadHighSpec)

/-- 'skylightlaw23.SpreadTells', WHERE WHAT IT READS IS OF BULK AT MOST 1048576: true; the input reads as it did. -/
def spreadTellsUptoRow : OpenClaim := { program := "ytabnlimfmfmkmaa", sum := "13f9cc9654d31fa2e7645dec6f1be67c49ceb9bcb78f7aa656d663b89ca3b788", func := "skylight/skylightlaw23.SpreadTells", spec := "spreadTells", unfollowed := true, recurses := true, apart := false, narrowed := true }
def SpreadTellsUptoSaid : Prop := spreadTellsUptoRow.holds Try.pinned (OpenSpec.upto spreadTellsSpec)

/-- 'skylightlaw23.SpreadSide', WHERE WHAT IT READS IS OF BULK AT MOST 1048576: true; the input reads as it did. -/
def spreadSideUptoRow : OpenClaim := { program := "ytabnlimfmfmkmaa", sum := "13f9cc9654d31fa2e7645dec6f1be67c49ceb9bcb78f7aa656d663b89ca3b788", func := "skylight/skylightlaw23.SpreadSide", spec := "spreadSide", unfollowed := true, recurses := true, apart := false, narrowed := true }
def SpreadSideUptoSaid : Prop := spreadSideUptoRow.holds Try.pinned (OpenSpec.upto spreadSideSpec)

end Rows
end Go.Proofs.Ytabnlimfmfmkmaa
