/-
  No cell of these rows narrows 'for every input' (looked for: loops, veiled, ifaces, maps, wideKeys, modest, calm, conditions, laid).
  DERIVED. THE GIVEN ROWS OF THIS SEAT. 6 by the template 'for every input the law returns true; each argument reads behind the call as it read before'; 0 by the template 'total and deterministic' (their statements: YthhhgdefejogoaaTotals.lean).
  GIVEN WITH THE SEED: the statements are not yours to turn. If you find one false, say at which input.
  Laid BY PROGRAM, IN A SANDBOX (cutbox-rows.mjs): the forced cells as the released guide's own fill.sh prints them over the translation 10e2fe38ead41ce2… (all of the seat's roots in one cut). By AI agents, Wed Nov 11 2026. No macro, syntax, notation, axiom, sorry.
-/
import Derived.Test.YthhhgdefejogoaaChecked
import GoSem.Claim
import GoSem.ClaimJoined
import GoSem.ClaimMapViews
import Derived.JoinedTies
import Derived.KernelRfl
namespace Go.Proofs.Ythhhgdefejogoaa
/- THE CELL 'sum', in the pinned program and in every row, IS THE sha256 OF THE DUMP (.gsa) THAT YthhhgdefejogoaaProg.lean LOADS. Nothing in Lean hashes anything: it is a label: what it is worth is what the hold of that sum in a sandbox is worth. -/
noncomputable def Try.pinned : Pinned := { name := "ythhhgdefejogoaa", sum := "10e2fe38ead41ce25371a4a95054c69eeb88125764b292d71fb5dea25cf515d6", checked := Try.checked }
namespace Rows
def none {H : Type} : Left H := { results := [], args := [] }

/-- 'skylightlaw52.DitherNear': WHATEVER THE INPUT: true; the input reads as it did. -/
def ditherNearSpec : ChangeSpec := { name := "ditherNear", fn := fun _ => fun
  | [d1, d2, d3, d4] => { results := [.lit (.bool true)], args := [d1, d2, d3, d4] }
  | _ => none }
def ditherNearRow : OpenClaim := { program := "ythhhgdefejogoaa", sum := "10e2fe38ead41ce25371a4a95054c69eeb88125764b292d71fb5dea25cf515d6", func := "skylight/skylightlaw52.DitherNear", spec := "ditherNear", unfollowed := true, recurses := true, apart := false }
def DitherNearSaid : Prop := ditherNearRow.holds Try.pinned (OpenSpec.ofChange ditherNearSpec)

/-- ITS FALSE NEIGHBOUR: 'it returns false'. Refute it at one input. -/
def ditherNearWrong : ChangeSpec := { name := "ditherNear", fn := fun _ => fun
  | [d1, d2, d3, d4] => { results := [.lit (.bool false)], args := [d1, d2, d3, d4] }
  | _ => none }
def DitherNearWrongFalsely : Prop := ditherNearRow.holds Try.pinned (OpenSpec.ofChange ditherNearWrong)

/-- 'skylightlaw52.DitherTells': WHATEVER THE INPUT: true; the input reads as it did. -/
def ditherTellsSpec : ChangeSpec := { name := "ditherTells", fn := fun _ => fun
  | [d1, d2, d3, d4] => { results := [.lit (.bool true)], args := [d1, d2, d3, d4] }
  | _ => none }
def ditherTellsRow : OpenClaim := { program := "ythhhgdefejogoaa", sum := "10e2fe38ead41ce25371a4a95054c69eeb88125764b292d71fb5dea25cf515d6", func := "skylight/skylightlaw52.DitherTells", spec := "ditherTells", unfollowed := true, recurses := true, apart := false }
def DitherTellsSaid : Prop := ditherTellsRow.holds Try.pinned (OpenSpec.ofChange ditherTellsSpec)

/-- ITS FALSE NEIGHBOUR: 'it returns false'. Refute it at one input. -/
def ditherTellsWrong : ChangeSpec := { name := "ditherTells", fn := fun _ => fun
  | [d1, d2, d3, d4] => { results := [.lit (.bool false)], args := [d1, d2, d3, d4] }
  | _ => none }
def DitherTellsWrongFalsely : Prop := ditherTellsRow.holds Try.pinned (OpenSpec.ofChange ditherTellsWrong)

/-- 'skylightlaw52.DitherLevels': WHATEVER THE INPUT: true; the input reads as it did. -/
def ditherLevelsSpec : ChangeSpec := { name := "ditherLevels", fn := fun _ => fun
  | [d1, d2] => { results := [.lit (.bool true)], args := [d1, d2] }
  | _ => none }
def ditherLevelsRow : OpenClaim := { program := "ythhhgdefejogoaa", sum := "10e2fe38ead41ce25371a4a95054c69eeb88125764b292d71fb5dea25cf515d6", func := "skylight/skylightlaw52.DitherLevels", spec := "ditherLevels", unfollowed := true, recurses := true, apart := false }
def DitherLevelsSaid : Prop := ditherLevelsRow.holds Try.pinned (OpenSpec.ofChange ditherLevelsSpec)

/-- ITS FALSE NEIGHBOUR: 'it returns false'. Refute it at one input. -/
def ditherLevelsWrong : ChangeSpec := { name := "ditherLevels", fn := fun _ => fun
  | [d1, d2] => { results := [.lit (.bool false)], args := [d1, d2] }
  | _ => none }
def DitherLevelsWrongFalsely : Prop := ditherLevelsRow.holds Try.pinned (OpenSpec.ofChange ditherLevelsWrong)

/-- 'skylightlaw45.RadixTells': WHATEVER THE INPUT: true; the input reads as it did. -/
def radixTellsSpec : ChangeSpec := { name := "radixTells", fn := fun _ => fun
  | [d1, d2, d3, d4, d5] => { results := [.lit (.bool true)], args := [d1, d2, d3, d4, d5] }
  | _ => none }
def radixTellsRow : OpenClaim := { program := "ythhhgdefejogoaa", sum := "10e2fe38ead41ce25371a4a95054c69eeb88125764b292d71fb5dea25cf515d6", func := "skylight/skylightlaw45.RadixTells", spec := "radixTells", unfollowed := true, recurses := true, apart := false }
def RadixTellsSaid : Prop := radixTellsRow.holds Try.pinned (OpenSpec.ofChange radixTellsSpec)

/-- ITS FALSE NEIGHBOUR: 'it returns false'. Refute it at one input. -/
def radixTellsWrong : ChangeSpec := { name := "radixTells", fn := fun _ => fun
  | [d1, d2, d3, d4, d5] => { results := [.lit (.bool false)], args := [d1, d2, d3, d4, d5] }
  | _ => none }
def RadixTellsWrongFalsely : Prop := radixTellsRow.holds Try.pinned (OpenSpec.ofChange radixTellsWrong)

/-- 'skylightlaw45.RadixBack': WHATEVER THE INPUT: true; the input reads as it did. -/
def radixBackSpec : ChangeSpec := { name := "radixBack", fn := fun _ => fun
  | [d1, d2, d3, d4] => { results := [.lit (.bool true)], args := [d1, d2, d3, d4] }
  | _ => none }
def radixBackRow : OpenClaim := { program := "ythhhgdefejogoaa", sum := "10e2fe38ead41ce25371a4a95054c69eeb88125764b292d71fb5dea25cf515d6", func := "skylight/skylightlaw45.RadixBack", spec := "radixBack", unfollowed := true, recurses := true, apart := false }
def RadixBackSaid : Prop := radixBackRow.holds Try.pinned (OpenSpec.ofChange radixBackSpec)

/-- ITS FALSE NEIGHBOUR: 'it returns false'. Refute it at one input. -/
def radixBackWrong : ChangeSpec := { name := "radixBack", fn := fun _ => fun
  | [d1, d2, d3, d4] => { results := [.lit (.bool false)], args := [d1, d2, d3, d4] }
  | _ => none }
def RadixBackWrongFalsely : Prop := radixBackRow.holds Try.pinned (OpenSpec.ofChange radixBackWrong)

/-- 'skylightlaw45.RadixEven': WHATEVER THE INPUT: true; the input reads as it did. -/
def radixEvenSpec : ChangeSpec := { name := "radixEven", fn := fun _ => fun
  | [d1, d2, d3, d4] => { results := [.lit (.bool true)], args := [d1, d2, d3, d4] }
  | _ => none }
def radixEvenRow : OpenClaim := { program := "ythhhgdefejogoaa", sum := "10e2fe38ead41ce25371a4a95054c69eeb88125764b292d71fb5dea25cf515d6", func := "skylight/skylightlaw45.RadixEven", spec := "radixEven", unfollowed := true, recurses := true, apart := false }
def RadixEvenSaid : Prop := radixEvenRow.holds Try.pinned (OpenSpec.ofChange radixEvenSpec)

/-- ITS FALSE NEIGHBOUR: 'it returns false'. Refute it at one input. -/
def radixEvenWrong : ChangeSpec := { name := "radixEven", fn := fun _ => fun
  | [d1, d2, d3, d4] => { results := [.lit (.bool false)], args := [d1, d2, d3, d4] }
  | _ => none }
def RadixEvenWrongFalsely : Prop := radixEvenRow.holds Try.pinned (OpenSpec.ofChange radixEvenWrong)

/- THE SECOND FORM. 'bulk': how many values and letters a reading holds, each counted each time it is reached (what is shared counts as often as it is met; a slice's spare places count too). A statement '..UptoSaid' is the law's where the arguments, and the package variables that the reading takes, are together of bulk at most 1048576: NARROWER than '..Said'. Prove '..Said' where nothing that the law and all that it calls make is longer than what came in: it says more and counts as full. Else prove '..UptoSaid'. A law counts once. -/
mutual
def uptoBulk {H : Type} : DataW H → Nat
  | .lit (.string bytes) => bytes.length + 1
  | .lit _ => 1
  | .nil => 1
  | .ptr d => uptoBulk d + 1
  | .slice elems spare => uptoBulkAll elems + uptoBulkAll spare + 1
  | .agg parts => uptoBulkAll parts + 1
  | .iface _ d => uptoBulk d + 1
  | .map entries => uptoBulkEntries entries + 1
  | .held _ => 1
def uptoBulkAll {H : Type} : List (DataW H) → Nat
  | [] => 0
  | d :: r => uptoBulk d + uptoBulkAll r
def uptoBulkEntries {H : Type} : List (Lit × DataW H) → Nat
  | [] => 0
  | x :: r => uptoBulkEntry x + uptoBulkEntries r
def uptoBulkEntry {H : Type} : Lit × DataW H → Nat
  | (.string bytes, d) => bytes.length + uptoBulk d + 1
  | (_, d) => uptoBulk d + 1
 end
def uptoSmall : (H : Type) → List (DataW H) → Bool := fun _ ds => decide (uptoBulkAll ds ≤ 1048576)
def OpenSpec.upto (s : _root_.Go.ChangeSpec) : _root_.Go.OpenSpec := { _root_.Go.OpenSpec.ofChange s with cond := some uptoSmall }

/-- 'skylightlaw52.DitherNear', WHERE WHAT IT READS IS OF BULK AT MOST 1048576: true; the input reads as it did. -/
def ditherNearUptoRow : OpenClaim := { program := "ythhhgdefejogoaa", sum := "10e2fe38ead41ce25371a4a95054c69eeb88125764b292d71fb5dea25cf515d6", func := "skylight/skylightlaw52.DitherNear", spec := "ditherNear", unfollowed := true, recurses := true, apart := false, narrowed := true }
def DitherNearUptoSaid : Prop := ditherNearUptoRow.holds Try.pinned (OpenSpec.upto ditherNearSpec)

/-- 'skylightlaw52.DitherTells', WHERE WHAT IT READS IS OF BULK AT MOST 1048576: true; the input reads as it did. -/
def ditherTellsUptoRow : OpenClaim := { program := "ythhhgdefejogoaa", sum := "10e2fe38ead41ce25371a4a95054c69eeb88125764b292d71fb5dea25cf515d6", func := "skylight/skylightlaw52.DitherTells", spec := "ditherTells", unfollowed := true, recurses := true, apart := false, narrowed := true }
def DitherTellsUptoSaid : Prop := ditherTellsUptoRow.holds Try.pinned (OpenSpec.upto ditherTellsSpec)

/-- 'skylightlaw52.DitherLevels', WHERE WHAT IT READS IS OF BULK AT MOST 1048576: true; the input reads as it did. -/
def ditherLevelsUptoRow : OpenClaim := { program := "ythhhgdefejogoaa", sum := "10e2fe38ead41ce25371a4a95054c69eeb88125764b292d71fb5dea25cf515d6", func := "skylight/skylightlaw52.DitherLevels", spec := "ditherLevels", unfollowed := true, recurses := true, apart := false, narrowed := true }
def DitherLevelsUptoSaid : Prop := ditherLevelsUptoRow.holds Try.pinned (OpenSpec.upto ditherLevelsSpec)

/-- 'skylightlaw45.RadixTells', WHERE WHAT IT READS IS OF BULK AT MOST 1048576: true; the input reads as it did. -/
def radixTellsUptoRow : OpenClaim := { program := "ythhhgdefejogoaa", sum := "10e2fe38ead41ce25371a4a95054c69eeb88125764b292d71fb5dea25cf515d6", func := "skylight/skylightlaw45.RadixTells", spec := "radixTells", unfollowed := true, recurses := true, apart := false, narrowed := true }
def RadixTellsUptoSaid : Prop := radixTellsUptoRow.holds Try.pinned (OpenSpec.upto radixTellsSpec)

/-- 'skylightlaw45.RadixBack', WHERE WHAT IT READS IS OF BULK AT MOST 1048576: true; the input reads as it did. -/
def radixBackUptoRow : OpenClaim := { program := "ythhhgdefejogoaa", sum := "10e2fe38ead41ce25371a4a95054c69eeb88125764b292d71fb5dea25cf515d6", func := "skylight/skylightlaw45.RadixBack", spec := "radixBack", unfollowed := true, recurses := true, apart := false, narrowed := true }
def RadixBackUptoSaid : Prop := radixBackUptoRow.holds Try.pinned (OpenSpec.upto radixBackSpec)

/-- 'skylightlaw45.RadixEven', WHERE WHAT IT READS IS OF BULK AT MOST 1048576: true; the input reads as it did. -/
def radixEvenUptoRow : OpenClaim := { program := "ythhhgdefejogoaa", sum := "10e2fe38ead41ce25371a4a95054c69eeb88125764b292d71fb5dea25cf515d6", func := "skylight/skylightlaw45.RadixEven", spec := "radixEven", unfollowed := true, recurses := true, apart := false, narrowed := true }
def RadixEvenUptoSaid : Prop := radixEvenUptoRow.holds Try.pinned (OpenSpec.upto radixEvenSpec)

end Rows
end Go.Proofs.Ythhhgdefejogoaa
