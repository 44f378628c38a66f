/-
  No cell of these rows narrows 'for every input' (looked for: loops, veiled, ifaces, maps, wideKeys, modest, calm, conditions, laid).
  DERIVED. THE GIVEN ROWS OF THIS SEAT. 6 by the template 'for every input the law returns true; each argument reads behind the call as it read before'; 0 by the template 'total and deterministic' (their statements: YtlnmblmfonmcfaaTotals.lean).
  GIVEN WITH THE SEED: the statements are not yours to turn. If you find one false, say at which input.
  Laid BY PROGRAM, IN A SANDBOX (cutbox-rows.mjs): the forced cells as the released guide's own fill.sh prints them over the translation 323370fd5b69c71f… (all of the seat's roots in one cut). By AI agents, Wed Nov 11 2026. No macro, syntax, notation, axiom, sorry.
-/
import Derived.Test.YtlnmblmfonmcfaaChecked
import GoSem.Claim
import GoSem.ClaimJoined
import GoSem.ClaimMapViews
import Derived.JoinedTies
import Derived.KernelRfl
namespace Go.Proofs.Ytlnmblmfonmcfaa
/- THE CELL 'sum', in the pinned program and in every row, IS THE sha256 OF THE DUMP (.gsa) THAT YtlnmblmfonmcfaaProg.lean LOADS. Nothing in Lean hashes anything: it is a label: what it is worth is what the hold of that sum in a sandbox is worth. -/
noncomputable def Try.pinned : Pinned := { name := "ytlnmblmfonmcfaa", sum := "323370fd5b69c71f6864be06b10abf436829ea24cca30d57901e4ed47a52313e", checked := Try.checked }
namespace Rows
def none {H : Type} : Left H := { results := [], args := [] }

/-- 'skylightlaw05.TrigTells': WHATEVER THE INPUT: true; the input reads as it did. -/
def trigTellsSpec : ChangeSpec := { name := "trigTells", fn := fun _ => fun
  | [d1, d2] => { results := [.lit (.bool true)], args := [d1, d2] }
  | _ => none }
def trigTellsRow : OpenClaim := { program := "ytlnmblmfonmcfaa", sum := "323370fd5b69c71f6864be06b10abf436829ea24cca30d57901e4ed47a52313e", func := "skylight/skylightlaw05.TrigTells", spec := "trigTells", unfollowed := true, recurses := true, apart := false }
def TrigTellsSaid : Prop := trigTellsRow.holds Try.pinned (OpenSpec.ofChange trigTellsSpec)

/-- ITS FALSE NEIGHBOUR: 'it returns false'. Refute it at one input. -/
def trigTellsWrong : ChangeSpec := { name := "trigTells", fn := fun _ => fun
  | [d1, d2] => { results := [.lit (.bool false)], args := [d1, d2] }
  | _ => none }
def TrigTellsWrongFalsely : Prop := trigTellsRow.holds Try.pinned (OpenSpec.ofChange trigTellsWrong)

/-- 'skylightlaw05.TrigTurns': WHATEVER THE INPUT: true; the input reads as it did. -/
def trigTurnsSpec : ChangeSpec := { name := "trigTurns", fn := fun _ => fun
  | [d] => { results := [.lit (.bool true)], args := [d] }
  | _ => none }
def trigTurnsRow : OpenClaim := { program := "ytlnmblmfonmcfaa", sum := "323370fd5b69c71f6864be06b10abf436829ea24cca30d57901e4ed47a52313e", func := "skylight/skylightlaw05.TrigTurns", spec := "trigTurns", unfollowed := true, recurses := true, apart := false }
def TrigTurnsSaid : Prop := trigTurnsRow.holds Try.pinned (OpenSpec.ofChange trigTurnsSpec)

/-- ITS FALSE NEIGHBOUR: 'it returns false'. Refute it at one input. -/
def trigTurnsWrong : ChangeSpec := { name := "trigTurns", fn := fun _ => fun
  | [d] => { results := [.lit (.bool false)], args := [d] }
  | _ => none }
def TrigTurnsWrongFalsely : Prop := trigTurnsRow.holds Try.pinned (OpenSpec.ofChange trigTurnsWrong)

/-- 'skylightlaw05.TrigRises': WHATEVER THE INPUT: true; the input reads as it did. -/
def trigRisesSpec : ChangeSpec := { name := "trigRises", fn := fun _ => fun
  | [d1, d2, d3] => { results := [.lit (.bool true)], args := [d1, d2, d3] }
  | _ => none }
def trigRisesRow : OpenClaim := { program := "ytlnmblmfonmcfaa", sum := "323370fd5b69c71f6864be06b10abf436829ea24cca30d57901e4ed47a52313e", func := "skylight/skylightlaw05.TrigRises", spec := "trigRises", unfollowed := true, recurses := true, apart := false }
def TrigRisesSaid : Prop := trigRisesRow.holds Try.pinned (OpenSpec.ofChange trigRisesSpec)

/-- ITS FALSE NEIGHBOUR: 'it returns false'. Refute it at one input. -/
def trigRisesWrong : ChangeSpec := { name := "trigRises", fn := fun _ => fun
  | [d1, d2, d3] => { results := [.lit (.bool false)], args := [d1, d2, d3] }
  | _ => none }
def TrigRisesWrongFalsely : Prop := trigRisesRow.holds Try.pinned (OpenSpec.ofChange trigRisesWrong)

/-- 'skylightlaw04.DiceTells': WHATEVER THE INPUT: true; the input reads as it did. -/
def diceTellsSpec : ChangeSpec := { name := "diceTells", fn := fun _ => fun
  | [d1, d2, d3, d4, d5] => { results := [.lit (.bool true)], args := [d1, d2, d3, d4, d5] }
  | _ => none }
def diceTellsRow : OpenClaim := { program := "ytlnmblmfonmcfaa", sum := "323370fd5b69c71f6864be06b10abf436829ea24cca30d57901e4ed47a52313e", func := "skylight/skylightlaw04.DiceTells", spec := "diceTells", apart := false }
def DiceTellsSaid : Prop := diceTellsRow.holds Try.pinned (OpenSpec.ofChange diceTellsSpec)

/-- ITS FALSE NEIGHBOUR: 'it returns false'. Refute it at one input. -/
def diceTellsWrong : ChangeSpec := { name := "diceTells", fn := fun _ => fun
  | [d1, d2, d3, d4, d5] => { results := [.lit (.bool false)], args := [d1, d2, d3, d4, d5] }
  | _ => none }
def DiceTellsWrongFalsely : Prop := diceTellsRow.holds Try.pinned (OpenSpec.ofChange diceTellsWrong)

/-- 'skylightlaw04.DiceUnlike': WHATEVER THE INPUT: true; the input reads as it did. -/
def diceUnlikeSpec : ChangeSpec := { name := "diceUnlike", fn := fun _ => fun
  | [d1, d2, d3, d4, d5, d6] => { results := [.lit (.bool true)], args := [d1, d2, d3, d4, d5, d6] }
  | _ => none }
def diceUnlikeRow : OpenClaim := { program := "ytlnmblmfonmcfaa", sum := "323370fd5b69c71f6864be06b10abf436829ea24cca30d57901e4ed47a52313e", func := "skylight/skylightlaw04.DiceUnlike", spec := "diceUnlike", apart := false }
def DiceUnlikeSaid : Prop := diceUnlikeRow.holds Try.pinned (OpenSpec.ofChange diceUnlikeSpec)

/-- ITS FALSE NEIGHBOUR: 'it returns false'. Refute it at one input. -/
def diceUnlikeWrong : ChangeSpec := { name := "diceUnlike", fn := fun _ => fun
  | [d1, d2, d3, d4, d5, d6] => { results := [.lit (.bool false)], args := [d1, d2, d3, d4, d5, d6] }
  | _ => none }
def DiceUnlikeWrongFalsely : Prop := diceUnlikeRow.holds Try.pinned (OpenSpec.ofChange diceUnlikeWrong)

/-- 'skylightlaw04.DiceDeck': WHATEVER THE INPUT: true; the input reads as it did. -/
def diceDeckSpec : ChangeSpec := { name := "diceDeck", fn := fun _ => fun
  | [d1, d2, d3] => { results := [.lit (.bool true)], args := [d1, d2, d3] }
  | _ => none }
def diceDeckRow : OpenClaim := { program := "ytlnmblmfonmcfaa", sum := "323370fd5b69c71f6864be06b10abf436829ea24cca30d57901e4ed47a52313e", func := "skylight/skylightlaw04.DiceDeck", spec := "diceDeck", unfollowed := true, recurses := true, apart := false }
def DiceDeckSaid : Prop := diceDeckRow.holds Try.pinned (OpenSpec.ofChange diceDeckSpec)

/-- ITS FALSE NEIGHBOUR: 'it returns false'. Refute it at one input. -/
def diceDeckWrong : ChangeSpec := { name := "diceDeck", fn := fun _ => fun
  | [d1, d2, d3] => { results := [.lit (.bool false)], args := [d1, d2, d3] }
  | _ => none }
def DiceDeckWrongFalsely : Prop := diceDeckRow.holds Try.pinned (OpenSpec.ofChange diceDeckWrong)

/- THE SECOND FORM. 'bulk': how many values and letters a reading holds, each counted each time it is reached (what is shared counts as often as it is met; a slice's spare places count too). A statement '..UptoSaid' is the law's where the arguments, and the package variables that the reading takes, are together of bulk at most 1048576: NARROWER than '..Said'. Prove '..Said' where nothing that the law and all that it calls make is longer than what came in: it says more and counts as full. Else prove '..UptoSaid'. A law counts once. -/
mutual
def uptoBulk {H : Type} : DataW H → Nat
  | .lit (.string bytes) => bytes.length + 1
  | .lit _ => 1
  | .nil => 1
  | .ptr d => uptoBulk d + 1
  | .slice elems spare => uptoBulkAll elems + uptoBulkAll spare + 1
  | .agg parts => uptoBulkAll parts + 1
  | .iface _ d => uptoBulk d + 1
  | .map entries => uptoBulkEntries entries + 1
  | .held _ => 1
def uptoBulkAll {H : Type} : List (DataW H) → Nat
  | [] => 0
  | d :: r => uptoBulk d + uptoBulkAll r
def uptoBulkEntries {H : Type} : List (Lit × DataW H) → Nat
  | [] => 0
  | x :: r => uptoBulkEntry x + uptoBulkEntries r
def uptoBulkEntry {H : Type} : Lit × DataW H → Nat
  | (.string bytes, d) => bytes.length + uptoBulk d + 1
  | (_, d) => uptoBulk d + 1
 end
def uptoSmall : (H : Type) → List (DataW H) → Bool := fun _ ds => decide (uptoBulkAll ds ≤ 1048576)
def OpenSpec.upto (s : _root_.Go.ChangeSpec) : _root_.Go.OpenSpec := { _root_.Go.OpenSpec.ofChange s with cond := some uptoSmall }

/-- 'skylightlaw05.TrigTells', WHERE WHAT IT READS IS OF BULK AT MOST 1048576: true; the input reads as it did. -/
def trigTellsUptoRow : OpenClaim := { program := "ytlnmblmfonmcfaa", sum := "323370fd5b69c71f6864be06b10abf436829ea24cca30d57901e4ed47a52313e", func := "skylight/skylightlaw05.TrigTells", spec := "trigTells", unfollowed := true, recurses := true, apart := false, narrowed := true }
def TrigTellsUptoSaid : Prop := trigTellsUptoRow.holds Try.pinned (OpenSpec.upto trigTellsSpec)

/-- 'skylightlaw05.TrigTurns', WHERE WHAT IT READS IS OF BULK AT MOST 1048576: true; the input reads as it did. -/
def trigTurnsUptoRow : OpenClaim := { program := "ytlnmblmfonmcfaa", sum := "323370fd5b69c71f6864be06b10abf436829ea24cca30d57901e4ed47a52313e", func := "skylight/skylightlaw05.TrigTurns", spec := "trigTurns", unfollowed := true, recurses := true, apart := false, narrowed := true }
def TrigTurnsUptoSaid : Prop := trigTurnsUptoRow.holds Try.pinned (OpenSpec.upto trigTurnsSpec)

/-- 'skylightlaw05.TrigRises', WHERE WHAT IT READS IS OF BULK AT MOST 1048576: true; the input reads as it did. -/
def trigRisesUptoRow : OpenClaim := { program := "ytlnmblmfonmcfaa", sum := "323370fd5b69c71f6864be06b10abf436829ea24cca30d57901e4ed47a52313e", func := "skylight/skylightlaw05.TrigRises", spec := "trigRises", unfollowed := true, recurses := true, apart := false, narrowed := true }
def TrigRisesUptoSaid : Prop := trigRisesUptoRow.holds Try.pinned (OpenSpec.upto trigRisesSpec)

/-- 'skylightlaw04.DiceTells', WHERE WHAT IT READS IS OF BULK AT MOST 1048576: true; the input reads as it did. -/
def diceTellsUptoRow : OpenClaim := { program := "ytlnmblmfonmcfaa", sum := "323370fd5b69c71f6864be06b10abf436829ea24cca30d57901e4ed47a52313e", func := "skylight/skylightlaw04.DiceTells", spec := "diceTells", apart := false, narrowed := true }
def DiceTellsUptoSaid : Prop := diceTellsUptoRow.holds Try.pinned (OpenSpec.upto diceTellsSpec)

/-- 'skylightlaw04.DiceUnlike', WHERE WHAT IT READS IS OF BULK AT MOST 1048576: true; the input reads as it did. -/
def diceUnlikeUptoRow : OpenClaim := { program := "ytlnmblmfonmcfaa", sum := "323370fd5b69c71f6864be06b10abf436829ea24cca30d57901e4ed47a52313e", func := "skylight/skylightlaw04.DiceUnlike", spec := "diceUnlike", apart := false, narrowed := true }
def DiceUnlikeUptoSaid : Prop := diceUnlikeUptoRow.holds Try.pinned (OpenSpec.upto diceUnlikeSpec)

/-- 'skylightlaw04.DiceDeck', WHERE WHAT IT READS IS OF BULK AT MOST 1048576: true; the input reads as it did. -/
def diceDeckUptoRow : OpenClaim := { program := "ytlnmblmfonmcfaa", sum := "323370fd5b69c71f6864be06b10abf436829ea24cca30d57901e4ed47a52313e", func := "skylight/skylightlaw04.DiceDeck", spec := "diceDeck", unfollowed := true, recurses := true, apart := false, narrowed := true }
def DiceDeckUptoSaid : Prop := diceDeckUptoRow.holds Try.pinned (OpenSpec.upto diceDeckSpec)

end Rows
end Go.Proofs.Ytlnmblmfonmcfaa
