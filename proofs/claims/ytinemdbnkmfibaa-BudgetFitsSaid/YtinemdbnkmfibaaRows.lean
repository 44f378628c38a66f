/-
  No cell of these rows narrows 'for every input' (looked for: loops, veiled, ifaces, maps, wideKeys, modest, calm, conditions, laid).
  DERIVED. THE GIVEN ROWS OF THIS SEAT. 6 by the template 'for every input the law returns true; each argument reads behind the call as it read before'; 0 by the template 'total and deterministic' (their statements: YtinemdbnkmfibaaTotals.lean).
  GIVEN WITH THE SEED: the statements are not yours to turn. If you find one false, say at which input.
  Laid BY PROGRAM, IN A SANDBOX (cutbox-rows.mjs): the forced cells as the released guide's own fill.sh prints them over the translation ca5a768a07821bd8… (all of the seat's roots in one cut). By AI agents, Wed Nov 11 2026. No macro, syntax, notation, axiom, sorry.
-/
import Derived.Test.YtinemdbnkmfibaaChecked
import GoSem.Claim
import GoSem.ClaimJoined
import GoSem.ClaimMapViews
import Derived.JoinedTies
import Derived.KernelRfl
namespace Go.Proofs.Ytinemdbnkmfibaa
/- THE CELL 'sum', in the pinned program and in every row, IS THE sha256 OF THE DUMP (.gsa) THAT YtinemdbnkmfibaaProg.lean LOADS. Nothing in Lean hashes anything: it is a label: what it is worth is what the hold of that sum in a sandbox is worth. -/
noncomputable def Try.pinned : Pinned := { name := "ytinemdbnkmfibaa", sum := "ca5a768a07821bd825af303bbc12946c1823579487adaa8d460d2ca637d4b578", checked := Try.checked }
namespace Rows
def none {H : Type} : Left H := { results := [], args := [] }

/-- 'skylightlaw47.HistRanks': WHATEVER THE INPUT: true; the input reads as it did. -/
def histRanksSpec : ChangeSpec := { name := "histRanks", fn := fun _ => fun
  | [d1, d2, d3] => { results := [.lit (.bool true)], args := [d1, d2, d3] }
  | _ => none }
def histRanksRow : OpenClaim := { program := "ytinemdbnkmfibaa", sum := "ca5a768a07821bd825af303bbc12946c1823579487adaa8d460d2ca637d4b578", func := "skylight/skylightlaw47.HistRanks", spec := "histRanks", apart := false }
def HistRanksSaid : Prop := histRanksRow.holds Try.pinned (OpenSpec.ofChange histRanksSpec)

/-- ITS FALSE NEIGHBOUR: 'it returns false'. Refute it at one input. -/
def histRanksWrong : ChangeSpec := { name := "histRanks", fn := fun _ => fun
  | [d1, d2, d3] => { results := [.lit (.bool false)], args := [d1, d2, d3] }
  | _ => none }
def HistRanksWrongFalsely : Prop := histRanksRow.holds Try.pinned (OpenSpec.ofChange histRanksWrong)

/-- 'skylightlaw47.HistTells': WHATEVER THE INPUT: true; the input reads as it did. -/
def histTellsSpec : ChangeSpec := { name := "histTells", fn := fun _ => fun
  | [d1, d2, d3, d4] => { results := [.lit (.bool true)], args := [d1, d2, d3, d4] }
  | _ => none }
def histTellsRow : OpenClaim := { program := "ytinemdbnkmfibaa", sum := "ca5a768a07821bd825af303bbc12946c1823579487adaa8d460d2ca637d4b578", func := "skylight/skylightlaw47.HistTells", spec := "histTells", unfollowed := true, recurses := true, apart := false }
def HistTellsSaid : Prop := histTellsRow.holds Try.pinned (OpenSpec.ofChange histTellsSpec)

/-- ITS FALSE NEIGHBOUR: 'it returns false'. Refute it at one input. -/
def histTellsWrong : ChangeSpec := { name := "histTells", fn := fun _ => fun
  | [d1, d2, d3, d4] => { results := [.lit (.bool false)], args := [d1, d2, d3, d4] }
  | _ => none }
def HistTellsWrongFalsely : Prop := histTellsRow.holds Try.pinned (OpenSpec.ofChange histTellsWrong)

/-- 'skylightlaw47.HistEven': WHATEVER THE INPUT: true; the input reads as it did. -/
def histEvenSpec : ChangeSpec := { name := "histEven", fn := fun _ => fun
  | [d1, d2, d3] => { results := [.lit (.bool true)], args := [d1, d2, d3] }
  | _ => none }
def histEvenRow : OpenClaim := { program := "ytinemdbnkmfibaa", sum := "ca5a768a07821bd825af303bbc12946c1823579487adaa8d460d2ca637d4b578", func := "skylight/skylightlaw47.HistEven", spec := "histEven", unfollowed := true, recurses := true, apart := false }
def HistEvenSaid : Prop := histEvenRow.holds Try.pinned (OpenSpec.ofChange histEvenSpec)

/-- ITS FALSE NEIGHBOUR: 'it returns false'. Refute it at one input. -/
def histEvenWrong : ChangeSpec := { name := "histEven", fn := fun _ => fun
  | [d1, d2, d3] => { results := [.lit (.bool false)], args := [d1, d2, d3] }
  | _ => none }
def HistEvenWrongFalsely : Prop := histEvenRow.holds Try.pinned (OpenSpec.ofChange histEvenWrong)

/-- 'skylightlaw48.BlurTells': WHATEVER THE INPUT: true; the input reads as it did. -/
def blurTellsSpec : ChangeSpec := { name := "blurTells", fn := fun _ => fun
  | [d1, d2] => { results := [.lit (.bool true)], args := [d1, d2] }
  | _ => none }
def blurTellsRow : OpenClaim := { program := "ytinemdbnkmfibaa", sum := "ca5a768a07821bd825af303bbc12946c1823579487adaa8d460d2ca637d4b578", func := "skylight/skylightlaw48.BlurTells", spec := "blurTells", unfollowed := true, recurses := true, apart := false }
def BlurTellsSaid : Prop := blurTellsRow.holds Try.pinned (OpenSpec.ofChange blurTellsSpec)

/-- ITS FALSE NEIGHBOUR: 'it returns false'. Refute it at one input. -/
def blurTellsWrong : ChangeSpec := { name := "blurTells", fn := fun _ => fun
  | [d1, d2] => { results := [.lit (.bool false)], args := [d1, d2] }
  | _ => none }
def BlurTellsWrongFalsely : Prop := blurTellsRow.holds Try.pinned (OpenSpec.ofChange blurTellsWrong)

/-- 'skylightlaw48.BlurBetween': WHATEVER THE INPUT: true; the input reads as it did. -/
def blurBetweenSpec : ChangeSpec := { name := "blurBetween", fn := fun _ => fun
  | [d1, d2] => { results := [.lit (.bool true)], args := [d1, d2] }
  | _ => none }
def blurBetweenRow : OpenClaim := { program := "ytinemdbnkmfibaa", sum := "ca5a768a07821bd825af303bbc12946c1823579487adaa8d460d2ca637d4b578", func := "skylight/skylightlaw48.BlurBetween", spec := "blurBetween", unfollowed := true, recurses := true, apart := false }
def BlurBetweenSaid : Prop := blurBetweenRow.holds Try.pinned (OpenSpec.ofChange blurBetweenSpec)

/-- ITS FALSE NEIGHBOUR: 'it returns false'. Refute it at one input. -/
def blurBetweenWrong : ChangeSpec := { name := "blurBetween", fn := fun _ => fun
  | [d1, d2] => { results := [.lit (.bool false)], args := [d1, d2] }
  | _ => none }
def BlurBetweenWrongFalsely : Prop := blurBetweenRow.holds Try.pinned (OpenSpec.ofChange blurBetweenWrong)

/-- 'skylightlaw29.BudgetFits': WHATEVER THE INPUT: true; the input reads as it did. -/
def budgetFitsSpec : ChangeSpec := { name := "budgetFits", fn := fun _ => fun
  | [d1, d2] => { results := [.lit (.bool true)], args := [d1, d2] }
  | _ => none }
def budgetFitsRow : OpenClaim := { program := "ytinemdbnkmfibaa", sum := "ca5a768a07821bd825af303bbc12946c1823579487adaa8d460d2ca637d4b578", func := "skylight/skylightlaw29.BudgetFits", spec := "budgetFits", inPlace := ["math/bits.Add64"], apart := false }
def BudgetFitsSaid : Prop := budgetFitsRow.holds Try.pinned (OpenSpec.ofChange budgetFitsSpec)

/-- ITS FALSE NEIGHBOUR: 'it returns false'. Refute it at one input. -/
def budgetFitsWrong : ChangeSpec := { name := "budgetFits", fn := fun _ => fun
  | [d1, d2] => { results := [.lit (.bool false)], args := [d1, d2] }
  | _ => none }
def BudgetFitsWrongFalsely : Prop := budgetFitsRow.holds Try.pinned (OpenSpec.ofChange budgetFitsWrong)

/- THE SECOND FORM. 'bulk': how many values and letters a reading holds, each counted each time it is reached (what is shared counts as often as it is met; a slice's spare places count too). A statement '..UptoSaid' is the law's where the arguments, and the package variables that the reading takes, are together of bulk at most 1048576: NARROWER than '..Said'. Prove '..Said' where nothing that the law and all that it calls make is longer than what came in: it says more and counts as full. Else prove '..UptoSaid'. A law counts once. -/
mutual
def uptoBulk {H : Type} : DataW H → Nat
  | .lit (.string bytes) => bytes.length + 1
  | .lit _ => 1
  | .nil => 1
  | .ptr d => uptoBulk d + 1
  | .slice elems spare => uptoBulkAll elems + uptoBulkAll spare + 1
  | .agg parts => uptoBulkAll parts + 1
  | .iface _ d => uptoBulk d + 1
  | .map entries => uptoBulkEntries entries + 1
  | .held _ => 1
def uptoBulkAll {H : Type} : List (DataW H) → Nat
  | [] => 0
  | d :: r => uptoBulk d + uptoBulkAll r
def uptoBulkEntries {H : Type} : List (Lit × DataW H) → Nat
  | [] => 0
  | x :: r => uptoBulkEntry x + uptoBulkEntries r
def uptoBulkEntry {H : Type} : Lit × DataW H → Nat
  | (.string bytes, d) => bytes.length + uptoBulk d + 1
  | (_, d) => uptoBulk d + 1
 end
def uptoSmall : (H : Type) → List (DataW H) → Bool := fun _ ds => decide (uptoBulkAll ds ≤ 1048576)
def OpenSpec.upto (s : _root_.Go.ChangeSpec) : _root_.Go.OpenSpec := { _root_.Go.OpenSpec.ofChange s with cond := some uptoSmall }

/-- 'skylightlaw47.HistRanks', WHERE WHAT IT READS IS OF BULK AT MOST 1048576: true; the input reads as it did. -/
def histRanksUptoRow : OpenClaim := { program := "ytinemdbnkmfibaa", sum := "ca5a768a07821bd825af303bbc12946c1823579487adaa8d460d2ca637d4b578", func := "skylight/skylightlaw47.HistRanks", spec := "histRanks", apart := false, narrowed := true }
def HistRanksUptoSaid : Prop := histRanksUptoRow.holds Try.pinned (OpenSpec.upto histRanksSpec)

/-- 'skylightlaw47.HistTells', WHERE WHAT IT READS IS OF BULK AT MOST 1048576: true; the input reads as it did. -/
def histTellsUptoRow : OpenClaim := { program := "ytinemdbnkmfibaa", sum := "ca5a768a07821bd825af303bbc12946c1823579487adaa8d460d2ca637d4b578", func := "skylight/skylightlaw47.HistTells", spec := "histTells", unfollowed := true, recurses := true, apart := false, narrowed := true }
def HistTellsUptoSaid : Prop := histTellsUptoRow.holds Try.pinned (OpenSpec.upto histTellsSpec)

/-- 'skylightlaw47.HistEven', WHERE WHAT IT READS IS OF BULK AT MOST 1048576: true; the input reads as it did. -/
def histEvenUptoRow : OpenClaim := { program := "ytinemdbnkmfibaa", sum := "ca5a768a07821bd825af303bbc12946c1823579487adaa8d460d2ca637d4b578", func := "skylight/skylightlaw47.HistEven", spec := "histEven", unfollowed := true, recurses := true, apart := false, narrowed := true }
def HistEvenUptoSaid : Prop := histEvenUptoRow.holds Try.pinned (OpenSpec.upto histEvenSpec)

/-- 'skylightlaw48.BlurTells', WHERE WHAT IT READS IS OF BULK AT MOST 1048576: true; the input reads as it did. -/
def blurTellsUptoRow : OpenClaim := { program := "ytinemdbnkmfibaa", sum := "ca5a768a07821bd825af303bbc12946c1823579487adaa8d460d2ca637d4b578", func := "skylight/skylightlaw48.BlurTells", spec := "blurTells", unfollowed := true, recurses := true, apart := false, narrowed := true }
def BlurTellsUptoSaid : Prop := blurTellsUptoRow.holds Try.pinned (OpenSpec.upto blurTellsSpec)

/-- 'skylightlaw48.BlurBetween', WHERE WHAT IT READS IS OF BULK AT MOST 1048576: true; the input reads as it did. -/
def blurBetweenUptoRow : OpenClaim := { program := "ytinemdbnkmfibaa", sum := "ca5a768a07821bd825af303bbc12946c1823579487adaa8d460d2ca637d4b578", func := "skylight/skylightlaw48.BlurBetween", spec := "blurBetween", unfollowed := true, recurses := true, apart := false, narrowed := true }
def BlurBetweenUptoSaid : Prop := blurBetweenUptoRow.holds Try.pinned (OpenSpec.upto blurBetweenSpec)

/-- 'skylightlaw29.BudgetFits', WHERE WHAT IT READS IS OF BULK AT MOST 1048576: true; the input reads as it did. -/
def budgetFitsUptoRow : OpenClaim := { program := "ytinemdbnkmfibaa", sum := "ca5a768a07821bd825af303bbc12946c1823579487adaa8d460d2ca637d4b578", func := "skylight/skylightlaw29.BudgetFits", spec := "budgetFits", inPlace := ["math/bits.Add64"], apart := false, narrowed := true }
def BudgetFitsUptoSaid : Prop := budgetFitsUptoRow.holds Try.pinned (OpenSpec.upto budgetFitsSpec)

end Rows
end Go.Proofs.Ytinemdbnkmfibaa
