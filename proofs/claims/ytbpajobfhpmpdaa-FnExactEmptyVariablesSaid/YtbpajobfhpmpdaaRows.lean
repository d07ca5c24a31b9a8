/-
  No cell of these rows narrows 'for every input' (looked for: loops, veiled, ifaces, maps, wideKeys, modest, calm, conditions, laid).
  DERIVED. THE GIVEN ROWS OF THIS SEAT. 6 by the template 'for every input the law returns true; each argument reads behind the call as it read before'; 0 by the template 'total and deterministic' (their statements: YtbpajobfhpmpdaaTotals.lean).
  GIVEN WITH THE SEED: the statements are not yours to turn. If you find one false, say at which input.
  Laid BY PROGRAM, IN A SANDBOX (cutbox-rows.mjs): the forced cells as the released guide's own fill.sh prints them over the translation d06fbc131e1f7893… (all of the seat's roots in one cut). By AI agents, Wed Nov 11 2026. No macro, syntax, notation, axiom, sorry.
-/
import Derived.Test.YtbpajobfhpmpdaaChecked
import GoSem.Claim
import GoSem.ClaimJoined
import GoSem.ClaimMapViews
import Derived.JoinedTies
import Derived.KernelRfl
namespace Go.Proofs.Ytbpajobfhpmpdaa
/- THE CELL 'sum', in the pinned program and in every row, IS THE sha256 OF THE DUMP (.gsa) THAT YtbpajobfhpmpdaaProg.lean LOADS. Nothing in Lean hashes anything: it is a label: what it is worth is what the hold of that sum in a sandbox is worth. -/
noncomputable def Try.pinned : Pinned := { name := "ytbpajobfhpmpdaa", sum := "d06fbc131e1f789304693030a758c321f749fa65d9aecda95851f0dd8a715d40", checked := Try.checked }
namespace Rows
def none {H : Type} : Left H := { results := [], args := [] }

/-- 'laws.FnExactIsNetwork': WHATEVER THE INPUT: true; the input reads as it did. -/
def fnExactIsNetworkSpec : ChangeSpec := { name := "fnExactIsNetwork", fn := fun _ => fun
  | [d] => { results := [.lit (.bool true)], args := [d] }
  | _ => none }
def fnExactIsNetworkRow : OpenClaim := { program := "ytbpajobfhpmpdaa", sum := "d06fbc131e1f789304693030a758c321f749fa65d9aecda95851f0dd8a715d40", func := "loop.example/g01034/laws.FnExactIsNetwork", spec := "fnExactIsNetwork", unfollowed := true, recurses := true, apart := false }
def FnExactIsNetworkSaid : Prop := fnExactIsNetworkRow.holds Try.pinned (OpenSpec.ofChange fnExactIsNetworkSpec)

/-- ITS FALSE NEIGHBOUR: 'it returns false'. Refute it at one input. -/
def fnExactIsNetworkWrong : ChangeSpec := { name := "fnExactIsNetwork", fn := fun _ => fun
  | [d] => { results := [.lit (.bool false)], args := [d] }
  | _ => none }
def FnExactIsNetworkWrongFalsely : Prop := fnExactIsNetworkRow.holds Try.pinned (OpenSpec.ofChange fnExactIsNetworkWrong)

/-- 'laws.FnExactCountStatements': WHATEVER THE INPUT: true; the input reads as it did. -/
def fnExactCountStatementsSpec : ChangeSpec := { name := "fnExactCountStatements", fn := fun _ => fun
  | [d] => { results := [.lit (.bool true)], args := [d] }
  | _ => none }
def fnExactCountStatementsRow : OpenClaim := { program := "ytbpajobfhpmpdaa", sum := "d06fbc131e1f789304693030a758c321f749fa65d9aecda95851f0dd8a715d40", func := "loop.example/g01034/laws.FnExactCountStatements", spec := "fnExactCountStatements", unfollowed := true, recurses := true, apart := false }
def FnExactCountStatementsSaid : Prop := fnExactCountStatementsRow.holds Try.pinned (OpenSpec.ofChange fnExactCountStatementsSpec)

/-- ITS FALSE NEIGHBOUR: 'it returns false'. Refute it at one input. -/
def fnExactCountStatementsWrong : ChangeSpec := { name := "fnExactCountStatements", fn := fun _ => fun
  | [d] => { results := [.lit (.bool false)], args := [d] }
  | _ => none }
def FnExactCountStatementsWrongFalsely : Prop := fnExactCountStatementsRow.holds Try.pinned (OpenSpec.ofChange fnExactCountStatementsWrong)

/-- 'laws.FnExactLostDays': WHATEVER THE INPUT: true; the input reads as it did. -/
def fnExactLostDaysSpec : ChangeSpec := { name := "fnExactLostDays", fn := fun _ => fun
  | [d1, d2] => { results := [.lit (.bool true)], args := [d1, d2] }
  | _ => none }
def fnExactLostDaysRow : OpenClaim := { program := "ytbpajobfhpmpdaa", sum := "d06fbc131e1f789304693030a758c321f749fa65d9aecda95851f0dd8a715d40", func := "loop.example/g01034/laws.FnExactLostDays", spec := "fnExactLostDays", unfollowed := true, recurses := true, apart := false }
def FnExactLostDaysSaid : Prop := fnExactLostDaysRow.holds Try.pinned (OpenSpec.ofChange fnExactLostDaysSpec)

/-- ITS FALSE NEIGHBOUR: 'it returns false'. Refute it at one input. -/
def fnExactLostDaysWrong : ChangeSpec := { name := "fnExactLostDays", fn := fun _ => fun
  | [d1, d2] => { results := [.lit (.bool false)], args := [d1, d2] }
  | _ => none }
def FnExactLostDaysWrongFalsely : Prop := fnExactLostDaysRow.holds Try.pinned (OpenSpec.ofChange fnExactLostDaysWrong)

/-- 'laws.FnExactCountChoices': WHATEVER THE INPUT: true; the input reads as it did. -/
def fnExactCountChoicesSpec : ChangeSpec := { name := "fnExactCountChoices", fn := fun _ => fun
  | [d] => { results := [.lit (.bool true)], args := [d] }
  | _ => none }
def fnExactCountChoicesRow : OpenClaim := { program := "ytbpajobfhpmpdaa", sum := "d06fbc131e1f789304693030a758c321f749fa65d9aecda95851f0dd8a715d40", func := "loop.example/g01034/laws.FnExactCountChoices", spec := "fnExactCountChoices", unfollowed := true, recurses := true, apart := false }
def FnExactCountChoicesSaid : Prop := fnExactCountChoicesRow.holds Try.pinned (OpenSpec.ofChange fnExactCountChoicesSpec)

/-- ITS FALSE NEIGHBOUR: 'it returns false'. Refute it at one input. -/
def fnExactCountChoicesWrong : ChangeSpec := { name := "fnExactCountChoices", fn := fun _ => fun
  | [d] => { results := [.lit (.bool false)], args := [d] }
  | _ => none }
def FnExactCountChoicesWrongFalsely : Prop := fnExactCountChoicesRow.holds Try.pinned (OpenSpec.ofChange fnExactCountChoicesWrong)

/-- 'laws.FnExactEmptyVariables': WHATEVER THE INPUT: true; the input reads as it did. -/
def fnExactEmptyVariablesSpec : ChangeSpec := { name := "fnExactEmptyVariables", fn := fun _ => fun
  | [d] => { results := [.lit (.bool true)], args := [d] }
  | _ => none }
def fnExactEmptyVariablesRow : OpenClaim := { program := "ytbpajobfhpmpdaa", sum := "d06fbc131e1f789304693030a758c321f749fa65d9aecda95851f0dd8a715d40", func := "loop.example/g01034/laws.FnExactEmptyVariables", spec := "fnExactEmptyVariables", unfollowed := true, recurses := true, apart := false }
def FnExactEmptyVariablesSaid : Prop := fnExactEmptyVariablesRow.holds Try.pinned (OpenSpec.ofChange fnExactEmptyVariablesSpec)

/-- ITS FALSE NEIGHBOUR: 'it returns false'. Refute it at one input. -/
def fnExactEmptyVariablesWrong : ChangeSpec := { name := "fnExactEmptyVariables", fn := fun _ => fun
  | [d] => { results := [.lit (.bool false)], args := [d] }
  | _ => none }
def FnExactEmptyVariablesWrongFalsely : Prop := fnExactEmptyVariablesRow.holds Try.pinned (OpenSpec.ofChange fnExactEmptyVariablesWrong)

/-- 'laws.FnExactDoSolve': WHATEVER THE INPUT: true; the input reads as it did. -/
def fnExactDoSolveSpec : ChangeSpec := { name := "fnExactDoSolve", fn := fun _ => fun
  | [d1, d2] => { results := [.lit (.bool true)], args := [d1, d2] }
  | _ => none }
def fnExactDoSolveRow : OpenClaim := { program := "ytbpajobfhpmpdaa", sum := "d06fbc131e1f789304693030a758c321f749fa65d9aecda95851f0dd8a715d40", func := "loop.example/g01034/laws.FnExactDoSolve", spec := "fnExactDoSolve", unfollowed := true, recurses := true, apart := false }
def FnExactDoSolveSaid : Prop := fnExactDoSolveRow.holds Try.pinned (OpenSpec.ofChange fnExactDoSolveSpec)

/-- ITS FALSE NEIGHBOUR: 'it returns false'. Refute it at one input. -/
def fnExactDoSolveWrong : ChangeSpec := { name := "fnExactDoSolve", fn := fun _ => fun
  | [d1, d2] => { results := [.lit (.bool false)], args := [d1, d2] }
  | _ => none }
def FnExactDoSolveWrongFalsely : Prop := fnExactDoSolveRow.holds Try.pinned (OpenSpec.ofChange fnExactDoSolveWrong)

/- THE SECOND FORM. 'bulk': how many values and letters a reading holds, each counted each time it is reached (what is shared counts as often as it is met; a slice's spare places count too). A statement '..UptoSaid' is the law's where the arguments, and the package variables that the reading takes, are together of bulk at most 1048576: NARROWER than '..Said'. Prove '..Said' where nothing that the law and all that it calls make is longer than what came in: it says more and counts as full. Else prove '..UptoSaid'. A law counts once. -/
mutual
def uptoBulk {H : Type} : DataW H → Nat
  | .lit (.string bytes) => bytes.length + 1
  | .lit _ => 1
  | .nil => 1
  | .ptr d => uptoBulk d + 1
  | .slice elems spare => uptoBulkAll elems + uptoBulkAll spare + 1
  | .agg parts => uptoBulkAll parts + 1
  | .iface _ d => uptoBulk d + 1
  | .map entries => uptoBulkEntries entries + 1
  | .held _ => 1
def uptoBulkAll {H : Type} : List (DataW H) → Nat
  | [] => 0
  | d :: r => uptoBulk d + uptoBulkAll r
def uptoBulkEntries {H : Type} : List (Lit × DataW H) → Nat
  | [] => 0
  | x :: r => uptoBulkEntry x + uptoBulkEntries r
def uptoBulkEntry {H : Type} : Lit × DataW H → Nat
  | (.string bytes, d) => bytes.length + uptoBulk d + 1
  | (_, d) => uptoBulk d + 1
 end
def uptoSmall : (H : Type) → List (DataW H) → Bool := fun _ ds => decide (uptoBulkAll ds ≤ 1048576)
def OpenSpec.upto (s : _root_.Go.ChangeSpec) : _root_.Go.OpenSpec := { _root_.Go.OpenSpec.ofChange s with cond := some uptoSmall }

/-- 'laws.FnExactIsNetwork', WHERE WHAT IT READS IS OF BULK AT MOST 1048576: true; the input reads as it did. -/
def fnExactIsNetworkUptoRow : OpenClaim := { program := "ytbpajobfhpmpdaa", sum := "d06fbc131e1f789304693030a758c321f749fa65d9aecda95851f0dd8a715d40", func := "loop.example/g01034/laws.FnExactIsNetwork", spec := "fnExactIsNetwork", unfollowed := true, recurses := true, apart := false, narrowed := true }
def FnExactIsNetworkUptoSaid : Prop := fnExactIsNetworkUptoRow.holds Try.pinned (OpenSpec.upto fnExactIsNetworkSpec)

/-- 'laws.FnExactCountStatements', WHERE WHAT IT READS IS OF BULK AT MOST 1048576: true; the input reads as it did. -/
def fnExactCountStatementsUptoRow : OpenClaim := { program := "ytbpajobfhpmpdaa", sum := "d06fbc131e1f789304693030a758c321f749fa65d9aecda95851f0dd8a715d40", func := "loop.example/g01034/laws.FnExactCountStatements", spec := "fnExactCountStatements", unfollowed := true, recurses := true, apart := false, narrowed := true }
def FnExactCountStatementsUptoSaid : Prop := fnExactCountStatementsUptoRow.holds Try.pinned (OpenSpec.upto fnExactCountStatementsSpec)

/-- 'laws.FnExactLostDays', WHERE WHAT IT READS IS OF BULK AT MOST 1048576: true; the input reads as it did. -/
def fnExactLostDaysUptoRow : OpenClaim := { program := "ytbpajobfhpmpdaa", sum := "d06fbc131e1f789304693030a758c321f749fa65d9aecda95851f0dd8a715d40", func := "loop.example/g01034/laws.FnExactLostDays", spec := "fnExactLostDays", unfollowed := true, recurses := true, apart := false, narrowed := true }
def FnExactLostDaysUptoSaid : Prop := fnExactLostDaysUptoRow.holds Try.pinned (OpenSpec.upto fnExactLostDaysSpec)

/-- 'laws.FnExactCountChoices', WHERE WHAT IT READS IS OF BULK AT MOST 1048576: true; the input reads as it did. -/
def fnExactCountChoicesUptoRow : OpenClaim := { program := "ytbpajobfhpmpdaa", sum := "d06fbc131e1f789304693030a758c321f749fa65d9aecda95851f0dd8a715d40", func := "loop.example/g01034/laws.FnExactCountChoices", spec := "fnExactCountChoices", unfollowed := true, recurses := true, apart := false, narrowed := true }
def FnExactCountChoicesUptoSaid : Prop := fnExactCountChoicesUptoRow.holds Try.pinned (OpenSpec.upto fnExactCountChoicesSpec)

/-- 'laws.FnExactEmptyVariables', WHERE WHAT IT READS IS OF BULK AT MOST 1048576: true; the input reads as it did. -/
def fnExactEmptyVariablesUptoRow : OpenClaim := { program := "ytbpajobfhpmpdaa", sum := "d06fbc131e1f789304693030a758c321f749fa65d9aecda95851f0dd8a715d40", func := "loop.example/g01034/laws.FnExactEmptyVariables", spec := "fnExactEmptyVariables", unfollowed := true, recurses := true, apart := false, narrowed := true }
def FnExactEmptyVariablesUptoSaid : Prop := fnExactEmptyVariablesUptoRow.holds Try.pinned (OpenSpec.upto fnExactEmptyVariablesSpec)

/-- 'laws.FnExactDoSolve', WHERE WHAT IT READS IS OF BULK AT MOST 1048576: true; the input reads as it did. -/
def fnExactDoSolveUptoRow : OpenClaim := { program := "ytbpajobfhpmpdaa", sum := "d06fbc131e1f789304693030a758c321f749fa65d9aecda95851f0dd8a715d40", func := "loop.example/g01034/laws.FnExactDoSolve", spec := "fnExactDoSolve", unfollowed := true, recurses := true, apart := false, narrowed := true }
def FnExactDoSolveUptoSaid : Prop := fnExactDoSolveUptoRow.holds Try.pinned (OpenSpec.upto fnExactDoSolveSpec)

end Rows
end Go.Proofs.Ytbpajobfhpmpdaa
