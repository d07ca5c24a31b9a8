/-
  No cell of these rows narrows 'for every input' (looked for: loops, veiled, ifaces, maps, wideKeys, modest, calm, conditions, laid).
  DERIVED. THE GIVEN ROWS OF THIS SEAT. 4 by the template 'for every input the law returns true; each argument reads behind the call as it read before'; 0 by the template 'total and deterministic' (their statements: YtfociflfeednfaaTotals.lean).
  GIVEN WITH THE SEED: the statements are not yours to turn. If you find one false, say at which input.
  Laid BY PROGRAM, IN A SANDBOX (cutbox-rows.mjs): the forced cells as the released guide's own fill.sh prints them over the translation 6af66f3b30b89eb8… (all of the seat's roots in one cut). By AI agents, Wed Nov 11 2026. No macro, syntax, notation, axiom, sorry.
-/
import Derived.Test.YtfociflfeednfaaChecked
import GoSem.Claim
import GoSem.ClaimJoined
import GoSem.ClaimMapViews
import Derived.JoinedTies
import Derived.KernelRfl
namespace Go.Proofs.Ytfociflfeednfaa
/- THE CELL 'sum', in the pinned program and in every row, IS THE sha256 OF THE DUMP (.gsa) THAT YtfociflfeednfaaProg.lean LOADS. Nothing in Lean hashes anything: it is a label: what it is worth is what the hold of that sum in a sandbox is worth. -/
noncomputable def Try.pinned : Pinned := { name := "ytfociflfeednfaa", sum := "6af66f3b30b89eb824aec5ced487e77cdbb696f37c07d0cc234ce52b796c5dfa", checked := Try.checked }
namespace Rows
def none {H : Type} : Left H := { results := [], args := [] }

/-- 'laws.FnExactIsConflict': WHATEVER THE INPUT: true; the input reads as it did. -/
def fnExactIsConflictSpec : ChangeSpec := { name := "fnExactIsConflict", fn := fun _ => fun
  | [d1, d2] => { results := [.lit (.bool true)], args := [d1, d2] }
  | _ => none }
def fnExactIsConflictRow : OpenClaim := { program := "ytfociflfeednfaa", sum := "6af66f3b30b89eb824aec5ced487e77cdbb696f37c07d0cc234ce52b796c5dfa", func := "loop.example/g01034/laws.FnExactIsConflict", spec := "fnExactIsConflict", unfollowed := true, recurses := true, apart := false }
def FnExactIsConflictSaid : Prop := fnExactIsConflictRow.holds Try.pinned (OpenSpec.ofChange fnExactIsConflictSpec)

/-- ITS FALSE NEIGHBOUR: 'it returns false'. Refute it at one input. -/
def fnExactIsConflictWrong : ChangeSpec := { name := "fnExactIsConflict", fn := fun _ => fun
  | [d1, d2] => { results := [.lit (.bool false)], args := [d1, d2] }
  | _ => none }
def FnExactIsConflictWrongFalsely : Prop := fnExactIsConflictRow.holds Try.pinned (OpenSpec.ofChange fnExactIsConflictWrong)

/-- 'laws.FnExactDisputedStatements': WHATEVER THE INPUT: true; the input reads as it did. -/
def fnExactDisputedStatementsSpec : ChangeSpec := { name := "fnExactDisputedStatements", fn := fun _ => fun
  | [d] => { results := [.lit (.bool true)], args := [d] }
  | _ => none }
def fnExactDisputedStatementsRow : OpenClaim := { program := "ytfociflfeednfaa", sum := "6af66f3b30b89eb824aec5ced487e77cdbb696f37c07d0cc234ce52b796c5dfa", func := "loop.example/g01034/laws.FnExactDisputedStatements", spec := "fnExactDisputedStatements", unfollowed := true, recurses := true, apart := false }
def FnExactDisputedStatementsSaid : Prop := fnExactDisputedStatementsRow.holds Try.pinned (OpenSpec.ofChange fnExactDisputedStatementsSpec)

/-- ITS FALSE NEIGHBOUR: 'it returns false'. Refute it at one input. -/
def fnExactDisputedStatementsWrong : ChangeSpec := { name := "fnExactDisputedStatements", fn := fun _ => fun
  | [d] => { results := [.lit (.bool false)], args := [d] }
  | _ => none }
def FnExactDisputedStatementsWrongFalsely : Prop := fnExactDisputedStatementsRow.holds Try.pinned (OpenSpec.ofChange fnExactDisputedStatementsWrong)

/-- 'laws.FnExactSmallestRepair': WHATEVER THE INPUT: true; the input reads as it did. -/
def fnExactSmallestRepairSpec : ChangeSpec := { name := "fnExactSmallestRepair", fn := fun _ => fun
  | [d] => { results := [.lit (.bool true)], args := [d] }
  | _ => none }
def fnExactSmallestRepairRow : OpenClaim := { program := "ytfociflfeednfaa", sum := "6af66f3b30b89eb824aec5ced487e77cdbb696f37c07d0cc234ce52b796c5dfa", func := "loop.example/g01034/laws.FnExactSmallestRepair", spec := "fnExactSmallestRepair", unfollowed := true, recurses := true, apart := false }
def FnExactSmallestRepairSaid : Prop := fnExactSmallestRepairRow.holds Try.pinned (OpenSpec.ofChange fnExactSmallestRepairSpec)

/-- ITS FALSE NEIGHBOUR: 'it returns false'. Refute it at one input. -/
def fnExactSmallestRepairWrong : ChangeSpec := { name := "fnExactSmallestRepair", fn := fun _ => fun
  | [d] => { results := [.lit (.bool false)], args := [d] }
  | _ => none }
def FnExactSmallestRepairWrongFalsely : Prop := fnExactSmallestRepairRow.holds Try.pinned (OpenSpec.ofChange fnExactSmallestRepairWrong)

/-- 'laws.FnExactFindConflict': WHATEVER THE INPUT: true; the input reads as it did. -/
def fnExactFindConflictSpec : ChangeSpec := { name := "fnExactFindConflict", fn := fun _ => fun
  | [d] => { results := [.lit (.bool true)], args := [d] }
  | _ => none }
def fnExactFindConflictRow : OpenClaim := { program := "ytfociflfeednfaa", sum := "6af66f3b30b89eb824aec5ced487e77cdbb696f37c07d0cc234ce52b796c5dfa", func := "loop.example/g01034/laws.FnExactFindConflict", spec := "fnExactFindConflict", unfollowed := true, recurses := true, apart := false }
def FnExactFindConflictSaid : Prop := fnExactFindConflictRow.holds Try.pinned (OpenSpec.ofChange fnExactFindConflictSpec)

/-- ITS FALSE NEIGHBOUR: 'it returns false'. Refute it at one input. -/
def fnExactFindConflictWrong : ChangeSpec := { name := "fnExactFindConflict", fn := fun _ => fun
  | [d] => { results := [.lit (.bool false)], args := [d] }
  | _ => none }
def FnExactFindConflictWrongFalsely : Prop := fnExactFindConflictRow.holds Try.pinned (OpenSpec.ofChange fnExactFindConflictWrong)

/- THE SECOND FORM. 'bulk': how many values and letters a reading holds, each counted each time it is reached (what is shared counts as often as it is met; a slice's spare places count too). A statement '..UptoSaid' is the law's where the arguments, and the package variables that the reading takes, are together of bulk at most 1048576: NARROWER than '..Said'. Prove '..Said' where nothing that the law and all that it calls make is longer than what came in: it says more and counts as full. Else prove '..UptoSaid'. A law counts once. -/
mutual
def uptoBulk {H : Type} : DataW H → Nat
  | .lit (.string bytes) => bytes.length + 1
  | .lit _ => 1
  | .nil => 1
  | .ptr d => uptoBulk d + 1
  | .slice elems spare => uptoBulkAll elems + uptoBulkAll spare + 1
  | .agg parts => uptoBulkAll parts + 1
  | .iface _ d => uptoBulk d + 1
  | .map entries => uptoBulkEntries entries + 1
  | .held _ => 1
def uptoBulkAll {H : Type} : List (DataW H) → Nat
  | [] => 0
  | d :: r => uptoBulk d + uptoBulkAll r
def uptoBulkEntries {H : Type} : List (Lit × DataW H) → Nat
  | [] => 0
  | x :: r => uptoBulkEntry x + uptoBulkEntries r
def uptoBulkEntry {H : Type} : Lit × DataW H → Nat
  | (.string bytes, d) => bytes.length + uptoBulk d + 1
  | (_, d) => uptoBulk d + 1
 end
def uptoSmall : (H : Type) → List (DataW H) → Bool := fun _ ds => decide (uptoBulkAll ds ≤ 1048576)
def OpenSpec.upto (s : _root_.Go.ChangeSpec) : _root_.Go.OpenSpec := { _root_.Go.OpenSpec.ofChange s with cond := some uptoSmall }

/-- 'laws.FnExactIsConflict', WHERE WHAT IT READS IS OF BULK AT MOST 1048576: true; the input reads as it did. -/
def fnExactIsConflictUptoRow : OpenClaim := { program := "ytfociflfeednfaa", sum := "6af66f3b30b89eb824aec5ced487e77cdbb696f37c07d0cc234ce52b796c5dfa", func := "loop.example/g01034/laws.FnExactIsConflict", spec := "fnExactIsConflict", unfollowed := true, recurses := true, apart := false, narrowed := true }
def FnExactIsConflictUptoSaid : Prop := fnExactIsConflictUptoRow.holds Try.pinned (OpenSpec.upto fnExactIsConflictSpec)

/-- 'laws.FnExactDisputedStatements', WHERE WHAT IT READS IS OF BULK AT MOST 1048576: true; the input reads as it did. -/
def fnExactDisputedStatementsUptoRow : OpenClaim := { program := "ytfociflfeednfaa", sum := "6af66f3b30b89eb824aec5ced487e77cdbb696f37c07d0cc234ce52b796c5dfa", func := "loop.example/g01034/laws.FnExactDisputedStatements", spec := "fnExactDisputedStatements", unfollowed := true, recurses := true, apart := false, narrowed := true }
def FnExactDisputedStatementsUptoSaid : Prop := fnExactDisputedStatementsUptoRow.holds Try.pinned (OpenSpec.upto fnExactDisputedStatementsSpec)

/-- 'laws.FnExactSmallestRepair', WHERE WHAT IT READS IS OF BULK AT MOST 1048576: true; the input reads as it did. -/
def fnExactSmallestRepairUptoRow : OpenClaim := { program := "ytfociflfeednfaa", sum := "6af66f3b30b89eb824aec5ced487e77cdbb696f37c07d0cc234ce52b796c5dfa", func := "loop.example/g01034/laws.FnExactSmallestRepair", spec := "fnExactSmallestRepair", unfollowed := true, recurses := true, apart := false, narrowed := true }
def FnExactSmallestRepairUptoSaid : Prop := fnExactSmallestRepairUptoRow.holds Try.pinned (OpenSpec.upto fnExactSmallestRepairSpec)

/-- 'laws.FnExactFindConflict', WHERE WHAT IT READS IS OF BULK AT MOST 1048576: true; the input reads as it did. -/
def fnExactFindConflictUptoRow : OpenClaim := { program := "ytfociflfeednfaa", sum := "6af66f3b30b89eb824aec5ced487e77cdbb696f37c07d0cc234ce52b796c5dfa", func := "loop.example/g01034/laws.FnExactFindConflict", spec := "fnExactFindConflict", unfollowed := true, recurses := true, apart := false, narrowed := true }
def FnExactFindConflictUptoSaid : Prop := fnExactFindConflictUptoRow.holds Try.pinned (OpenSpec.upto fnExactFindConflictSpec)

end Rows
end Go.Proofs.Ytfociflfeednfaa
