/-
  No cell of these rows narrows 'for every input' (looked for: loops, veiled, ifaces, maps, wideKeys, modest, calm, conditions, laid).
  DERIVED. THE GIVEN ROWS OF THIS SEAT. 11 by the template 'for every input the law returns true; each argument reads behind the call as it read before'; 0 by the template 'total and deterministic' (their statements: YtkpoelgaomgjlaaTotals.lean).
  GIVEN WITH THE SEED: the statements are not yours to turn. If you find one false, say at which input.
  Laid BY PROGRAM, IN A SANDBOX (cutbox-rows.mjs): the forced cells as the released guide's own fill.sh prints them over the translation 472a62ac622c46e3… (all of the seat's roots in one cut). By AI agents, Wed Nov 11 2026. No macro, syntax, notation, axiom, sorry.
-/
import Derived.Test.YtkpoelgaomgjlaaChecked
import GoSem.Claim
import GoSem.ClaimJoined
import GoSem.ClaimMapViews
import Derived.JoinedTies
import Derived.KernelRfl
namespace Go.Proofs.Ytkpoelgaomgjlaa
/- THE CELL 'sum', in the pinned program and in every row, IS THE sha256 OF THE DUMP (.gsa) THAT YtkpoelgaomgjlaaProg.lean LOADS. Nothing in Lean hashes anything: it is a label: what it is worth is what the hold of that sum in a sandbox is worth. -/
noncomputable def Try.pinned : Pinned := { name := "ytkpoelgaomgjlaa", sum := "472a62ac622c46e39e6bf5b07bb527e3290eb047f2a28951ec5f2851885f07d1", checked := Try.checked }
namespace Rows
def none {H : Type} : Left H := { results := [], args := [] }

/-- 'laws.FnExactTightestGap': WHATEVER THE INPUT: true; the input reads as it did. -/
def fnExactTightestGapSpec : ChangeSpec := { name := "fnExactTightestGap", fn := fun _ => fun
  | [d1, d2, d3] => { results := [.lit (.bool true)], args := [d1, d2, d3] }
  | _ => none }
def fnExactTightestGapRow : OpenClaim := { program := "ytkpoelgaomgjlaa", sum := "472a62ac622c46e39e6bf5b07bb527e3290eb047f2a28951ec5f2851885f07d1", func := "loop.example/g01034/laws.FnExactTightestGap", spec := "fnExactTightestGap", unfollowed := true, recurses := true, apart := false }
def FnExactTightestGapSaid : Prop := fnExactTightestGapRow.holds Try.pinned (OpenSpec.ofChange fnExactTightestGapSpec)

/-- ITS FALSE NEIGHBOUR: 'it returns false'. Refute it at one input. -/
def fnExactTightestGapWrong : ChangeSpec := { name := "fnExactTightestGap", fn := fun _ => fun
  | [d1, d2, d3] => { results := [.lit (.bool false)], args := [d1, d2, d3] }
  | _ => none }
def FnExactTightestGapWrongFalsely : Prop := fnExactTightestGapRow.holds Try.pinned (OpenSpec.ofChange fnExactTightestGapWrong)

/-- 'laws.FnExactBrokenLinks': WHATEVER THE INPUT: true; the input reads as it did. -/
def fnExactBrokenLinksSpec : ChangeSpec := { name := "fnExactBrokenLinks", fn := fun _ => fun
  | [d1, d2] => { results := [.lit (.bool true)], args := [d1, d2] }
  | _ => none }
def fnExactBrokenLinksRow : OpenClaim := { program := "ytkpoelgaomgjlaa", sum := "472a62ac622c46e39e6bf5b07bb527e3290eb047f2a28951ec5f2851885f07d1", func := "loop.example/g01034/laws.FnExactBrokenLinks", spec := "fnExactBrokenLinks", unfollowed := true, recurses := true, apart := false }
def FnExactBrokenLinksSaid : Prop := fnExactBrokenLinksRow.holds Try.pinned (OpenSpec.ofChange fnExactBrokenLinksSpec)

/-- ITS FALSE NEIGHBOUR: 'it returns false'. Refute it at one input. -/
def fnExactBrokenLinksWrong : ChangeSpec := { name := "fnExactBrokenLinks", fn := fun _ => fun
  | [d1, d2] => { results := [.lit (.bool false)], args := [d1, d2] }
  | _ => none }
def FnExactBrokenLinksWrongFalsely : Prop := fnExactBrokenLinksRow.holds Try.pinned (OpenSpec.ofChange fnExactBrokenLinksWrong)

/-- 'laws.FnExactAddLink': WHATEVER THE INPUT: true; the input reads as it did. -/
def fnExactAddLinkSpec : ChangeSpec := { name := "fnExactAddLink", fn := fun _ => fun
  | [d1, d2] => { results := [.lit (.bool true)], args := [d1, d2] }
  | _ => none }
def fnExactAddLinkRow : OpenClaim := { program := "ytkpoelgaomgjlaa", sum := "472a62ac622c46e39e6bf5b07bb527e3290eb047f2a28951ec5f2851885f07d1", func := "loop.example/g01034/laws.FnExactAddLink", spec := "fnExactAddLink", unfollowed := true, recurses := true, apart := false }
def FnExactAddLinkSaid : Prop := fnExactAddLinkRow.holds Try.pinned (OpenSpec.ofChange fnExactAddLinkSpec)

/-- ITS FALSE NEIGHBOUR: 'it returns false'. Refute it at one input. -/
def fnExactAddLinkWrong : ChangeSpec := { name := "fnExactAddLink", fn := fun _ => fun
  | [d1, d2] => { results := [.lit (.bool false)], args := [d1, d2] }
  | _ => none }
def FnExactAddLinkWrongFalsely : Prop := fnExactAddLinkRow.holds Try.pinned (OpenSpec.ofChange fnExactAddLinkWrong)

/-- 'laws.FnExactFixDay': WHATEVER THE INPUT: true; the input reads as it did. -/
def fnExactFixDaySpec : ChangeSpec := { name := "fnExactFixDay", fn := fun _ => fun
  | [d1, d2, d3] => { results := [.lit (.bool true)], args := [d1, d2, d3] }
  | _ => none }
def fnExactFixDayRow : OpenClaim := { program := "ytkpoelgaomgjlaa", sum := "472a62ac622c46e39e6bf5b07bb527e3290eb047f2a28951ec5f2851885f07d1", func := "loop.example/g01034/laws.FnExactFixDay", spec := "fnExactFixDay", unfollowed := true, recurses := true, apart := false }
def FnExactFixDaySaid : Prop := fnExactFixDayRow.holds Try.pinned (OpenSpec.ofChange fnExactFixDaySpec)

/-- ITS FALSE NEIGHBOUR: 'it returns false'. Refute it at one input. -/
def fnExactFixDayWrong : ChangeSpec := { name := "fnExactFixDay", fn := fun _ => fun
  | [d1, d2, d3] => { results := [.lit (.bool false)], args := [d1, d2, d3] }
  | _ => none }
def FnExactFixDayWrongFalsely : Prop := fnExactFixDayRow.holds Try.pinned (OpenSpec.ofChange fnExactFixDayWrong)

/-- 'laws.FnExactHasSolution': WHATEVER THE INPUT: true; the input reads as it did. -/
def fnExactHasSolutionSpec : ChangeSpec := { name := "fnExactHasSolution", fn := fun _ => fun
  | [d] => { results := [.lit (.bool true)], args := [d] }
  | _ => none }
def fnExactHasSolutionRow : OpenClaim := { program := "ytkpoelgaomgjlaa", sum := "472a62ac622c46e39e6bf5b07bb527e3290eb047f2a28951ec5f2851885f07d1", func := "loop.example/g01034/laws.FnExactHasSolution", spec := "fnExactHasSolution", unfollowed := true, recurses := true, apart := false }
def FnExactHasSolutionSaid : Prop := fnExactHasSolutionRow.holds Try.pinned (OpenSpec.ofChange fnExactHasSolutionSpec)

/-- ITS FALSE NEIGHBOUR: 'it returns false'. Refute it at one input. -/
def fnExactHasSolutionWrong : ChangeSpec := { name := "fnExactHasSolution", fn := fun _ => fun
  | [d] => { results := [.lit (.bool false)], args := [d] }
  | _ => none }
def FnExactHasSolutionWrongFalsely : Prop := fnExactHasSolutionRow.holds Try.pinned (OpenSpec.ofChange fnExactHasSolutionWrong)

/-- 'laws.FnExactGiveUp': WHATEVER THE INPUT: true; the input reads as it did. -/
def fnExactGiveUpSpec : ChangeSpec := { name := "fnExactGiveUp", fn := fun _ => fun
  | [d1, d2] => { results := [.lit (.bool true)], args := [d1, d2] }
  | _ => none }
def fnExactGiveUpRow : OpenClaim := { program := "ytkpoelgaomgjlaa", sum := "472a62ac622c46e39e6bf5b07bb527e3290eb047f2a28951ec5f2851885f07d1", func := "loop.example/g01034/laws.FnExactGiveUp", spec := "fnExactGiveUp", unfollowed := true, recurses := true, apart := false }
def FnExactGiveUpSaid : Prop := fnExactGiveUpRow.holds Try.pinned (OpenSpec.ofChange fnExactGiveUpSpec)

/-- ITS FALSE NEIGHBOUR: 'it returns false'. Refute it at one input. -/
def fnExactGiveUpWrong : ChangeSpec := { name := "fnExactGiveUp", fn := fun _ => fun
  | [d1, d2] => { results := [.lit (.bool false)], args := [d1, d2] }
  | _ => none }
def FnExactGiveUpWrongFalsely : Prop := fnExactGiveUpRow.holds Try.pinned (OpenSpec.ofChange fnExactGiveUpWrong)

/-- 'laws.FnExactCertainOrder': WHATEVER THE INPUT: true; the input reads as it did. -/
def fnExactCertainOrderSpec : ChangeSpec := { name := "fnExactCertainOrder", fn := fun _ => fun
  | [d1, d2, d3] => { results := [.lit (.bool true)], args := [d1, d2, d3] }
  | _ => none }
def fnExactCertainOrderRow : OpenClaim := { program := "ytkpoelgaomgjlaa", sum := "472a62ac622c46e39e6bf5b07bb527e3290eb047f2a28951ec5f2851885f07d1", func := "loop.example/g01034/laws.FnExactCertainOrder", spec := "fnExactCertainOrder", unfollowed := true, recurses := true, apart := false }
def FnExactCertainOrderSaid : Prop := fnExactCertainOrderRow.holds Try.pinned (OpenSpec.ofChange fnExactCertainOrderSpec)

/-- ITS FALSE NEIGHBOUR: 'it returns false'. Refute it at one input. -/
def fnExactCertainOrderWrong : ChangeSpec := { name := "fnExactCertainOrder", fn := fun _ => fun
  | [d1, d2, d3] => { results := [.lit (.bool false)], args := [d1, d2, d3] }
  | _ => none }
def FnExactCertainOrderWrongFalsely : Prop := fnExactCertainOrderRow.holds Try.pinned (OpenSpec.ofChange fnExactCertainOrderWrong)

/-- 'laws.FnNetworks': WHATEVER THE INPUT: true; the input reads as it did. -/
def fnNetworksSpec : ChangeSpec := { name := "fnNetworks", fn := fun _ => fun
  | [d] => { results := [.lit (.bool true)], args := [d] }
  | _ => none }
def fnNetworksRow : OpenClaim := { program := "ytkpoelgaomgjlaa", sum := "472a62ac622c46e39e6bf5b07bb527e3290eb047f2a28951ec5f2851885f07d1", func := "loop.example/g01034/laws.FnNetworks", spec := "fnNetworks", unfollowed := true, recurses := true, apart := false }
def FnNetworksSaid : Prop := fnNetworksRow.holds Try.pinned (OpenSpec.ofChange fnNetworksSpec)

/-- ITS FALSE NEIGHBOUR: 'it returns false'. Refute it at one input. -/
def fnNetworksWrong : ChangeSpec := { name := "fnNetworks", fn := fun _ => fun
  | [d] => { results := [.lit (.bool false)], args := [d] }
  | _ => none }
def FnNetworksWrongFalsely : Prop := fnNetworksRow.holds Try.pinned (OpenSpec.ofChange fnNetworksWrong)

/-- 'laws.FnExactIsRepair': WHATEVER THE INPUT: true; the input reads as it did. -/
def fnExactIsRepairSpec : ChangeSpec := { name := "fnExactIsRepair", fn := fun _ => fun
  | [d1, d2] => { results := [.lit (.bool true)], args := [d1, d2] }
  | _ => none }
def fnExactIsRepairRow : OpenClaim := { program := "ytkpoelgaomgjlaa", sum := "472a62ac622c46e39e6bf5b07bb527e3290eb047f2a28951ec5f2851885f07d1", func := "loop.example/g01034/laws.FnExactIsRepair", spec := "fnExactIsRepair", unfollowed := true, recurses := true, apart := false }
def FnExactIsRepairSaid : Prop := fnExactIsRepairRow.holds Try.pinned (OpenSpec.ofChange fnExactIsRepairSpec)

/-- ITS FALSE NEIGHBOUR: 'it returns false'. Refute it at one input. -/
def fnExactIsRepairWrong : ChangeSpec := { name := "fnExactIsRepair", fn := fun _ => fun
  | [d1, d2] => { results := [.lit (.bool false)], args := [d1, d2] }
  | _ => none }
def FnExactIsRepairWrongFalsely : Prop := fnExactIsRepairRow.holds Try.pinned (OpenSpec.ofChange fnExactIsRepairWrong)

/-- 'laws.FnExactDoContradict': WHATEVER THE INPUT: true; the input reads as it did. -/
def fnExactDoContradictSpec : ChangeSpec := { name := "fnExactDoContradict", fn := fun _ => fun
  | [d1, d2] => { results := [.lit (.bool true)], args := [d1, d2] }
  | _ => none }
def fnExactDoContradictRow : OpenClaim := { program := "ytkpoelgaomgjlaa", sum := "472a62ac622c46e39e6bf5b07bb527e3290eb047f2a28951ec5f2851885f07d1", func := "loop.example/g01034/laws.FnExactDoContradict", spec := "fnExactDoContradict", unfollowed := true, recurses := true, apart := false }
def FnExactDoContradictSaid : Prop := fnExactDoContradictRow.holds Try.pinned (OpenSpec.ofChange fnExactDoContradictSpec)

/-- ITS FALSE NEIGHBOUR: 'it returns false'. Refute it at one input. -/
def fnExactDoContradictWrong : ChangeSpec := { name := "fnExactDoContradict", fn := fun _ => fun
  | [d1, d2] => { results := [.lit (.bool false)], args := [d1, d2] }
  | _ => none }
def FnExactDoContradictWrongFalsely : Prop := fnExactDoContradictRow.holds Try.pinned (OpenSpec.ofChange fnExactDoContradictWrong)

/-- 'laws.FnExactFirstSolution': WHATEVER THE INPUT: true; the input reads as it did. -/
def fnExactFirstSolutionSpec : ChangeSpec := { name := "fnExactFirstSolution", fn := fun _ => fun
  | [d] => { results := [.lit (.bool true)], args := [d] }
  | _ => none }
def fnExactFirstSolutionRow : OpenClaim := { program := "ytkpoelgaomgjlaa", sum := "472a62ac622c46e39e6bf5b07bb527e3290eb047f2a28951ec5f2851885f07d1", func := "loop.example/g01034/laws.FnExactFirstSolution", spec := "fnExactFirstSolution", unfollowed := true, recurses := true, apart := false }
def FnExactFirstSolutionSaid : Prop := fnExactFirstSolutionRow.holds Try.pinned (OpenSpec.ofChange fnExactFirstSolutionSpec)

/-- ITS FALSE NEIGHBOUR: 'it returns false'. Refute it at one input. -/
def fnExactFirstSolutionWrong : ChangeSpec := { name := "fnExactFirstSolution", fn := fun _ => fun
  | [d] => { results := [.lit (.bool false)], args := [d] }
  | _ => none }
def FnExactFirstSolutionWrongFalsely : Prop := fnExactFirstSolutionRow.holds Try.pinned (OpenSpec.ofChange fnExactFirstSolutionWrong)

/- THE SECOND FORM. 'bulk': how many values and letters a reading holds, each counted each time it is reached (what is shared counts as often as it is met; a slice's spare places count too). A statement '..UptoSaid' is the law's where the arguments, and the package variables that the reading takes, are together of bulk at most 1048576: NARROWER than '..Said'. Prove '..Said' where nothing that the law and all that it calls make is longer than what came in: it says more and counts as full. Else prove '..UptoSaid'. A law counts once. -/
mutual
def uptoBulk {H : Type} : DataW H → Nat
  | .lit (.string bytes) => bytes.length + 1
  | .lit _ => 1
  | .nil => 1
  | .ptr d => uptoBulk d + 1
  | .slice elems spare => uptoBulkAll elems + uptoBulkAll spare + 1
  | .agg parts => uptoBulkAll parts + 1
  | .iface _ d => uptoBulk d + 1
  | .map entries => uptoBulkEntries entries + 1
  | .held _ => 1
def uptoBulkAll {H : Type} : List (DataW H) → Nat
  | [] => 0
  | d :: r => uptoBulk d + uptoBulkAll r
def uptoBulkEntries {H : Type} : List (Lit × DataW H) → Nat
  | [] => 0
  | x :: r => uptoBulkEntry x + uptoBulkEntries r
def uptoBulkEntry {H : Type} : Lit × DataW H → Nat
  | (.string bytes, d) => bytes.length + uptoBulk d + 1
  | (_, d) => uptoBulk d + 1
 end
def uptoSmall : (H : Type) → List (DataW H) → Bool := fun _ ds => decide (uptoBulkAll ds ≤ 1048576)
def OpenSpec.upto (s : _root_.Go.ChangeSpec) : _root_.Go.OpenSpec := { _root_.Go.OpenSpec.ofChange s with cond := some uptoSmall }

/-- 'laws.FnExactTightestGap', WHERE WHAT IT READS IS OF BULK AT MOST 1048576: true; the input reads as it did. -/
def fnExactTightestGapUptoRow : OpenClaim := { program := "ytkpoelgaomgjlaa", sum := "472a62ac622c46e39e6bf5b07bb527e3290eb047f2a28951ec5f2851885f07d1", func := "loop.example/g01034/laws.FnExactTightestGap", spec := "fnExactTightestGap", unfollowed := true, recurses := true, apart := false, narrowed := true }
def FnExactTightestGapUptoSaid : Prop := fnExactTightestGapUptoRow.holds Try.pinned (OpenSpec.upto fnExactTightestGapSpec)

/-- 'laws.FnExactBrokenLinks', WHERE WHAT IT READS IS OF BULK AT MOST 1048576: true; the input reads as it did. -/
def fnExactBrokenLinksUptoRow : OpenClaim := { program := "ytkpoelgaomgjlaa", sum := "472a62ac622c46e39e6bf5b07bb527e3290eb047f2a28951ec5f2851885f07d1", func := "loop.example/g01034/laws.FnExactBrokenLinks", spec := "fnExactBrokenLinks", unfollowed := true, recurses := true, apart := false, narrowed := true }
def FnExactBrokenLinksUptoSaid : Prop := fnExactBrokenLinksUptoRow.holds Try.pinned (OpenSpec.upto fnExactBrokenLinksSpec)

/-- 'laws.FnExactAddLink', WHERE WHAT IT READS IS OF BULK AT MOST 1048576: true; the input reads as it did. -/
def fnExactAddLinkUptoRow : OpenClaim := { program := "ytkpoelgaomgjlaa", sum := "472a62ac622c46e39e6bf5b07bb527e3290eb047f2a28951ec5f2851885f07d1", func := "loop.example/g01034/laws.FnExactAddLink", spec := "fnExactAddLink", unfollowed := true, recurses := true, apart := false, narrowed := true }
def FnExactAddLinkUptoSaid : Prop := fnExactAddLinkUptoRow.holds Try.pinned (OpenSpec.upto fnExactAddLinkSpec)

/-- 'laws.FnExactFixDay', WHERE WHAT IT READS IS OF BULK AT MOST 1048576: true; the input reads as it did. -/
def fnExactFixDayUptoRow : OpenClaim := { program := "ytkpoelgaomgjlaa", sum := "472a62ac622c46e39e6bf5b07bb527e3290eb047f2a28951ec5f2851885f07d1", func := "loop.example/g01034/laws.FnExactFixDay", spec := "fnExactFixDay", unfollowed := true, recurses := true, apart := false, narrowed := true }
def FnExactFixDayUptoSaid : Prop := fnExactFixDayUptoRow.holds Try.pinned (OpenSpec.upto fnExactFixDaySpec)

/-- 'laws.FnExactHasSolution', WHERE WHAT IT READS IS OF BULK AT MOST 1048576: true; the input reads as it did. -/
def fnExactHasSolutionUptoRow : OpenClaim := { program := "ytkpoelgaomgjlaa", sum := "472a62ac622c46e39e6bf5b07bb527e3290eb047f2a28951ec5f2851885f07d1", func := "loop.example/g01034/laws.FnExactHasSolution", spec := "fnExactHasSolution", unfollowed := true, recurses := true, apart := false, narrowed := true }
def FnExactHasSolutionUptoSaid : Prop := fnExactHasSolutionUptoRow.holds Try.pinned (OpenSpec.upto fnExactHasSolutionSpec)

/-- 'laws.FnExactGiveUp', WHERE WHAT IT READS IS OF BULK AT MOST 1048576: true; the input reads as it did. -/
def fnExactGiveUpUptoRow : OpenClaim := { program := "ytkpoelgaomgjlaa", sum := "472a62ac622c46e39e6bf5b07bb527e3290eb047f2a28951ec5f2851885f07d1", func := "loop.example/g01034/laws.FnExactGiveUp", spec := "fnExactGiveUp", unfollowed := true, recurses := true, apart := false, narrowed := true }
def FnExactGiveUpUptoSaid : Prop := fnExactGiveUpUptoRow.holds Try.pinned (OpenSpec.upto fnExactGiveUpSpec)

/-- 'laws.FnExactCertainOrder', WHERE WHAT IT READS IS OF BULK AT MOST 1048576: true; the input reads as it did. -/
def fnExactCertainOrderUptoRow : OpenClaim := { program := "ytkpoelgaomgjlaa", sum := "472a62ac622c46e39e6bf5b07bb527e3290eb047f2a28951ec5f2851885f07d1", func := "loop.example/g01034/laws.FnExactCertainOrder", spec := "fnExactCertainOrder", unfollowed := true, recurses := true, apart := false, narrowed := true }
def FnExactCertainOrderUptoSaid : Prop := fnExactCertainOrderUptoRow.holds Try.pinned (OpenSpec.upto fnExactCertainOrderSpec)

/-- 'laws.FnNetworks', WHERE WHAT IT READS IS OF BULK AT MOST 1048576: true; the input reads as it did. -/
def fnNetworksUptoRow : OpenClaim := { program := "ytkpoelgaomgjlaa", sum := "472a62ac622c46e39e6bf5b07bb527e3290eb047f2a28951ec5f2851885f07d1", func := "loop.example/g01034/laws.FnNetworks", spec := "fnNetworks", unfollowed := true, recurses := true, apart := false, narrowed := true }
def FnNetworksUptoSaid : Prop := fnNetworksUptoRow.holds Try.pinned (OpenSpec.upto fnNetworksSpec)

/-- 'laws.FnExactIsRepair', WHERE WHAT IT READS IS OF BULK AT MOST 1048576: true; the input reads as it did. -/
def fnExactIsRepairUptoRow : OpenClaim := { program := "ytkpoelgaomgjlaa", sum := "472a62ac622c46e39e6bf5b07bb527e3290eb047f2a28951ec5f2851885f07d1", func := "loop.example/g01034/laws.FnExactIsRepair", spec := "fnExactIsRepair", unfollowed := true, recurses := true, apart := false, narrowed := true }
def FnExactIsRepairUptoSaid : Prop := fnExactIsRepairUptoRow.holds Try.pinned (OpenSpec.upto fnExactIsRepairSpec)

/-- 'laws.FnExactDoContradict', WHERE WHAT IT READS IS OF BULK AT MOST 1048576: true; the input reads as it did. -/
def fnExactDoContradictUptoRow : OpenClaim := { program := "ytkpoelgaomgjlaa", sum := "472a62ac622c46e39e6bf5b07bb527e3290eb047f2a28951ec5f2851885f07d1", func := "loop.example/g01034/laws.FnExactDoContradict", spec := "fnExactDoContradict", unfollowed := true, recurses := true, apart := false, narrowed := true }
def FnExactDoContradictUptoSaid : Prop := fnExactDoContradictUptoRow.holds Try.pinned (OpenSpec.upto fnExactDoContradictSpec)

/-- 'laws.FnExactFirstSolution', WHERE WHAT IT READS IS OF BULK AT MOST 1048576: true; the input reads as it did. -/
def fnExactFirstSolutionUptoRow : OpenClaim := { program := "ytkpoelgaomgjlaa", sum := "472a62ac622c46e39e6bf5b07bb527e3290eb047f2a28951ec5f2851885f07d1", func := "loop.example/g01034/laws.FnExactFirstSolution", spec := "fnExactFirstSolution", unfollowed := true, recurses := true, apart := false, narrowed := true }
def FnExactFirstSolutionUptoSaid : Prop := fnExactFirstSolutionUptoRow.holds Try.pinned (OpenSpec.upto fnExactFirstSolutionSpec)

end Rows
end Go.Proofs.Ytkpoelgaomgjlaa
