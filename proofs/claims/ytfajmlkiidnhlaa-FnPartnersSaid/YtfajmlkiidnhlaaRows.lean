/-
  No cell of these rows narrows 'for every input' (looked for: loops, veiled, ifaces, maps, wideKeys, modest, calm, conditions, laid).
  DERIVED. THE GIVEN ROWS OF THIS SEAT. 7 by the template 'for every input the law returns true; each argument reads behind the call as it read before'; 0 by the template 'total and deterministic' (their statements: YtfajmlkiidnhlaaTotals.lean).
  GIVEN WITH THE SEED: the statements are not yours to turn. If you find one false, say at which input.
  Laid BY PROGRAM, IN A SANDBOX (cutbox-rows.mjs): the forced cells as the released guide's own fill.sh prints them over the translation 3efeb5e68b41e506… (all of the seat's roots in one cut). By AI agents, Wed Nov 11 2026. No macro, syntax, notation, axiom, sorry.
-/
import Derived.Test.YtfajmlkiidnhlaaChecked
import GoSem.Claim
import GoSem.ClaimJoined
import GoSem.ClaimMapViews
import Derived.JoinedTies
import Derived.KernelRfl
namespace Go.Proofs.Ytfajmlkiidnhlaa
/- THE CELL 'sum', in the pinned program and in every row, IS THE sha256 OF THE DUMP (.gsa) THAT YtfajmlkiidnhlaaProg.lean LOADS. Nothing in Lean hashes anything: it is a label: what it is worth is what the hold of that sum in a sandbox is worth. -/
noncomputable def Try.pinned : Pinned := { name := "ytfajmlkiidnhlaa", sum := "3efeb5e68b41e50666337271914b22bb9baf4c99a1d79217927ec4e845e99b74", checked := Try.checked }
namespace Rows
def none {H : Type} : Left H := { results := [], args := [] }

/-- 'laws.FnNetworks': WHATEVER THE INPUT: true; the input reads as it did. -/
def fnNetworksSpec : ChangeSpec := { name := "fnNetworks", fn := fun _ => fun
  | [d] => { results := [.lit (.bool true)], args := [d] }
  | _ => none }
def fnNetworksRow : OpenClaim := { program := "ytfajmlkiidnhlaa", sum := "3efeb5e68b41e50666337271914b22bb9baf4c99a1d79217927ec4e845e99b74", func := "loop.example/g01034/laws.FnNetworks", spec := "fnNetworks", unfollowed := true, recurses := true, apart := false }
def FnNetworksSaid : Prop := fnNetworksRow.holds Try.pinned (OpenSpec.ofChange fnNetworksSpec)

/-- ITS FALSE NEIGHBOUR: 'it returns false'. Refute it at one input. -/
def fnNetworksWrong : ChangeSpec := { name := "fnNetworks", fn := fun _ => fun
  | [d] => { results := [.lit (.bool false)], args := [d] }
  | _ => none }
def FnNetworksWrongFalsely : Prop := fnNetworksRow.holds Try.pinned (OpenSpec.ofChange fnNetworksWrong)

/-- 'laws.FnSolutions': WHATEVER THE INPUT: true; the input reads as it did. -/
def fnSolutionsSpec : ChangeSpec := { name := "fnSolutions", fn := fun _ => fun
  | [d] => { results := [.lit (.bool true)], args := [d] }
  | _ => none }
def fnSolutionsRow : OpenClaim := { program := "ytfajmlkiidnhlaa", sum := "3efeb5e68b41e50666337271914b22bb9baf4c99a1d79217927ec4e845e99b74", func := "loop.example/g01034/laws.FnSolutions", spec := "fnSolutions", unfollowed := true, recurses := true, apart := false }
def FnSolutionsSaid : Prop := fnSolutionsRow.holds Try.pinned (OpenSpec.ofChange fnSolutionsSpec)

/-- ITS FALSE NEIGHBOUR: 'it returns false'. Refute it at one input. -/
def fnSolutionsWrong : ChangeSpec := { name := "fnSolutions", fn := fun _ => fun
  | [d] => { results := [.lit (.bool false)], args := [d] }
  | _ => none }
def FnSolutionsWrongFalsely : Prop := fnSolutionsRow.holds Try.pinned (OpenSpec.ofChange fnSolutionsWrong)

/-- 'laws.FnRepairs': WHATEVER THE INPUT: true; the input reads as it did. -/
def fnRepairsSpec : ChangeSpec := { name := "fnRepairs", fn := fun _ => fun
  | [d] => { results := [.lit (.bool true)], args := [d] }
  | _ => none }
def fnRepairsRow : OpenClaim := { program := "ytfajmlkiidnhlaa", sum := "3efeb5e68b41e50666337271914b22bb9baf4c99a1d79217927ec4e845e99b74", func := "loop.example/g01034/laws.FnRepairs", spec := "fnRepairs", unfollowed := true, recurses := true, apart := false }
def FnRepairsSaid : Prop := fnRepairsRow.holds Try.pinned (OpenSpec.ofChange fnRepairsSpec)

/-- ITS FALSE NEIGHBOUR: 'it returns false'. Refute it at one input. -/
def fnRepairsWrong : ChangeSpec := { name := "fnRepairs", fn := fun _ => fun
  | [d] => { results := [.lit (.bool false)], args := [d] }
  | _ => none }
def FnRepairsWrongFalsely : Prop := fnRepairsRow.holds Try.pinned (OpenSpec.ofChange fnRepairsWrong)

/-- 'laws.FnPartners': WHATEVER THE INPUT: true; the input reads as it did. -/
def fnPartnersSpec : ChangeSpec := { name := "fnPartners", fn := fun _ => fun
  | [d] => { results := [.lit (.bool true)], args := [d] }
  | _ => none }
def fnPartnersRow : OpenClaim := { program := "ytfajmlkiidnhlaa", sum := "3efeb5e68b41e50666337271914b22bb9baf4c99a1d79217927ec4e845e99b74", func := "loop.example/g01034/laws.FnPartners", spec := "fnPartners", unfollowed := true, recurses := true, apart := false }
def FnPartnersSaid : Prop := fnPartnersRow.holds Try.pinned (OpenSpec.ofChange fnPartnersSpec)

/-- ITS FALSE NEIGHBOUR: 'it returns false'. Refute it at one input. -/
def fnPartnersWrong : ChangeSpec := { name := "fnPartners", fn := fun _ => fun
  | [d] => { results := [.lit (.bool false)], args := [d] }
  | _ => none }
def FnPartnersWrongFalsely : Prop := fnPartnersRow.holds Try.pinned (OpenSpec.ofChange fnPartnersWrong)

/-- 'laws.FnNarrowing': WHATEVER THE INPUT: true; the input reads as it did. -/
def fnNarrowingSpec : ChangeSpec := { name := "fnNarrowing", fn := fun _ => fun
  | [d] => { results := [.lit (.bool true)], args := [d] }
  | _ => none }
def fnNarrowingRow : OpenClaim := { program := "ytfajmlkiidnhlaa", sum := "3efeb5e68b41e50666337271914b22bb9baf4c99a1d79217927ec4e845e99b74", func := "loop.example/g01034/laws.FnNarrowing", spec := "fnNarrowing", unfollowed := true, recurses := true, apart := false }
def FnNarrowingSaid : Prop := fnNarrowingRow.holds Try.pinned (OpenSpec.ofChange fnNarrowingSpec)

/-- ITS FALSE NEIGHBOUR: 'it returns false'. Refute it at one input. -/
def fnNarrowingWrong : ChangeSpec := { name := "fnNarrowing", fn := fun _ => fun
  | [d] => { results := [.lit (.bool false)], args := [d] }
  | _ => none }
def FnNarrowingWrongFalsely : Prop := fnNarrowingRow.holds Try.pinned (OpenSpec.ofChange fnNarrowingWrong)

/-- 'laws.FnExactPossibleDays': WHATEVER THE INPUT: true; the input reads as it did. -/
def fnExactPossibleDaysSpec : ChangeSpec := { name := "fnExactPossibleDays", fn := fun _ => fun
  | [d1, d2] => { results := [.lit (.bool true)], args := [d1, d2] }
  | _ => none }
def fnExactPossibleDaysRow : OpenClaim := { program := "ytfajmlkiidnhlaa", sum := "3efeb5e68b41e50666337271914b22bb9baf4c99a1d79217927ec4e845e99b74", func := "loop.example/g01034/laws.FnExactPossibleDays", spec := "fnExactPossibleDays", unfollowed := true, recurses := true, apart := false }
def FnExactPossibleDaysSaid : Prop := fnExactPossibleDaysRow.holds Try.pinned (OpenSpec.ofChange fnExactPossibleDaysSpec)

/-- ITS FALSE NEIGHBOUR: 'it returns false'. Refute it at one input. -/
def fnExactPossibleDaysWrong : ChangeSpec := { name := "fnExactPossibleDays", fn := fun _ => fun
  | [d1, d2] => { results := [.lit (.bool false)], args := [d1, d2] }
  | _ => none }
def FnExactPossibleDaysWrongFalsely : Prop := fnExactPossibleDaysRow.holds Try.pinned (OpenSpec.ofChange fnExactPossibleDaysWrong)

/-- 'laws.FnExactSolvedNetwork': WHATEVER THE INPUT: true; the input reads as it did. -/
def fnExactSolvedNetworkSpec : ChangeSpec := { name := "fnExactSolvedNetwork", fn := fun _ => fun
  | [d] => { results := [.lit (.bool true)], args := [d] }
  | _ => none }
def fnExactSolvedNetworkRow : OpenClaim := { program := "ytfajmlkiidnhlaa", sum := "3efeb5e68b41e50666337271914b22bb9baf4c99a1d79217927ec4e845e99b74", func := "loop.example/g01034/laws.FnExactSolvedNetwork", spec := "fnExactSolvedNetwork", unfollowed := true, recurses := true, apart := false }
def FnExactSolvedNetworkSaid : Prop := fnExactSolvedNetworkRow.holds Try.pinned (OpenSpec.ofChange fnExactSolvedNetworkSpec)

/-- ITS FALSE NEIGHBOUR: 'it returns false'. Refute it at one input. -/
def fnExactSolvedNetworkWrong : ChangeSpec := { name := "fnExactSolvedNetwork", fn := fun _ => fun
  | [d] => { results := [.lit (.bool false)], args := [d] }
  | _ => none }
def FnExactSolvedNetworkWrongFalsely : Prop := fnExactSolvedNetworkRow.holds Try.pinned (OpenSpec.ofChange fnExactSolvedNetworkWrong)

/- THE SECOND FORM. 'bulk': how many values and letters a reading holds, each counted each time it is reached (what is shared counts as often as it is met; a slice's spare places count too). A statement '..UptoSaid' is the law's where the arguments, and the package variables that the reading takes, are together of bulk at most 1048576: NARROWER than '..Said'. Prove '..Said' where nothing that the law and all that it calls make is longer than what came in: it says more and counts as full. Else prove '..UptoSaid'. A law counts once. -/
mutual
def uptoBulk {H : Type} : DataW H → Nat
  | .lit (.string bytes) => bytes.length + 1
  | .lit _ => 1
  | .nil => 1
  | .ptr d => uptoBulk d + 1
  | .slice elems spare => uptoBulkAll elems + uptoBulkAll spare + 1
  | .agg parts => uptoBulkAll parts + 1
  | .iface _ d => uptoBulk d + 1
  | .map entries => uptoBulkEntries entries + 1
  | .held _ => 1
def uptoBulkAll {H : Type} : List (DataW H) → Nat
  | [] => 0
  | d :: r => uptoBulk d + uptoBulkAll r
def uptoBulkEntries {H : Type} : List (Lit × DataW H) → Nat
  | [] => 0
  | x :: r => uptoBulkEntry x + uptoBulkEntries r
def uptoBulkEntry {H : Type} : Lit × DataW H → Nat
  | (.string bytes, d) => bytes.length + uptoBulk d + 1
  | (_, d) => uptoBulk d + 1
 end
def uptoSmall : (H : Type) → List (DataW H) → Bool := fun _ ds => decide (uptoBulkAll ds ≤ 1048576)
def OpenSpec.upto (s : _root_.Go.ChangeSpec) : _root_.Go.OpenSpec := { _root_.Go.OpenSpec.ofChange s with cond := some uptoSmall }

/-- 'laws.FnNetworks', WHERE WHAT IT READS IS OF BULK AT MOST 1048576: true; the input reads as it did. -/
def fnNetworksUptoRow : OpenClaim := { program := "ytfajmlkiidnhlaa", sum := "3efeb5e68b41e50666337271914b22bb9baf4c99a1d79217927ec4e845e99b74", func := "loop.example/g01034/laws.FnNetworks", spec := "fnNetworks", unfollowed := true, recurses := true, apart := false, narrowed := true }
def FnNetworksUptoSaid : Prop := fnNetworksUptoRow.holds Try.pinned (OpenSpec.upto fnNetworksSpec)

/-- 'laws.FnSolutions', WHERE WHAT IT READS IS OF BULK AT MOST 1048576: true; the input reads as it did. -/
def fnSolutionsUptoRow : OpenClaim := { program := "ytfajmlkiidnhlaa", sum := "3efeb5e68b41e50666337271914b22bb9baf4c99a1d79217927ec4e845e99b74", func := "loop.example/g01034/laws.FnSolutions", spec := "fnSolutions", unfollowed := true, recurses := true, apart := false, narrowed := true }
def FnSolutionsUptoSaid : Prop := fnSolutionsUptoRow.holds Try.pinned (OpenSpec.upto fnSolutionsSpec)

/-- 'laws.FnRepairs', WHERE WHAT IT READS IS OF BULK AT MOST 1048576: true; the input reads as it did. -/
def fnRepairsUptoRow : OpenClaim := { program := "ytfajmlkiidnhlaa", sum := "3efeb5e68b41e50666337271914b22bb9baf4c99a1d79217927ec4e845e99b74", func := "loop.example/g01034/laws.FnRepairs", spec := "fnRepairs", unfollowed := true, recurses := true, apart := false, narrowed := true }
def FnRepairsUptoSaid : Prop := fnRepairsUptoRow.holds Try.pinned (OpenSpec.upto fnRepairsSpec)

/-- 'laws.FnPartners', WHERE WHAT IT READS IS OF BULK AT MOST 1048576: true; the input reads as it did. -/
def fnPartnersUptoRow : OpenClaim := { program := "ytfajmlkiidnhlaa", sum := "3efeb5e68b41e50666337271914b22bb9baf4c99a1d79217927ec4e845e99b74", func := "loop.example/g01034/laws.FnPartners", spec := "fnPartners", unfollowed := true, recurses := true, apart := false, narrowed := true }
def FnPartnersUptoSaid : Prop := fnPartnersUptoRow.holds Try.pinned (OpenSpec.upto fnPartnersSpec)

/-- 'laws.FnNarrowing', WHERE WHAT IT READS IS OF BULK AT MOST 1048576: true; the input reads as it did. -/
def fnNarrowingUptoRow : OpenClaim := { program := "ytfajmlkiidnhlaa", sum := "3efeb5e68b41e50666337271914b22bb9baf4c99a1d79217927ec4e845e99b74", func := "loop.example/g01034/laws.FnNarrowing", spec := "fnNarrowing", unfollowed := true, recurses := true, apart := false, narrowed := true }
def FnNarrowingUptoSaid : Prop := fnNarrowingUptoRow.holds Try.pinned (OpenSpec.upto fnNarrowingSpec)

/-- 'laws.FnExactPossibleDays', WHERE WHAT IT READS IS OF BULK AT MOST 1048576: true; the input reads as it did. -/
def fnExactPossibleDaysUptoRow : OpenClaim := { program := "ytfajmlkiidnhlaa", sum := "3efeb5e68b41e50666337271914b22bb9baf4c99a1d79217927ec4e845e99b74", func := "loop.example/g01034/laws.FnExactPossibleDays", spec := "fnExactPossibleDays", unfollowed := true, recurses := true, apart := false, narrowed := true }
def FnExactPossibleDaysUptoSaid : Prop := fnExactPossibleDaysUptoRow.holds Try.pinned (OpenSpec.upto fnExactPossibleDaysSpec)

/-- 'laws.FnExactSolvedNetwork', WHERE WHAT IT READS IS OF BULK AT MOST 1048576: true; the input reads as it did. -/
def fnExactSolvedNetworkUptoRow : OpenClaim := { program := "ytfajmlkiidnhlaa", sum := "3efeb5e68b41e50666337271914b22bb9baf4c99a1d79217927ec4e845e99b74", func := "loop.example/g01034/laws.FnExactSolvedNetwork", spec := "fnExactSolvedNetwork", unfollowed := true, recurses := true, apart := false, narrowed := true }
def FnExactSolvedNetworkUptoSaid : Prop := fnExactSolvedNetworkUptoRow.holds Try.pinned (OpenSpec.upto fnExactSolvedNetworkSpec)

end Rows
end Go.Proofs.Ytfajmlkiidnhlaa
