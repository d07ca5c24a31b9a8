/-
  No cell of these rows narrows 'for every input' (looked for: loops, veiled, ifaces, maps, wideKeys, modest, calm, conditions, laid).
  DERIVED. THE GIVEN ROWS OF THIS SEAT. 7 by the template 'for every input the law returns true; each argument reads behind the call as it read before'; 0 by the template 'total and deterministic' (their statements: YtkkomdghilmnaaaTotals.lean).
  GIVEN WITH THE SEED: the statements are not yours to turn. If you find one false, say at which input.
  Laid BY PROGRAM, IN A SANDBOX (cutbox-rows.mjs): the forced cells as the released guide's own fill.sh prints them over the translation 7b6e2f036e23c572… (all of the seat's roots in one cut). By AI agents, Wed Nov 11 2026. No macro, syntax, notation, axiom, sorry.
-/
import Derived.Test.YtkkomdghilmnaaaChecked
import GoSem.Claim
import GoSem.ClaimJoined
import GoSem.ClaimMapViews
import Derived.JoinedTies
import Derived.KernelRfl
namespace Go.Proofs.Ytkkomdghilmnaaa
/- THE CELL 'sum', in the pinned program and in every row, IS THE sha256 OF THE DUMP (.gsa) THAT YtkkomdghilmnaaaProg.lean LOADS. Nothing in Lean hashes anything: it is a label: what it is worth is what the hold of that sum in a sandbox is worth. -/
noncomputable def Try.pinned : Pinned := { name := "ytkkomdghilmnaaa", sum := "7b6e2f036e23c572a6b834b6e2a950c1239b837cdfb13fe505ee39a197901470", checked := Try.checked }
namespace Rows
def none {H : Type} : Left H := { results := [], args := [] }

/-- 'laws.FnExactIsNarrow': WHATEVER THE INPUT: true; the input reads as it did. -/
def fnExactIsNarrowSpec : ChangeSpec := { name := "fnExactIsNarrow", fn := fun _ => fun
  | [d] => { results := [.lit (.bool true)], args := [d] }
  | _ => none }
def fnExactIsNarrowRow : OpenClaim := { program := "ytkkomdghilmnaaa", sum := "7b6e2f036e23c572a6b834b6e2a950c1239b837cdfb13fe505ee39a197901470", func := "loop.example/g01034/laws.FnExactIsNarrow", spec := "fnExactIsNarrow", unfollowed := true, recurses := true, apart := false }
def FnExactIsNarrowSaid : Prop := fnExactIsNarrowRow.holds Try.pinned (OpenSpec.ofChange fnExactIsNarrowSpec)

/-- ITS FALSE NEIGHBOUR: 'it returns false'. Refute it at one input. -/
def fnExactIsNarrowWrong : ChangeSpec := { name := "fnExactIsNarrow", fn := fun _ => fun
  | [d] => { results := [.lit (.bool false)], args := [d] }
  | _ => none }
def FnExactIsNarrowWrongFalsely : Prop := fnExactIsNarrowRow.holds Try.pinned (OpenSpec.ofChange fnExactIsNarrowWrong)

/-- 'laws.FnExactPartnerDays': WHATEVER THE INPUT: true; the input reads as it did. -/
def fnExactPartnerDaysSpec : ChangeSpec := { name := "fnExactPartnerDays", fn := fun _ => fun
  | [d1, d2, d3] => { results := [.lit (.bool true)], args := [d1, d2, d3] }
  | _ => none }
def fnExactPartnerDaysRow : OpenClaim := { program := "ytkkomdghilmnaaa", sum := "7b6e2f036e23c572a6b834b6e2a950c1239b837cdfb13fe505ee39a197901470", func := "loop.example/g01034/laws.FnExactPartnerDays", spec := "fnExactPartnerDays", unfollowed := true, recurses := true, apart := false }
def FnExactPartnerDaysSaid : Prop := fnExactPartnerDaysRow.holds Try.pinned (OpenSpec.ofChange fnExactPartnerDaysSpec)

/-- ITS FALSE NEIGHBOUR: 'it returns false'. Refute it at one input. -/
def fnExactPartnerDaysWrong : ChangeSpec := { name := "fnExactPartnerDays", fn := fun _ => fun
  | [d1, d2, d3] => { results := [.lit (.bool false)], args := [d1, d2, d3] }
  | _ => none }
def FnExactPartnerDaysWrongFalsely : Prop := fnExactPartnerDaysRow.holds Try.pinned (OpenSpec.ofChange fnExactPartnerDaysWrong)

/-- 'laws.FnExactNarrowRound': WHATEVER THE INPUT: true; the input reads as it did. -/
def fnExactNarrowRoundSpec : ChangeSpec := { name := "fnExactNarrowRound", fn := fun _ => fun
  | [d] => { results := [.lit (.bool true)], args := [d] }
  | _ => none }
def fnExactNarrowRoundRow : OpenClaim := { program := "ytkkomdghilmnaaa", sum := "7b6e2f036e23c572a6b834b6e2a950c1239b837cdfb13fe505ee39a197901470", func := "loop.example/g01034/laws.FnExactNarrowRound", spec := "fnExactNarrowRound", unfollowed := true, recurses := true, apart := false }
def FnExactNarrowRoundSaid : Prop := fnExactNarrowRoundRow.holds Try.pinned (OpenSpec.ofChange fnExactNarrowRoundSpec)

/-- ITS FALSE NEIGHBOUR: 'it returns false'. Refute it at one input. -/
def fnExactNarrowRoundWrong : ChangeSpec := { name := "fnExactNarrowRound", fn := fun _ => fun
  | [d] => { results := [.lit (.bool false)], args := [d] }
  | _ => none }
def FnExactNarrowRoundWrongFalsely : Prop := fnExactNarrowRoundRow.holds Try.pinned (OpenSpec.ofChange fnExactNarrowRoundWrong)

/-- 'laws.FnExactNarrowLink': WHATEVER THE INPUT: true; the input reads as it did. -/
def fnExactNarrowLinkSpec : ChangeSpec := { name := "fnExactNarrowLink", fn := fun _ => fun
  | [d1, d2] => { results := [.lit (.bool true)], args := [d1, d2] }
  | _ => none }
def fnExactNarrowLinkRow : OpenClaim := { program := "ytkkomdghilmnaaa", sum := "7b6e2f036e23c572a6b834b6e2a950c1239b837cdfb13fe505ee39a197901470", func := "loop.example/g01034/laws.FnExactNarrowLink", spec := "fnExactNarrowLink", unfollowed := true, recurses := true, apart := false }
def FnExactNarrowLinkSaid : Prop := fnExactNarrowLinkRow.holds Try.pinned (OpenSpec.ofChange fnExactNarrowLinkSpec)

/-- ITS FALSE NEIGHBOUR: 'it returns false'. Refute it at one input. -/
def fnExactNarrowLinkWrong : ChangeSpec := { name := "fnExactNarrowLink", fn := fun _ => fun
  | [d1, d2] => { results := [.lit (.bool false)], args := [d1, d2] }
  | _ => none }
def FnExactNarrowLinkWrongFalsely : Prop := fnExactNarrowLinkRow.holds Try.pinned (OpenSpec.ofChange fnExactNarrowLinkWrong)

/-- 'laws.FnExactPossibleDays': WHATEVER THE INPUT: true; the input reads as it did. -/
def fnExactPossibleDaysSpec : ChangeSpec := { name := "fnExactPossibleDays", fn := fun _ => fun
  | [d1, d2] => { results := [.lit (.bool true)], args := [d1, d2] }
  | _ => none }
def fnExactPossibleDaysRow : OpenClaim := { program := "ytkkomdghilmnaaa", sum := "7b6e2f036e23c572a6b834b6e2a950c1239b837cdfb13fe505ee39a197901470", func := "loop.example/g01034/laws.FnExactPossibleDays", spec := "fnExactPossibleDays", unfollowed := true, recurses := true, apart := false }
def FnExactPossibleDaysSaid : Prop := fnExactPossibleDaysRow.holds Try.pinned (OpenSpec.ofChange fnExactPossibleDaysSpec)

/-- ITS FALSE NEIGHBOUR: 'it returns false'. Refute it at one input. -/
def fnExactPossibleDaysWrong : ChangeSpec := { name := "fnExactPossibleDays", fn := fun _ => fun
  | [d1, d2] => { results := [.lit (.bool false)], args := [d1, d2] }
  | _ => none }
def FnExactPossibleDaysWrongFalsely : Prop := fnExactPossibleDaysRow.holds Try.pinned (OpenSpec.ofChange fnExactPossibleDaysWrong)

/-- 'laws.FnExactNarrowAll': WHATEVER THE INPUT: true; the input reads as it did. -/
def fnExactNarrowAllSpec : ChangeSpec := { name := "fnExactNarrowAll", fn := fun _ => fun
  | [d] => { results := [.lit (.bool true)], args := [d] }
  | _ => none }
def fnExactNarrowAllRow : OpenClaim := { program := "ytkkomdghilmnaaa", sum := "7b6e2f036e23c572a6b834b6e2a950c1239b837cdfb13fe505ee39a197901470", func := "loop.example/g01034/laws.FnExactNarrowAll", spec := "fnExactNarrowAll", unfollowed := true, recurses := true, apart := false }
def FnExactNarrowAllSaid : Prop := fnExactNarrowAllRow.holds Try.pinned (OpenSpec.ofChange fnExactNarrowAllSpec)

/-- ITS FALSE NEIGHBOUR: 'it returns false'. Refute it at one input. -/
def fnExactNarrowAllWrong : ChangeSpec := { name := "fnExactNarrowAll", fn := fun _ => fun
  | [d] => { results := [.lit (.bool false)], args := [d] }
  | _ => none }
def FnExactNarrowAllWrongFalsely : Prop := fnExactNarrowAllRow.holds Try.pinned (OpenSpec.ofChange fnExactNarrowAllWrong)

/-- 'laws.FnExactSolvedNetwork': WHATEVER THE INPUT: true; the input reads as it did. -/
def fnExactSolvedNetworkSpec : ChangeSpec := { name := "fnExactSolvedNetwork", fn := fun _ => fun
  | [d] => { results := [.lit (.bool true)], args := [d] }
  | _ => none }
def fnExactSolvedNetworkRow : OpenClaim := { program := "ytkkomdghilmnaaa", sum := "7b6e2f036e23c572a6b834b6e2a950c1239b837cdfb13fe505ee39a197901470", func := "loop.example/g01034/laws.FnExactSolvedNetwork", spec := "fnExactSolvedNetwork", unfollowed := true, recurses := true, apart := false }
def FnExactSolvedNetworkSaid : Prop := fnExactSolvedNetworkRow.holds Try.pinned (OpenSpec.ofChange fnExactSolvedNetworkSpec)

/-- ITS FALSE NEIGHBOUR: 'it returns false'. Refute it at one input. -/
def fnExactSolvedNetworkWrong : ChangeSpec := { name := "fnExactSolvedNetwork", fn := fun _ => fun
  | [d] => { results := [.lit (.bool false)], args := [d] }
  | _ => none }
def FnExactSolvedNetworkWrongFalsely : Prop := fnExactSolvedNetworkRow.holds Try.pinned (OpenSpec.ofChange fnExactSolvedNetworkWrong)

/- THE SECOND FORM. 'bulk': how many values and letters a reading holds, each counted each time it is reached (what is shared counts as often as it is met; a slice's spare places count too). A statement '..UptoSaid' is the law's where the arguments, and the package variables that the reading takes, are together of bulk at most 1048576: NARROWER than '..Said'. Prove '..Said' where nothing that the law and all that it calls make is longer than what came in: it says more and counts as full. Else prove '..UptoSaid'. A law counts once. -/
mutual
def uptoBulk {H : Type} : DataW H → Nat
  | .lit (.string bytes) => bytes.length + 1
  | .lit _ => 1
  | .nil => 1
  | .ptr d => uptoBulk d + 1
  | .slice elems spare => uptoBulkAll elems + uptoBulkAll spare + 1
  | .agg parts => uptoBulkAll parts + 1
  | .iface _ d => uptoBulk d + 1
  | .map entries => uptoBulkEntries entries + 1
  | .held _ => 1
def uptoBulkAll {H : Type} : List (DataW H) → Nat
  | [] => 0
  | d :: r => uptoBulk d + uptoBulkAll r
def uptoBulkEntries {H : Type} : List (Lit × DataW H) → Nat
  | [] => 0
  | x :: r => uptoBulkEntry x + uptoBulkEntries r
def uptoBulkEntry {H : Type} : Lit × DataW H → Nat
  | (.string bytes, d) => bytes.length + uptoBulk d + 1
  | (_, d) => uptoBulk d + 1
 end
def uptoSmall : (H : Type) → List (DataW H) → Bool := fun _ ds => decide (uptoBulkAll ds ≤ 1048576)
def OpenSpec.upto (s : _root_.Go.ChangeSpec) : _root_.Go.OpenSpec := { _root_.Go.OpenSpec.ofChange s with cond := some uptoSmall }

/-- 'laws.FnExactIsNarrow', WHERE WHAT IT READS IS OF BULK AT MOST 1048576: true; the input reads as it did. -/
def fnExactIsNarrowUptoRow : OpenClaim := { program := "ytkkomdghilmnaaa", sum := "7b6e2f036e23c572a6b834b6e2a950c1239b837cdfb13fe505ee39a197901470", func := "loop.example/g01034/laws.FnExactIsNarrow", spec := "fnExactIsNarrow", unfollowed := true, recurses := true, apart := false, narrowed := true }
def FnExactIsNarrowUptoSaid : Prop := fnExactIsNarrowUptoRow.holds Try.pinned (OpenSpec.upto fnExactIsNarrowSpec)

/-- 'laws.FnExactPartnerDays', WHERE WHAT IT READS IS OF BULK AT MOST 1048576: true; the input reads as it did. -/
def fnExactPartnerDaysUptoRow : OpenClaim := { program := "ytkkomdghilmnaaa", sum := "7b6e2f036e23c572a6b834b6e2a950c1239b837cdfb13fe505ee39a197901470", func := "loop.example/g01034/laws.FnExactPartnerDays", spec := "fnExactPartnerDays", unfollowed := true, recurses := true, apart := false, narrowed := true }
def FnExactPartnerDaysUptoSaid : Prop := fnExactPartnerDaysUptoRow.holds Try.pinned (OpenSpec.upto fnExactPartnerDaysSpec)

/-- 'laws.FnExactNarrowRound', WHERE WHAT IT READS IS OF BULK AT MOST 1048576: true; the input reads as it did. -/
def fnExactNarrowRoundUptoRow : OpenClaim := { program := "ytkkomdghilmnaaa", sum := "7b6e2f036e23c572a6b834b6e2a950c1239b837cdfb13fe505ee39a197901470", func := "loop.example/g01034/laws.FnExactNarrowRound", spec := "fnExactNarrowRound", unfollowed := true, recurses := true, apart := false, narrowed := true }
def FnExactNarrowRoundUptoSaid : Prop := fnExactNarrowRoundUptoRow.holds Try.pinned (OpenSpec.upto fnExactNarrowRoundSpec)

/-- 'laws.FnExactNarrowLink', WHERE WHAT IT READS IS OF BULK AT MOST 1048576: true; the input reads as it did. -/
def fnExactNarrowLinkUptoRow : OpenClaim := { program := "ytkkomdghilmnaaa", sum := "7b6e2f036e23c572a6b834b6e2a950c1239b837cdfb13fe505ee39a197901470", func := "loop.example/g01034/laws.FnExactNarrowLink", spec := "fnExactNarrowLink", unfollowed := true, recurses := true, apart := false, narrowed := true }
def FnExactNarrowLinkUptoSaid : Prop := fnExactNarrowLinkUptoRow.holds Try.pinned (OpenSpec.upto fnExactNarrowLinkSpec)

/-- 'laws.FnExactPossibleDays', WHERE WHAT IT READS IS OF BULK AT MOST 1048576: true; the input reads as it did. -/
def fnExactPossibleDaysUptoRow : OpenClaim := { program := "ytkkomdghilmnaaa", sum := "7b6e2f036e23c572a6b834b6e2a950c1239b837cdfb13fe505ee39a197901470", func := "loop.example/g01034/laws.FnExactPossibleDays", spec := "fnExactPossibleDays", unfollowed := true, recurses := true, apart := false, narrowed := true }
def FnExactPossibleDaysUptoSaid : Prop := fnExactPossibleDaysUptoRow.holds Try.pinned (OpenSpec.upto fnExactPossibleDaysSpec)

/-- 'laws.FnExactNarrowAll', WHERE WHAT IT READS IS OF BULK AT MOST 1048576: true; the input reads as it did. -/
def fnExactNarrowAllUptoRow : OpenClaim := { program := "ytkkomdghilmnaaa", sum := "7b6e2f036e23c572a6b834b6e2a950c1239b837cdfb13fe505ee39a197901470", func := "loop.example/g01034/laws.FnExactNarrowAll", spec := "fnExactNarrowAll", unfollowed := true, recurses := true, apart := false, narrowed := true }
def FnExactNarrowAllUptoSaid : Prop := fnExactNarrowAllUptoRow.holds Try.pinned (OpenSpec.upto fnExactNarrowAllSpec)

/-- 'laws.FnExactSolvedNetwork', WHERE WHAT IT READS IS OF BULK AT MOST 1048576: true; the input reads as it did. -/
def fnExactSolvedNetworkUptoRow : OpenClaim := { program := "ytkkomdghilmnaaa", sum := "7b6e2f036e23c572a6b834b6e2a950c1239b837cdfb13fe505ee39a197901470", func := "loop.example/g01034/laws.FnExactSolvedNetwork", spec := "fnExactSolvedNetwork", unfollowed := true, recurses := true, apart := false, narrowed := true }
def FnExactSolvedNetworkUptoSaid : Prop := fnExactSolvedNetworkUptoRow.holds Try.pinned (OpenSpec.upto fnExactSolvedNetworkSpec)

end Rows
end Go.Proofs.Ytkkomdghilmnaaa
