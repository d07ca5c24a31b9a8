/-
  NARROWER THAN 'FOR EVERY INPUT', by the rows' own cells (each row's printed sentence says how): FnExactSourceDays: laid · FnExactSourcesAgainst: laid · FnExactOwnDays: laid · FnExactUselessSources: laid · FnExactNetworkOf: laid.
  DERIVED. THE GIVEN ROWS OF THIS SEAT. 5 by the template 'for every input the law returns true; each argument reads behind the call as it read before'; 0 by the template 'total and deterministic' (their statements: YtechbeegbhlppaaGreatDoorTotals.lean).
  GIVEN WITH THE SEED: the statements are not yours to turn. If you find one false, say at which input.
  Laid BY PROGRAM, IN A SANDBOX (cutbox-rows.mjs): the forced cells as the released guide's own fill.sh prints them over the translation a8b2f9ef5f1373b5… (all of the seat's roots in one cut). By AI agents, Wed Nov 11 2026. No macro, syntax, notation, axiom, sorry.
-/
import Derived.Test.YtechbeegbhlppaaGreatDoorChecked
import GoSem.PinnedTables
import GoSem.Claim
import GoSem.ClaimJoined
import GoSem.ClaimMapViews
import Derived.JoinedTies
import Derived.KernelRfl
namespace Go.Proofs.YtechbeegbhlppaaGreatDoor
/- THE CELL 'sum', in the pinned program and in every row, IS THE sha256 OF THE DUMP (.gsa) THAT YtechbeegbhlppaaGreatDoorProg.lean LOADS. Nothing in Lean hashes anything: it is a label: what it is worth is what the hold of that sum in a sandbox is worth. -/
noncomputable def Tryz.pinned : Pinned := { name := "ytechbeegbhlppaagreatdoor", sum := "a8b2f9ef5f1373b51a6bdfaf1dcb6b63e7b6acb7f4e24711c0f0d11773539abb", checked := Tryz.checked }
namespace Rows
def none {H : Type} : Left H := { results := [], args := [] }

/- WHAT THE LISTED PACKAGE-LEVEL VARIABLES READ AS WHEN THE CALL BEGINS. Each datum BY PROGRAM (the guide's laid-datum.mjs) off the statement by which the dump's own 'gosem.cut.vars' lays the variable. In a bare row this is a premise. The card (YtechbeegbhlppaaGreatDoorCards.lean) ties it to the program's text. -/
def laid_unicode_utf8_acceptRanges {H : Type} : DataW H := .agg [.agg [.lit (.int .u8 128), .lit (.int .u8 191)], .agg [.lit (.int .u8 160), .lit (.int .u8 191)], .agg [.lit (.int .u8 128), .lit (.int .u8 159)], .agg [.lit (.int .u8 144), .lit (.int .u8 191)], .agg [.lit (.int .u8 128), .lit (.int .u8 143)], .agg [.lit (.int .u8 0), .lit (.int .u8 0)], .agg [.lit (.int .u8 0), .lit (.int .u8 0)], .agg [.lit (.int .u8 0), .lit (.int .u8 0)], .agg [.lit (.int .u8 0), .lit (.int .u8 0)], .agg [.lit (.int .u8 0), .lit (.int .u8 0)], .agg [.lit (.int .u8 0), .lit (.int .u8 0)], .agg [.lit (.int .u8 0), .lit (.int .u8 0)], .agg [.lit (.int .u8 0), .lit (.int .u8 0)], .agg [.lit (.int .u8 0), .lit (.int .u8 0)], .agg [.lit (.int .u8 0), .lit (.int .u8 0)], .agg [.lit (.int .u8 0), .lit (.int .u8 0)]]
/-- One of Go's own tables, pinned by name: the form's constant. -/
def laid_unicode_utf8_first : DataW Unit := Go.Pinned.utf8First

/-- 'laws.FnExactSourceDays': WHATEVER THE INPUT: true; the input reads as it did. -/
def fnExactSourceDaysSpec : ChangeSpec := { name := "fnExactSourceDays", fn := fun _ => fun
  | [d1, d2, d3, d4] => { results := [.lit (.bool true)], args := [d1, d2, d3, d4] }
  | _ => none }
def fnExactSourceDaysRow : OpenClaim := { program := "ytechbeegbhlppaagreatdoor", sum := "a8b2f9ef5f1373b51a6bdfaf1dcb6b63e7b6acb7f4e24711c0f0d11773539abb", func := "loop.example/g01034/laws.FnExactSourceDays", spec := "fnExactSourceDays", inPlace := ["internal/bytealg.IndexByteString", "internal/bytealg.IndexString"], unfollowed := true, recurses := true, named := ["unicode/utf8.first", "unicode/utf8.acceptRanges", "internal/bytealg.MaxLen"], apart := false, laid := [("unicode/utf8.acceptRanges", laid_unicode_utf8_acceptRanges), ("unicode/utf8.first", laid_unicode_utf8_first)] }
def FnExactSourceDaysSaid : Prop := fnExactSourceDaysRow.holds Tryz.pinned (OpenSpec.ofChange fnExactSourceDaysSpec)

/-- ITS FALSE NEIGHBOUR: 'it returns false'. Refute it at one input. -/
def fnExactSourceDaysWrong : ChangeSpec := { name := "fnExactSourceDays", fn := fun _ => fun
  | [d1, d2, d3, d4] => { results := [.lit (.bool false)], args := [d1, d2, d3, d4] }
  | _ => none }
def FnExactSourceDaysWrongFalsely : Prop := fnExactSourceDaysRow.holds Tryz.pinned (OpenSpec.ofChange fnExactSourceDaysWrong)

/-- 'laws.FnExactSourcesAgainst': WHATEVER THE INPUT: true; the input reads as it did. -/
def fnExactSourcesAgainstSpec : ChangeSpec := { name := "fnExactSourcesAgainst", fn := fun _ => fun
  | [d1, d2, d3, d4] => { results := [.lit (.bool true)], args := [d1, d2, d3, d4] }
  | _ => none }
def fnExactSourcesAgainstRow : OpenClaim := { program := "ytechbeegbhlppaagreatdoor", sum := "a8b2f9ef5f1373b51a6bdfaf1dcb6b63e7b6acb7f4e24711c0f0d11773539abb", func := "loop.example/g01034/laws.FnExactSourcesAgainst", spec := "fnExactSourcesAgainst", inPlace := ["internal/bytealg.IndexByteString", "internal/bytealg.IndexString"], unfollowed := true, recurses := true, named := ["unicode/utf8.first", "unicode/utf8.acceptRanges", "internal/bytealg.MaxLen"], apart := false, laid := [("unicode/utf8.acceptRanges", laid_unicode_utf8_acceptRanges), ("unicode/utf8.first", laid_unicode_utf8_first)] }
def FnExactSourcesAgainstSaid : Prop := fnExactSourcesAgainstRow.holds Tryz.pinned (OpenSpec.ofChange fnExactSourcesAgainstSpec)

/-- ITS FALSE NEIGHBOUR: 'it returns false'. Refute it at one input. -/
def fnExactSourcesAgainstWrong : ChangeSpec := { name := "fnExactSourcesAgainst", fn := fun _ => fun
  | [d1, d2, d3, d4] => { results := [.lit (.bool false)], args := [d1, d2, d3, d4] }
  | _ => none }
def FnExactSourcesAgainstWrongFalsely : Prop := fnExactSourcesAgainstRow.holds Tryz.pinned (OpenSpec.ofChange fnExactSourcesAgainstWrong)

/-- 'laws.FnExactOwnDays': WHATEVER THE INPUT: true; the input reads as it did. -/
def fnExactOwnDaysSpec : ChangeSpec := { name := "fnExactOwnDays", fn := fun _ => fun
  | [d1, d2, d3] => { results := [.lit (.bool true)], args := [d1, d2, d3] }
  | _ => none }
def fnExactOwnDaysRow : OpenClaim := { program := "ytechbeegbhlppaagreatdoor", sum := "a8b2f9ef5f1373b51a6bdfaf1dcb6b63e7b6acb7f4e24711c0f0d11773539abb", func := "loop.example/g01034/laws.FnExactOwnDays", spec := "fnExactOwnDays", inPlace := ["internal/bytealg.IndexByteString", "internal/bytealg.IndexString"], unfollowed := true, recurses := true, named := ["unicode/utf8.first", "unicode/utf8.acceptRanges", "internal/bytealg.MaxLen"], apart := false, laid := [("unicode/utf8.acceptRanges", laid_unicode_utf8_acceptRanges), ("unicode/utf8.first", laid_unicode_utf8_first)] }
def FnExactOwnDaysSaid : Prop := fnExactOwnDaysRow.holds Tryz.pinned (OpenSpec.ofChange fnExactOwnDaysSpec)

/-- ITS FALSE NEIGHBOUR: 'it returns false'. Refute it at one input. -/
def fnExactOwnDaysWrong : ChangeSpec := { name := "fnExactOwnDays", fn := fun _ => fun
  | [d1, d2, d3] => { results := [.lit (.bool false)], args := [d1, d2, d3] }
  | _ => none }
def FnExactOwnDaysWrongFalsely : Prop := fnExactOwnDaysRow.holds Tryz.pinned (OpenSpec.ofChange fnExactOwnDaysWrong)

/-- 'laws.FnExactUselessSources': WHATEVER THE INPUT: true; the input reads as it did. -/
def fnExactUselessSourcesSpec : ChangeSpec := { name := "fnExactUselessSources", fn := fun _ => fun
  | [d1, d2, d3] => { results := [.lit (.bool true)], args := [d1, d2, d3] }
  | _ => none }
def fnExactUselessSourcesRow : OpenClaim := { program := "ytechbeegbhlppaagreatdoor", sum := "a8b2f9ef5f1373b51a6bdfaf1dcb6b63e7b6acb7f4e24711c0f0d11773539abb", func := "loop.example/g01034/laws.FnExactUselessSources", spec := "fnExactUselessSources", inPlace := ["internal/bytealg.IndexByteString", "internal/bytealg.IndexString"], unfollowed := true, recurses := true, named := ["unicode/utf8.first", "unicode/utf8.acceptRanges", "internal/bytealg.MaxLen"], apart := false, laid := [("unicode/utf8.acceptRanges", laid_unicode_utf8_acceptRanges), ("unicode/utf8.first", laid_unicode_utf8_first)] }
def FnExactUselessSourcesSaid : Prop := fnExactUselessSourcesRow.holds Tryz.pinned (OpenSpec.ofChange fnExactUselessSourcesSpec)

/-- ITS FALSE NEIGHBOUR: 'it returns false'. Refute it at one input. -/
def fnExactUselessSourcesWrong : ChangeSpec := { name := "fnExactUselessSources", fn := fun _ => fun
  | [d1, d2, d3] => { results := [.lit (.bool false)], args := [d1, d2, d3] }
  | _ => none }
def FnExactUselessSourcesWrongFalsely : Prop := fnExactUselessSourcesRow.holds Tryz.pinned (OpenSpec.ofChange fnExactUselessSourcesWrong)

/-- 'laws.FnExactNetworkOf': WHATEVER THE INPUT: true; the input reads as it did. -/
def fnExactNetworkOfSpec : ChangeSpec := { name := "fnExactNetworkOf", fn := fun _ => fun
  | [d1, d2] => { results := [.lit (.bool true)], args := [d1, d2] }
  | _ => none }
def fnExactNetworkOfRow : OpenClaim := { program := "ytechbeegbhlppaagreatdoor", sum := "a8b2f9ef5f1373b51a6bdfaf1dcb6b63e7b6acb7f4e24711c0f0d11773539abb", func := "loop.example/g01034/laws.FnExactNetworkOf", spec := "fnExactNetworkOf", inPlace := ["internal/bytealg.IndexByteString", "internal/bytealg.IndexString"], unfollowed := true, recurses := true, named := ["unicode/utf8.first", "unicode/utf8.acceptRanges", "internal/bytealg.MaxLen"], apart := false, laid := [("unicode/utf8.acceptRanges", laid_unicode_utf8_acceptRanges), ("unicode/utf8.first", laid_unicode_utf8_first)] }
def FnExactNetworkOfSaid : Prop := fnExactNetworkOfRow.holds Tryz.pinned (OpenSpec.ofChange fnExactNetworkOfSpec)

/-- ITS FALSE NEIGHBOUR: 'it returns false'. Refute it at one input. -/
def fnExactNetworkOfWrong : ChangeSpec := { name := "fnExactNetworkOf", fn := fun _ => fun
  | [d1, d2] => { results := [.lit (.bool false)], args := [d1, d2] }
  | _ => none }
def FnExactNetworkOfWrongFalsely : Prop := fnExactNetworkOfRow.holds Tryz.pinned (OpenSpec.ofChange fnExactNetworkOfWrong)

/- THE SECOND FORM. 'bulk': how many values and letters a reading holds, each counted each time it is reached (what is shared counts as often as it is met; a slice's spare places count too). A statement '..UptoSaid' is the law's where the arguments, and the package variables that the reading takes, are together of bulk at most 1048576: NARROWER than '..Said'. Prove '..Said' where nothing that the law and all that it calls make is longer than what came in: it says more and counts as full. Else prove '..UptoSaid'. A law counts once. -/
mutual
def uptoBulk {H : Type} : DataW H → Nat
  | .lit (.string bytes) => bytes.length + 1
  | .lit _ => 1
  | .nil => 1
  | .ptr d => uptoBulk d + 1
  | .slice elems spare => uptoBulkAll elems + uptoBulkAll spare + 1
  | .agg parts => uptoBulkAll parts + 1
  | .iface _ d => uptoBulk d + 1
  | .map entries => uptoBulkEntries entries + 1
  | .held _ => 1
def uptoBulkAll {H : Type} : List (DataW H) → Nat
  | [] => 0
  | d :: r => uptoBulk d + uptoBulkAll r
def uptoBulkEntries {H : Type} : List (Lit × DataW H) → Nat
  | [] => 0
  | x :: r => uptoBulkEntry x + uptoBulkEntries r
def uptoBulkEntry {H : Type} : Lit × DataW H → Nat
  | (.string bytes, d) => bytes.length + uptoBulk d + 1
  | (_, d) => uptoBulk d + 1
 end
def uptoSmall : (H : Type) → List (DataW H) → Bool := fun _ ds => decide (uptoBulkAll ds ≤ 1048576)
def OpenSpec.upto (s : _root_.Go.ChangeSpec) : _root_.Go.OpenSpec := { _root_.Go.OpenSpec.ofChange s with cond := some uptoSmall }

/-- 'laws.FnExactSourceDays', WHERE WHAT IT READS IS OF BULK AT MOST 1048576: true; the input reads as it did. -/
def fnExactSourceDaysUptoRow : OpenClaim := { program := "ytechbeegbhlppaagreatdoor", sum := "a8b2f9ef5f1373b51a6bdfaf1dcb6b63e7b6acb7f4e24711c0f0d11773539abb", func := "loop.example/g01034/laws.FnExactSourceDays", spec := "fnExactSourceDays", inPlace := ["internal/bytealg.IndexByteString", "internal/bytealg.IndexString"], unfollowed := true, recurses := true, named := ["unicode/utf8.first", "unicode/utf8.acceptRanges", "internal/bytealg.MaxLen"], apart := false, laid := [("unicode/utf8.acceptRanges", laid_unicode_utf8_acceptRanges), ("unicode/utf8.first", laid_unicode_utf8_first)], narrowed := true }
def FnExactSourceDaysUptoSaid : Prop := fnExactSourceDaysUptoRow.holds Tryz.pinned (OpenSpec.upto fnExactSourceDaysSpec)

/-- 'laws.FnExactSourcesAgainst', WHERE WHAT IT READS IS OF BULK AT MOST 1048576: true; the input reads as it did. -/
def fnExactSourcesAgainstUptoRow : OpenClaim := { program := "ytechbeegbhlppaagreatdoor", sum := "a8b2f9ef5f1373b51a6bdfaf1dcb6b63e7b6acb7f4e24711c0f0d11773539abb", func := "loop.example/g01034/laws.FnExactSourcesAgainst", spec := "fnExactSourcesAgainst", inPlace := ["internal/bytealg.IndexByteString", "internal/bytealg.IndexString"], unfollowed := true, recurses := true, named := ["unicode/utf8.first", "unicode/utf8.acceptRanges", "internal/bytealg.MaxLen"], apart := false, laid := [("unicode/utf8.acceptRanges", laid_unicode_utf8_acceptRanges), ("unicode/utf8.first", laid_unicode_utf8_first)], narrowed := true }
def FnExactSourcesAgainstUptoSaid : Prop := fnExactSourcesAgainstUptoRow.holds Tryz.pinned (OpenSpec.upto fnExactSourcesAgainstSpec)

/-- 'laws.FnExactOwnDays', WHERE WHAT IT READS IS OF BULK AT MOST 1048576: true; the input reads as it did. -/
def fnExactOwnDaysUptoRow : OpenClaim := { program := "ytechbeegbhlppaagreatdoor", sum := "a8b2f9ef5f1373b51a6bdfaf1dcb6b63e7b6acb7f4e24711c0f0d11773539abb", func := "loop.example/g01034/laws.FnExactOwnDays", spec := "fnExactOwnDays", inPlace := ["internal/bytealg.IndexByteString", "internal/bytealg.IndexString"], unfollowed := true, recurses := true, named := ["unicode/utf8.first", "unicode/utf8.acceptRanges", "internal/bytealg.MaxLen"], apart := false, laid := [("unicode/utf8.acceptRanges", laid_unicode_utf8_acceptRanges), ("unicode/utf8.first", laid_unicode_utf8_first)], narrowed := true }
def FnExactOwnDaysUptoSaid : Prop := fnExactOwnDaysUptoRow.holds Tryz.pinned (OpenSpec.upto fnExactOwnDaysSpec)

/-- 'laws.FnExactUselessSources', WHERE WHAT IT READS IS OF BULK AT MOST 1048576: true; the input reads as it did. -/
def fnExactUselessSourcesUptoRow : OpenClaim := { program := "ytechbeegbhlppaagreatdoor", sum := "a8b2f9ef5f1373b51a6bdfaf1dcb6b63e7b6acb7f4e24711c0f0d11773539abb", func := "loop.example/g01034/laws.FnExactUselessSources", spec := "fnExactUselessSources", inPlace := ["internal/bytealg.IndexByteString", "internal/bytealg.IndexString"], unfollowed := true, recurses := true, named := ["unicode/utf8.first", "unicode/utf8.acceptRanges", "internal/bytealg.MaxLen"], apart := false, laid := [("unicode/utf8.acceptRanges", laid_unicode_utf8_acceptRanges), ("unicode/utf8.first", laid_unicode_utf8_first)], narrowed := true }
def FnExactUselessSourcesUptoSaid : Prop := fnExactUselessSourcesUptoRow.holds Tryz.pinned (OpenSpec.upto fnExactUselessSourcesSpec)

/-- 'laws.FnExactNetworkOf', WHERE WHAT IT READS IS OF BULK AT MOST 1048576: true; the input reads as it did. -/
def fnExactNetworkOfUptoRow : OpenClaim := { program := "ytechbeegbhlppaagreatdoor", sum := "a8b2f9ef5f1373b51a6bdfaf1dcb6b63e7b6acb7f4e24711c0f0d11773539abb", func := "loop.example/g01034/laws.FnExactNetworkOf", spec := "fnExactNetworkOf", inPlace := ["internal/bytealg.IndexByteString", "internal/bytealg.IndexString"], unfollowed := true, recurses := true, named := ["unicode/utf8.first", "unicode/utf8.acceptRanges", "internal/bytealg.MaxLen"], apart := false, laid := [("unicode/utf8.acceptRanges", laid_unicode_utf8_acceptRanges), ("unicode/utf8.first", laid_unicode_utf8_first)], narrowed := true }
def FnExactNetworkOfUptoSaid : Prop := fnExactNetworkOfUptoRow.holds Tryz.pinned (OpenSpec.upto fnExactNetworkOfSpec)

end Rows
end Go.Proofs.YtechbeegbhlppaaGreatDoor
