/-
  NARROWER THAN 'FOR EVERY INPUT', by the rows' own cells (each row's printed sentence says how): FnCitations: laid · FnExactAreDeeds: laid · FnExactCitedBy: laid · FnExactCitingOrder: laid · FnDeeds: laid · FnDeedNetworks: laid · FnExactSourceDays: laid · FnExactSourcesAgainst: laid · FnExactOwnDays: laid · FnExactUselessSources: laid · FnExactNetworkOf: laid.
  DERIVED. THE GIVEN ROWS OF THIS SEAT. 11 by the template 'for every input the law returns true; each argument reads behind the call as it read before'; 0 by the template 'total and deterministic' (their statements: YtmmokjnljaifcaaGreatDoorTotals.lean).
  GIVEN WITH THE SEED: the statements are not yours to turn. If you find one false, say at which input.
  Laid BY PROGRAM, IN A SANDBOX (cutbox-rows.mjs): the forced cells as the released guide's own fill.sh prints them over the translation 2e9e45f4146332b3… (all of the seat's roots in one cut). By AI agents, Wed Nov 11 2026. No macro, syntax, notation, axiom, sorry.
-/
import Derived.Test.YtmmokjnljaifcaaGreatDoorChecked
import GoSem.PinnedTables
import GoSem.Claim
import GoSem.ClaimJoined
import GoSem.ClaimMapViews
import Derived.JoinedTies
import Derived.KernelRfl
namespace Go.Proofs.YtmmokjnljaifcaaGreatDoor
/- THE CELL 'sum', in the pinned program and in every row, IS THE sha256 OF THE DUMP (.gsa) THAT YtmmokjnljaifcaaGreatDoorProg.lean LOADS. Nothing in Lean hashes anything: it is a label: what it is worth is what the hold of that sum in a sandbox is worth. -/
noncomputable def Tryz.pinned : Pinned := { name := "ytmmokjnljaifcaagreatdoor", sum := "2e9e45f4146332b3956afaed934a6c6635e21a8ca062fdc01f378cb865d3945c", checked := Tryz.checked }
namespace Rows
def none {H : Type} : Left H := { results := [], args := [] }

/- WHAT THE LISTED PACKAGE-LEVEL VARIABLES READ AS WHEN THE CALL BEGINS. Each datum BY PROGRAM (the guide's laid-datum.mjs) off the statement by which the dump's own 'gosem.cut.vars' lays the variable. In a bare row this is a premise. The card (YtmmokjnljaifcaaGreatDoorCards.lean) ties it to the program's text. -/
def laid_unicode_utf8_acceptRanges {H : Type} : DataW H := .agg [.agg [.lit (.int .u8 128), .lit (.int .u8 191)], .agg [.lit (.int .u8 160), .lit (.int .u8 191)], .agg [.lit (.int .u8 128), .lit (.int .u8 159)], .agg [.lit (.int .u8 144), .lit (.int .u8 191)], .agg [.lit (.int .u8 128), .lit (.int .u8 143)], .agg [.lit (.int .u8 0), .lit (.int .u8 0)], .agg [.lit (.int .u8 0), .lit (.int .u8 0)], .agg [.lit (.int .u8 0), .lit (.int .u8 0)], .agg [.lit (.int .u8 0), .lit (.int .u8 0)], .agg [.lit (.int .u8 0), .lit (.int .u8 0)], .agg [.lit (.int .u8 0), .lit (.int .u8 0)], .agg [.lit (.int .u8 0), .lit (.int .u8 0)], .agg [.lit (.int .u8 0), .lit (.int .u8 0)], .agg [.lit (.int .u8 0), .lit (.int .u8 0)], .agg [.lit (.int .u8 0), .lit (.int .u8 0)], .agg [.lit (.int .u8 0), .lit (.int .u8 0)]]
/-- One of Go's own tables, pinned by name: the form's constant. -/
def laid_unicode_utf8_first : DataW Unit := Go.Pinned.utf8First

/-- 'laws.FnCitations': WHATEVER THE INPUT: true; the input reads as it did. -/
def fnCitationsSpec : ChangeSpec := { name := "fnCitations", fn := fun _ => fun
  | [d] => { results := [.lit (.bool true)], args := [d] }
  | _ => none }
def fnCitationsRow : OpenClaim := { program := "ytmmokjnljaifcaagreatdoor", sum := "2e9e45f4146332b3956afaed934a6c6635e21a8ca062fdc01f378cb865d3945c", func := "loop.example/g01034/laws.FnCitations", spec := "fnCitations", inPlace := ["internal/bytealg.IndexByteString", "internal/bytealg.IndexString"], unfollowed := true, recurses := true, named := ["unicode/utf8.first", "unicode/utf8.acceptRanges", "internal/bytealg.MaxLen"], apart := false, laid := [("unicode/utf8.acceptRanges", laid_unicode_utf8_acceptRanges), ("unicode/utf8.first", laid_unicode_utf8_first)] }
def FnCitationsSaid : Prop := fnCitationsRow.holds Tryz.pinned (OpenSpec.ofChange fnCitationsSpec)

/-- ITS FALSE NEIGHBOUR: 'it returns false'. Refute it at one input. -/
def fnCitationsWrong : ChangeSpec := { name := "fnCitations", fn := fun _ => fun
  | [d] => { results := [.lit (.bool false)], args := [d] }
  | _ => none }
def FnCitationsWrongFalsely : Prop := fnCitationsRow.holds Tryz.pinned (OpenSpec.ofChange fnCitationsWrong)

/-- 'laws.FnExactAreDeeds': WHATEVER THE INPUT: true; the input reads as it did. -/
def fnExactAreDeedsSpec : ChangeSpec := { name := "fnExactAreDeeds", fn := fun _ => fun
  | [d1, d2] => { results := [.lit (.bool true)], args := [d1, d2] }
  | _ => none }
def fnExactAreDeedsRow : OpenClaim := { program := "ytmmokjnljaifcaagreatdoor", sum := "2e9e45f4146332b3956afaed934a6c6635e21a8ca062fdc01f378cb865d3945c", func := "loop.example/g01034/laws.FnExactAreDeeds", spec := "fnExactAreDeeds", inPlace := ["internal/bytealg.IndexByteString", "internal/bytealg.IndexString"], unfollowed := true, recurses := true, named := ["unicode/utf8.first", "unicode/utf8.acceptRanges", "internal/bytealg.MaxLen"], apart := false, laid := [("unicode/utf8.acceptRanges", laid_unicode_utf8_acceptRanges), ("unicode/utf8.first", laid_unicode_utf8_first)] }
def FnExactAreDeedsSaid : Prop := fnExactAreDeedsRow.holds Tryz.pinned (OpenSpec.ofChange fnExactAreDeedsSpec)

/-- ITS FALSE NEIGHBOUR: 'it returns false'. Refute it at one input. -/
def fnExactAreDeedsWrong : ChangeSpec := { name := "fnExactAreDeeds", fn := fun _ => fun
  | [d1, d2] => { results := [.lit (.bool false)], args := [d1, d2] }
  | _ => none }
def FnExactAreDeedsWrongFalsely : Prop := fnExactAreDeedsRow.holds Tryz.pinned (OpenSpec.ofChange fnExactAreDeedsWrong)

/-- 'laws.FnExactCitedBy': WHATEVER THE INPUT: true; the input reads as it did. -/
def fnExactCitedBySpec : ChangeSpec := { name := "fnExactCitedBy", fn := fun _ => fun
  | [d1, d2, d3] => { results := [.lit (.bool true)], args := [d1, d2, d3] }
  | _ => none }
def fnExactCitedByRow : OpenClaim := { program := "ytmmokjnljaifcaagreatdoor", sum := "2e9e45f4146332b3956afaed934a6c6635e21a8ca062fdc01f378cb865d3945c", func := "loop.example/g01034/laws.FnExactCitedBy", spec := "fnExactCitedBy", inPlace := ["internal/bytealg.IndexByteString", "internal/bytealg.IndexString"], unfollowed := true, recurses := true, named := ["unicode/utf8.first", "unicode/utf8.acceptRanges", "internal/bytealg.MaxLen"], apart := false, laid := [("unicode/utf8.acceptRanges", laid_unicode_utf8_acceptRanges), ("unicode/utf8.first", laid_unicode_utf8_first)] }
def FnExactCitedBySaid : Prop := fnExactCitedByRow.holds Tryz.pinned (OpenSpec.ofChange fnExactCitedBySpec)

/-- ITS FALSE NEIGHBOUR: 'it returns false'. Refute it at one input. -/
def fnExactCitedByWrong : ChangeSpec := { name := "fnExactCitedBy", fn := fun _ => fun
  | [d1, d2, d3] => { results := [.lit (.bool false)], args := [d1, d2, d3] }
  | _ => none }
def FnExactCitedByWrongFalsely : Prop := fnExactCitedByRow.holds Tryz.pinned (OpenSpec.ofChange fnExactCitedByWrong)

/-- 'laws.FnExactCitingOrder': WHATEVER THE INPUT: true; the input reads as it did. -/
def fnExactCitingOrderSpec : ChangeSpec := { name := "fnExactCitingOrder", fn := fun _ => fun
  | [d1, d2] => { results := [.lit (.bool true)], args := [d1, d2] }
  | _ => none }
def fnExactCitingOrderRow : OpenClaim := { program := "ytmmokjnljaifcaagreatdoor", sum := "2e9e45f4146332b3956afaed934a6c6635e21a8ca062fdc01f378cb865d3945c", func := "loop.example/g01034/laws.FnExactCitingOrder", spec := "fnExactCitingOrder", inPlace := ["internal/bytealg.IndexByteString", "internal/bytealg.IndexString"], unfollowed := true, recurses := true, named := ["unicode/utf8.first", "unicode/utf8.acceptRanges", "internal/bytealg.MaxLen"], apart := false, laid := [("unicode/utf8.acceptRanges", laid_unicode_utf8_acceptRanges), ("unicode/utf8.first", laid_unicode_utf8_first)] }
def FnExactCitingOrderSaid : Prop := fnExactCitingOrderRow.holds Tryz.pinned (OpenSpec.ofChange fnExactCitingOrderSpec)

/-- ITS FALSE NEIGHBOUR: 'it returns false'. Refute it at one input. -/
def fnExactCitingOrderWrong : ChangeSpec := { name := "fnExactCitingOrder", fn := fun _ => fun
  | [d1, d2] => { results := [.lit (.bool false)], args := [d1, d2] }
  | _ => none }
def FnExactCitingOrderWrongFalsely : Prop := fnExactCitingOrderRow.holds Tryz.pinned (OpenSpec.ofChange fnExactCitingOrderWrong)

/-- 'laws.FnDeeds': WHATEVER THE INPUT: true; the input reads as it did. -/
def fnDeedsSpec : ChangeSpec := { name := "fnDeeds", fn := fun _ => fun
  | [d] => { results := [.lit (.bool true)], args := [d] }
  | _ => none }
def fnDeedsRow : OpenClaim := { program := "ytmmokjnljaifcaagreatdoor", sum := "2e9e45f4146332b3956afaed934a6c6635e21a8ca062fdc01f378cb865d3945c", func := "loop.example/g01034/laws.FnDeeds", spec := "fnDeeds", inPlace := ["internal/bytealg.IndexByteString", "internal/bytealg.IndexString"], unfollowed := true, recurses := true, named := ["unicode/utf8.first", "unicode/utf8.acceptRanges", "internal/bytealg.MaxLen"], apart := false, laid := [("unicode/utf8.acceptRanges", laid_unicode_utf8_acceptRanges), ("unicode/utf8.first", laid_unicode_utf8_first)] }
def FnDeedsSaid : Prop := fnDeedsRow.holds Tryz.pinned (OpenSpec.ofChange fnDeedsSpec)

/-- ITS FALSE NEIGHBOUR: 'it returns false'. Refute it at one input. -/
def fnDeedsWrong : ChangeSpec := { name := "fnDeeds", fn := fun _ => fun
  | [d] => { results := [.lit (.bool false)], args := [d] }
  | _ => none }
def FnDeedsWrongFalsely : Prop := fnDeedsRow.holds Tryz.pinned (OpenSpec.ofChange fnDeedsWrong)

/-- 'laws.FnDeedNetworks': WHATEVER THE INPUT: true; the input reads as it did. -/
def fnDeedNetworksSpec : ChangeSpec := { name := "fnDeedNetworks", fn := fun _ => fun
  | [d] => { results := [.lit (.bool true)], args := [d] }
  | _ => none }
def fnDeedNetworksRow : OpenClaim := { program := "ytmmokjnljaifcaagreatdoor", sum := "2e9e45f4146332b3956afaed934a6c6635e21a8ca062fdc01f378cb865d3945c", func := "loop.example/g01034/laws.FnDeedNetworks", spec := "fnDeedNetworks", inPlace := ["internal/bytealg.IndexByteString", "internal/bytealg.IndexString"], unfollowed := true, recurses := true, named := ["unicode/utf8.first", "unicode/utf8.acceptRanges", "internal/bytealg.MaxLen"], apart := false, laid := [("unicode/utf8.acceptRanges", laid_unicode_utf8_acceptRanges), ("unicode/utf8.first", laid_unicode_utf8_first)] }
def FnDeedNetworksSaid : Prop := fnDeedNetworksRow.holds Tryz.pinned (OpenSpec.ofChange fnDeedNetworksSpec)

/-- ITS FALSE NEIGHBOUR: 'it returns false'. Refute it at one input. -/
def fnDeedNetworksWrong : ChangeSpec := { name := "fnDeedNetworks", fn := fun _ => fun
  | [d] => { results := [.lit (.bool false)], args := [d] }
  | _ => none }
def FnDeedNetworksWrongFalsely : Prop := fnDeedNetworksRow.holds Tryz.pinned (OpenSpec.ofChange fnDeedNetworksWrong)

/-- 'laws.FnExactSourceDays': WHATEVER THE INPUT: true; the input reads as it did. -/
def fnExactSourceDaysSpec : ChangeSpec := { name := "fnExactSourceDays", fn := fun _ => fun
  | [d1, d2, d3, d4] => { results := [.lit (.bool true)], args := [d1, d2, d3, d4] }
  | _ => none }
def fnExactSourceDaysRow : OpenClaim := { program := "ytmmokjnljaifcaagreatdoor", sum := "2e9e45f4146332b3956afaed934a6c6635e21a8ca062fdc01f378cb865d3945c", func := "loop.example/g01034/laws.FnExactSourceDays", spec := "fnExactSourceDays", inPlace := ["internal/bytealg.IndexByteString", "internal/bytealg.IndexString"], unfollowed := true, recurses := true, named := ["unicode/utf8.first", "unicode/utf8.acceptRanges", "internal/bytealg.MaxLen"], apart := false, laid := [("unicode/utf8.acceptRanges", laid_unicode_utf8_acceptRanges), ("unicode/utf8.first", laid_unicode_utf8_first)] }
def FnExactSourceDaysSaid : Prop := fnExactSourceDaysRow.holds Tryz.pinned (OpenSpec.ofChange fnExactSourceDaysSpec)

/-- ITS FALSE NEIGHBOUR: 'it returns false'. Refute it at one input. -/
def fnExactSourceDaysWrong : ChangeSpec := { name := "fnExactSourceDays", fn := fun _ => fun
  | [d1, d2, d3, d4] => { results := [.lit (.bool false)], args := [d1, d2, d3, d4] }
  | _ => none }
def FnExactSourceDaysWrongFalsely : Prop := fnExactSourceDaysRow.holds Tryz.pinned (OpenSpec.ofChange fnExactSourceDaysWrong)

/-- 'laws.FnExactSourcesAgainst': WHATEVER THE INPUT: true; the input reads as it did. -/
def fnExactSourcesAgainstSpec : ChangeSpec := { name := "fnExactSourcesAgainst", fn := fun _ => fun
  | [d1, d2, d3, d4] => { results := [.lit (.bool true)], args := [d1, d2, d3, d4] }
  | _ => none }
def fnExactSourcesAgainstRow : OpenClaim := { program := "ytmmokjnljaifcaagreatdoor", sum := "2e9e45f4146332b3956afaed934a6c6635e21a8ca062fdc01f378cb865d3945c", func := "loop.example/g01034/laws.FnExactSourcesAgainst", spec := "fnExactSourcesAgainst", inPlace := ["internal/bytealg.IndexByteString", "internal/bytealg.IndexString"], unfollowed := true, recurses := true, named := ["unicode/utf8.first", "unicode/utf8.acceptRanges", "internal/bytealg.MaxLen"], apart := false, laid := [("unicode/utf8.acceptRanges", laid_unicode_utf8_acceptRanges), ("unicode/utf8.first", laid_unicode_utf8_first)] }
def FnExactSourcesAgainstSaid : Prop := fnExactSourcesAgainstRow.holds Tryz.pinned (OpenSpec.ofChange fnExactSourcesAgainstSpec)

/-- ITS FALSE NEIGHBOUR: 'it returns false'. Refute it at one input. -/
def fnExactSourcesAgainstWrong : ChangeSpec := { name := "fnExactSourcesAgainst", fn := fun _ => fun
  | [d1, d2, d3, d4] => { results := [.lit (.bool false)], args := [d1, d2, d3, d4] }
  | _ => none }
def FnExactSourcesAgainstWrongFalsely : Prop := fnExactSourcesAgainstRow.holds Tryz.pinned (OpenSpec.ofChange fnExactSourcesAgainstWrong)

/-- 'laws.FnExactOwnDays': WHATEVER THE INPUT: true; the input reads as it did. -/
def fnExactOwnDaysSpec : ChangeSpec := { name := "fnExactOwnDays", fn := fun _ => fun
  | [d1, d2, d3] => { results := [.lit (.bool true)], args := [d1, d2, d3] }
  | _ => none }
def fnExactOwnDaysRow : OpenClaim := { program := "ytmmokjnljaifcaagreatdoor", sum := "2e9e45f4146332b3956afaed934a6c6635e21a8ca062fdc01f378cb865d3945c", func := "loop.example/g01034/laws.FnExactOwnDays", spec := "fnExactOwnDays", inPlace := ["internal/bytealg.IndexByteString", "internal/bytealg.IndexString"], unfollowed := true, recurses := true, named := ["unicode/utf8.first", "unicode/utf8.acceptRanges", "internal/bytealg.MaxLen"], apart := false, laid := [("unicode/utf8.acceptRanges", laid_unicode_utf8_acceptRanges), ("unicode/utf8.first", laid_unicode_utf8_first)] }
def FnExactOwnDaysSaid : Prop := fnExactOwnDaysRow.holds Tryz.pinned (OpenSpec.ofChange fnExactOwnDaysSpec)

/-- ITS FALSE NEIGHBOUR: 'it returns false'. Refute it at one input. -/
def fnExactOwnDaysWrong : ChangeSpec := { name := "fnExactOwnDays", fn := fun _ => fun
  | [d1, d2, d3] => { results := [.lit (.bool false)], args := [d1, d2, d3] }
  | _ => none }
def FnExactOwnDaysWrongFalsely : Prop := fnExactOwnDaysRow.holds Tryz.pinned (OpenSpec.ofChange fnExactOwnDaysWrong)

/-- 'laws.FnExactUselessSources': WHATEVER THE INPUT: true; the input reads as it did. -/
def fnExactUselessSourcesSpec : ChangeSpec := { name := "fnExactUselessSources", fn := fun _ => fun
  | [d1, d2, d3] => { results := [.lit (.bool true)], args := [d1, d2, d3] }
  | _ => none }
def fnExactUselessSourcesRow : OpenClaim := { program := "ytmmokjnljaifcaagreatdoor", sum := "2e9e45f4146332b3956afaed934a6c6635e21a8ca062fdc01f378cb865d3945c", func := "loop.example/g01034/laws.FnExactUselessSources", spec := "fnExactUselessSources", inPlace := ["internal/bytealg.IndexByteString", "internal/bytealg.IndexString"], unfollowed := true, recurses := true, named := ["unicode/utf8.first", "unicode/utf8.acceptRanges", "internal/bytealg.MaxLen"], apart := false, laid := [("unicode/utf8.acceptRanges", laid_unicode_utf8_acceptRanges), ("unicode/utf8.first", laid_unicode_utf8_first)] }
def FnExactUselessSourcesSaid : Prop := fnExactUselessSourcesRow.holds Tryz.pinned (OpenSpec.ofChange fnExactUselessSourcesSpec)

/-- ITS FALSE NEIGHBOUR: 'it returns false'. Refute it at one input. -/
def fnExactUselessSourcesWrong : ChangeSpec := { name := "fnExactUselessSources", fn := fun _ => fun
  | [d1, d2, d3] => { results := [.lit (.bool false)], args := [d1, d2, d3] }
  | _ => none }
def FnExactUselessSourcesWrongFalsely : Prop := fnExactUselessSourcesRow.holds Tryz.pinned (OpenSpec.ofChange fnExactUselessSourcesWrong)

/-- 'laws.FnExactNetworkOf': WHATEVER THE INPUT: true; the input reads as it did. -/
def fnExactNetworkOfSpec : ChangeSpec := { name := "fnExactNetworkOf", fn := fun _ => fun
  | [d1, d2] => { results := [.lit (.bool true)], args := [d1, d2] }
  | _ => none }
def fnExactNetworkOfRow : OpenClaim := { program := "ytmmokjnljaifcaagreatdoor", sum := "2e9e45f4146332b3956afaed934a6c6635e21a8ca062fdc01f378cb865d3945c", func := "loop.example/g01034/laws.FnExactNetworkOf", spec := "fnExactNetworkOf", inPlace := ["internal/bytealg.IndexByteString", "internal/bytealg.IndexString"], unfollowed := true, recurses := true, named := ["unicode/utf8.first", "unicode/utf8.acceptRanges", "internal/bytealg.MaxLen"], apart := false, laid := [("unicode/utf8.acceptRanges", laid_unicode_utf8_acceptRanges), ("unicode/utf8.first", laid_unicode_utf8_first)] }
def FnExactNetworkOfSaid : Prop := fnExactNetworkOfRow.holds Tryz.pinned (OpenSpec.ofChange fnExactNetworkOfSpec)

/-- ITS FALSE NEIGHBOUR: 'it returns false'. Refute it at one input. -/
def fnExactNetworkOfWrong : ChangeSpec := { name := "fnExactNetworkOf", fn := fun _ => fun
  | [d1, d2] => { results := [.lit (.bool false)], args := [d1, d2] }
  | _ => none }
def FnExactNetworkOfWrongFalsely : Prop := fnExactNetworkOfRow.holds Tryz.pinned (OpenSpec.ofChange fnExactNetworkOfWrong)

/- THE SECOND FORM. 'bulk': how many values and letters a reading holds, each counted each time it is reached (what is shared counts as often as it is met; a slice's spare places count too). A statement '..UptoSaid' is the law's where the arguments, and the package variables that the reading takes, are together of bulk at most 1048576: NARROWER than '..Said'. Prove '..Said' where nothing that the law and all that it calls make is longer than what came in: it says more and counts as full. Else prove '..UptoSaid'. A law counts once. -/
mutual
def uptoBulk {H : Type} : DataW H → Nat
  | .lit (.string bytes) => bytes.length + 1
  | .lit _ => 1
  | .nil => 1
  | .ptr d => uptoBulk d + 1
  | .slice elems spare => uptoBulkAll elems + uptoBulkAll spare + 1
  | .agg parts => uptoBulkAll parts + 1
  | .iface _ d => uptoBulk d + 1
  | .map entries => uptoBulkEntries entries + 1
  | .held _ => 1
def uptoBulkAll {H : Type} : List (DataW H) → Nat
  | [] => 0
  | d :: r => uptoBulk d + uptoBulkAll r
def uptoBulkEntries {H : Type} : List (Lit × DataW H) → Nat
  | [] => 0
  | x :: r => uptoBulkEntry x + uptoBulkEntries r
def uptoBulkEntry {H : Type} : Lit × DataW H → Nat
  | (.string bytes, d) => bytes.length + uptoBulk d + 1
  | (_, d) => uptoBulk d + 1
 end
def uptoSmall : (H : Type) → List (DataW H) → Bool := fun _ ds => decide (uptoBulkAll ds ≤ 1048576)
def OpenSpec.upto (s : _root_.Go.ChangeSpec) : _root_.Go.OpenSpec := { _root_.Go.OpenSpec.ofChange s with cond := some uptoSmall }

/-- 'laws.FnCitations', WHERE WHAT IT READS IS OF BULK AT MOST 1048576: true; the input reads as it did. -/
def fnCitationsUptoRow : OpenClaim := { program := "ytmmokjnljaifcaagreatdoor", sum := "2e9e45f4146332b3956afaed934a6c6635e21a8ca062fdc01f378cb865d3945c", func := "loop.example/g01034/laws.FnCitations", spec := "fnCitations", inPlace := ["internal/bytealg.IndexByteString", "internal/bytealg.IndexString"], unfollowed := true, recurses := true, named := ["unicode/utf8.first", "unicode/utf8.acceptRanges", "internal/bytealg.MaxLen"], apart := false, laid := [("unicode/utf8.acceptRanges", laid_unicode_utf8_acceptRanges), ("unicode/utf8.first", laid_unicode_utf8_first)], narrowed := true }
def FnCitationsUptoSaid : Prop := fnCitationsUptoRow.holds Tryz.pinned (OpenSpec.upto fnCitationsSpec)

/-- 'laws.FnExactAreDeeds', WHERE WHAT IT READS IS OF BULK AT MOST 1048576: true; the input reads as it did. -/
def fnExactAreDeedsUptoRow : OpenClaim := { program := "ytmmokjnljaifcaagreatdoor", sum := "2e9e45f4146332b3956afaed934a6c6635e21a8ca062fdc01f378cb865d3945c", func := "loop.example/g01034/laws.FnExactAreDeeds", spec := "fnExactAreDeeds", inPlace := ["internal/bytealg.IndexByteString", "internal/bytealg.IndexString"], unfollowed := true, recurses := true, named := ["unicode/utf8.first", "unicode/utf8.acceptRanges", "internal/bytealg.MaxLen"], apart := false, laid := [("unicode/utf8.acceptRanges", laid_unicode_utf8_acceptRanges), ("unicode/utf8.first", laid_unicode_utf8_first)], narrowed := true }
def FnExactAreDeedsUptoSaid : Prop := fnExactAreDeedsUptoRow.holds Tryz.pinned (OpenSpec.upto fnExactAreDeedsSpec)

/-- 'laws.FnExactCitedBy', WHERE WHAT IT READS IS OF BULK AT MOST 1048576: true; the input reads as it did. -/
def fnExactCitedByUptoRow : OpenClaim := { program := "ytmmokjnljaifcaagreatdoor", sum := "2e9e45f4146332b3956afaed934a6c6635e21a8ca062fdc01f378cb865d3945c", func := "loop.example/g01034/laws.FnExactCitedBy", spec := "fnExactCitedBy", inPlace := ["internal/bytealg.IndexByteString", "internal/bytealg.IndexString"], unfollowed := true, recurses := true, named := ["unicode/utf8.first", "unicode/utf8.acceptRanges", "internal/bytealg.MaxLen"], apart := false, laid := [("unicode/utf8.acceptRanges", laid_unicode_utf8_acceptRanges), ("unicode/utf8.first", laid_unicode_utf8_first)], narrowed := true }
def FnExactCitedByUptoSaid : Prop := fnExactCitedByUptoRow.holds Tryz.pinned (OpenSpec.upto fnExactCitedBySpec)

/-- 'laws.FnExactCitingOrder', WHERE WHAT IT READS IS OF BULK AT MOST 1048576: true; the input reads as it did. -/
def fnExactCitingOrderUptoRow : OpenClaim := { program := "ytmmokjnljaifcaagreatdoor", sum := "2e9e45f4146332b3956afaed934a6c6635e21a8ca062fdc01f378cb865d3945c", func := "loop.example/g01034/laws.FnExactCitingOrder", spec := "fnExactCitingOrder", inPlace := ["internal/bytealg.IndexByteString", "internal/bytealg.IndexString"], unfollowed := true, recurses := true, named := ["unicode/utf8.first", "unicode/utf8.acceptRanges", "internal/bytealg.MaxLen"], apart := false, laid := [("unicode/utf8.acceptRanges", laid_unicode_utf8_acceptRanges), ("unicode/utf8.first", laid_unicode_utf8_first)], narrowed := true }
def FnExactCitingOrderUptoSaid : Prop := fnExactCitingOrderUptoRow.holds Tryz.pinned (OpenSpec.upto fnExactCitingOrderSpec)

/-- 'laws.FnDeeds', WHERE WHAT IT READS IS OF BULK AT MOST 1048576: true; the input reads as it did. -/
def fnDeedsUptoRow : OpenClaim := { program := "ytmmokjnljaifcaagreatdoor", sum := "2e9e45f4146332b3956afaed934a6c6635e21a8ca062fdc01f378cb865d3945c", func := "loop.example/g01034/laws.FnDeeds", spec := "fnDeeds", inPlace := ["internal/bytealg.IndexByteString", "internal/bytealg.IndexString"], unfollowed := true, recurses := true, named := ["unicode/utf8.first", "unicode/utf8.acceptRanges", "internal/bytealg.MaxLen"], apart := false, laid := [("unicode/utf8.acceptRanges", laid_unicode_utf8_acceptRanges), ("unicode/utf8.first", laid_unicode_utf8_first)], narrowed := true }
def FnDeedsUptoSaid : Prop := fnDeedsUptoRow.holds Tryz.pinned (OpenSpec.upto fnDeedsSpec)

/-- 'laws.FnDeedNetworks', WHERE WHAT IT READS IS OF BULK AT MOST 1048576: true; the input reads as it did. -/
def fnDeedNetworksUptoRow : OpenClaim := { program := "ytmmokjnljaifcaagreatdoor", sum := "2e9e45f4146332b3956afaed934a6c6635e21a8ca062fdc01f378cb865d3945c", func := "loop.example/g01034/laws.FnDeedNetworks", spec := "fnDeedNetworks", inPlace := ["internal/bytealg.IndexByteString", "internal/bytealg.IndexString"], unfollowed := true, recurses := true, named := ["unicode/utf8.first", "unicode/utf8.acceptRanges", "internal/bytealg.MaxLen"], apart := false, laid := [("unicode/utf8.acceptRanges", laid_unicode_utf8_acceptRanges), ("unicode/utf8.first", laid_unicode_utf8_first)], narrowed := true }
def FnDeedNetworksUptoSaid : Prop := fnDeedNetworksUptoRow.holds Tryz.pinned (OpenSpec.upto fnDeedNetworksSpec)

/-- 'laws.FnExactSourceDays', WHERE WHAT IT READS IS OF BULK AT MOST 1048576: true; the input reads as it did. -/
def fnExactSourceDaysUptoRow : OpenClaim := { program := "ytmmokjnljaifcaagreatdoor", sum := "2e9e45f4146332b3956afaed934a6c6635e21a8ca062fdc01f378cb865d3945c", func := "loop.example/g01034/laws.FnExactSourceDays", spec := "fnExactSourceDays", inPlace := ["internal/bytealg.IndexByteString", "internal/bytealg.IndexString"], unfollowed := true, recurses := true, named := ["unicode/utf8.first", "unicode/utf8.acceptRanges", "internal/bytealg.MaxLen"], apart := false, laid := [("unicode/utf8.acceptRanges", laid_unicode_utf8_acceptRanges), ("unicode/utf8.first", laid_unicode_utf8_first)], narrowed := true }
def FnExactSourceDaysUptoSaid : Prop := fnExactSourceDaysUptoRow.holds Tryz.pinned (OpenSpec.upto fnExactSourceDaysSpec)

/-- 'laws.FnExactSourcesAgainst', WHERE WHAT IT READS IS OF BULK AT MOST 1048576: true; the input reads as it did. -/
def fnExactSourcesAgainstUptoRow : OpenClaim := { program := "ytmmokjnljaifcaagreatdoor", sum := "2e9e45f4146332b3956afaed934a6c6635e21a8ca062fdc01f378cb865d3945c", func := "loop.example/g01034/laws.FnExactSourcesAgainst", spec := "fnExactSourcesAgainst", inPlace := ["internal/bytealg.IndexByteString", "internal/bytealg.IndexString"], unfollowed := true, recurses := true, named := ["unicode/utf8.first", "unicode/utf8.acceptRanges", "internal/bytealg.MaxLen"], apart := false, laid := [("unicode/utf8.acceptRanges", laid_unicode_utf8_acceptRanges), ("unicode/utf8.first", laid_unicode_utf8_first)], narrowed := true }
def FnExactSourcesAgainstUptoSaid : Prop := fnExactSourcesAgainstUptoRow.holds Tryz.pinned (OpenSpec.upto fnExactSourcesAgainstSpec)

/-- 'laws.FnExactOwnDays', WHERE WHAT IT READS IS OF BULK AT MOST 1048576: true; the input reads as it did. -/
def fnExactOwnDaysUptoRow : OpenClaim := { program := "ytmmokjnljaifcaagreatdoor", sum := "2e9e45f4146332b3956afaed934a6c6635e21a8ca062fdc01f378cb865d3945c", func := "loop.example/g01034/laws.FnExactOwnDays", spec := "fnExactOwnDays", inPlace := ["internal/bytealg.IndexByteString", "internal/bytealg.IndexString"], unfollowed := true, recurses := true, named := ["unicode/utf8.first", "unicode/utf8.acceptRanges", "internal/bytealg.MaxLen"], apart := false, laid := [("unicode/utf8.acceptRanges", laid_unicode_utf8_acceptRanges), ("unicode/utf8.first", laid_unicode_utf8_first)], narrowed := true }
def FnExactOwnDaysUptoSaid : Prop := fnExactOwnDaysUptoRow.holds Tryz.pinned (OpenSpec.upto fnExactOwnDaysSpec)

/-- 'laws.FnExactUselessSources', WHERE WHAT IT READS IS OF BULK AT MOST 1048576: true; the input reads as it did. -/
def fnExactUselessSourcesUptoRow : OpenClaim := { program := "ytmmokjnljaifcaagreatdoor", sum := "2e9e45f4146332b3956afaed934a6c6635e21a8ca062fdc01f378cb865d3945c", func := "loop.example/g01034/laws.FnExactUselessSources", spec := "fnExactUselessSources", inPlace := ["internal/bytealg.IndexByteString", "internal/bytealg.IndexString"], unfollowed := true, recurses := true, named := ["unicode/utf8.first", "unicode/utf8.acceptRanges", "internal/bytealg.MaxLen"], apart := false, laid := [("unicode/utf8.acceptRanges", laid_unicode_utf8_acceptRanges), ("unicode/utf8.first", laid_unicode_utf8_first)], narrowed := true }
def FnExactUselessSourcesUptoSaid : Prop := fnExactUselessSourcesUptoRow.holds Tryz.pinned (OpenSpec.upto fnExactUselessSourcesSpec)

/-- 'laws.FnExactNetworkOf', WHERE WHAT IT READS IS OF BULK AT MOST 1048576: true; the input reads as it did. -/
def fnExactNetworkOfUptoRow : OpenClaim := { program := "ytmmokjnljaifcaagreatdoor", sum := "2e9e45f4146332b3956afaed934a6c6635e21a8ca062fdc01f378cb865d3945c", func := "loop.example/g01034/laws.FnExactNetworkOf", spec := "fnExactNetworkOf", inPlace := ["internal/bytealg.IndexByteString", "internal/bytealg.IndexString"], unfollowed := true, recurses := true, named := ["unicode/utf8.first", "unicode/utf8.acceptRanges", "internal/bytealg.MaxLen"], apart := false, laid := [("unicode/utf8.acceptRanges", laid_unicode_utf8_acceptRanges), ("unicode/utf8.first", laid_unicode_utf8_first)], narrowed := true }
def FnExactNetworkOfUptoSaid : Prop := fnExactNetworkOfUptoRow.holds Tryz.pinned (OpenSpec.upto fnExactNetworkOfSpec)

end Rows
end Go.Proofs.YtmmokjnljaifcaaGreatDoor
