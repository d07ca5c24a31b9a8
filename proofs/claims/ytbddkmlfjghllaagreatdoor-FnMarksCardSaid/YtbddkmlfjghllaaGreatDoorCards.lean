/-
  DERIVED. GIVEN WITH THE SEED: THE CARDS: each row of YtbddkmlfjghllaaGreatDoorRows.lean that lists a variable, with what it lists TIED to the program's text (the seventh form; the later family's looks); each row that meets fmt, with fmt's text TOLD by the authors' own Lean function (tested against real Go, not proved from fmt's source: count such statements apart). THE CARD IS WHAT COUNTS. Prove the row's statement (the work); the ties are given (YtbddkmlfjghllaaGreatDoorTie.lean); close each card by the builder's one call (the guide's Derived/Test/ToyasCard.lean, 'card_holds'). Laid BY PROGRAM, IN A SANDBOX (cutbox-door.mjs). By AI agents, Wed Nov 11 2026. No macro, syntax, notation, axiom, sorry.
-/
import Derived.Test.YtbddkmlfjghllaaGreatDoorRows
import GoSem.ClaimSeven
namespace Go.Proofs.YtbddkmlfjghllaaGreatDoor
namespace Rows

/-- THE TIED CARD OF 'laws.FnMarks'. -/
def fnMarksCard : Claim7 := { stood := { row := fnMarksRow, standIns := [], harness := (true, "242ff44c5bd6bbdd0286531b0e69a46dc5cc64919c19fcf99afab35b8384239c"), looks := true }, kinds := [], alts := [], laidByText := true, laidKinds := [.data, .pinned], laidTests := true, laidLooks := .later }
def FnMarksCardSaid : Prop := Claim7.holds Tryz.pinned (.plain (OpenSpec.ofChange fnMarksSpec)) fnMarksCard

/-- THE TIED CARD OF 'laws.FnExactIsWorld'. -/
def fnExactIsWorldCard : Claim7 := { stood := { row := fnExactIsWorldRow, standIns := [], harness := (true, "242ff44c5bd6bbdd0286531b0e69a46dc5cc64919c19fcf99afab35b8384239c"), looks := true }, kinds := [], alts := [], laidByText := true, laidKinds := [.data, .pinned], laidTests := true, laidLooks := .later }
def FnExactIsWorldCardSaid : Prop := Claim7.holds Tryz.pinned (.plain (OpenSpec.ofChange fnExactIsWorldSpec)) fnExactIsWorldCard

/-- THE TIED CARD OF 'laws.FnMarkTexts'. -/
def fnMarkTextsCard : Claim7 := { stood := { row := fnMarkTextsRow, standIns := [], harness := (true, "242ff44c5bd6bbdd0286531b0e69a46dc5cc64919c19fcf99afab35b8384239c"), looks := true }, kinds := [], alts := [], laidByText := true, laidKinds := [.data, .data, .data, .data, .sentinel, .sentinel, .pinned], laidTests := true, laidLooks := .later }
def FnMarkTextsCardSaid : Prop := Claim7.holds Tryz.pinned (.plain (OpenSpec.ofChange fnMarkTextsSpec)) fnMarkTextsCard

/-- THE SECOND FORM's CARD OF 'laws.FnMarks'. -/
def fnMarksUptoCard : Claim7 := { stood := { row := fnMarksUptoRow, standIns := [], harness := (true, "242ff44c5bd6bbdd0286531b0e69a46dc5cc64919c19fcf99afab35b8384239c"), looks := true }, kinds := [], alts := [], laidByText := true, laidKinds := [.data, .pinned], laidTests := true, laidLooks := .later }
def FnMarksUptoCardSaid : Prop := Claim7.holds Tryz.pinned (.plain (OpenSpec.upto fnMarksSpec)) fnMarksUptoCard

/-- THE SECOND FORM's CARD OF 'laws.FnExactIsWorld'. -/
def fnExactIsWorldUptoCard : Claim7 := { stood := { row := fnExactIsWorldUptoRow, standIns := [], harness := (true, "242ff44c5bd6bbdd0286531b0e69a46dc5cc64919c19fcf99afab35b8384239c"), looks := true }, kinds := [], alts := [], laidByText := true, laidKinds := [.data, .pinned], laidTests := true, laidLooks := .later }
def FnExactIsWorldUptoCardSaid : Prop := Claim7.holds Tryz.pinned (.plain (OpenSpec.upto fnExactIsWorldSpec)) fnExactIsWorldUptoCard

/-- THE SECOND FORM's CARD OF 'laws.FnMarkTexts'. -/
def fnMarkTextsUptoCard : Claim7 := { stood := { row := fnMarkTextsUptoRow, standIns := [], harness := (true, "242ff44c5bd6bbdd0286531b0e69a46dc5cc64919c19fcf99afab35b8384239c"), looks := true }, kinds := [], alts := [], laidByText := true, laidKinds := [.data, .data, .data, .data, .sentinel, .sentinel, .pinned], laidTests := true, laidLooks := .later }
def FnMarkTextsUptoCardSaid : Prop := Claim7.holds Tryz.pinned (.plain (OpenSpec.upto fnMarkTextsSpec)) fnMarkTextsUptoCard
end Rows
end Go.Proofs.YtbddkmlfjghllaaGreatDoor
