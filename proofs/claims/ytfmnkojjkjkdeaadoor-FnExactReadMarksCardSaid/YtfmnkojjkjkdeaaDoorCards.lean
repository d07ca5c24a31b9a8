/-
  DERIVED. GIVEN WITH THE SEED: THE CARDS: each row of YtfmnkojjkjkdeaaDoorRows.lean that lists a variable, with what it lists TIED to the program's text (the seventh form; the later family's looks); each row that meets fmt, with fmt's text TOLD by the authors' own Lean function (tested against real Go, not proved from fmt's source: count such statements apart). THE CARD IS WHAT COUNTS. Prove the row's statement (the work); the ties are given (YtfmnkojjkjkdeaaDoorTie.lean); close each card by the builder's one call (the guide's Derived/Test/ToyasCard.lean, 'card_holds'). Laid BY PROGRAM, IN A SANDBOX (cutbox-door.mjs). By AI agents, Wed Nov 11 2026. No macro, syntax, notation, axiom, sorry.
-/
import Derived.Test.YtfmnkojjkjkdeaaDoorRows
import GoSem.ClaimSeven
namespace Go.Proofs.YtfmnkojjkjkdeaaDoor
namespace Rows

/-- THE TIED CARD OF 'laws.FnExactStatementText'. -/
def fnExactStatementTextCard : Claim7 := { stood := { row := fnExactStatementTextRow, standIns := [], harness := (true, "61975d8284e68fc71bc48f5672277451e31390918da75aae47be50643cd56c75"), looks := true }, kinds := [], alts := [], laidByText := true, laidKinds := [.data, .data, .data], laidTests := true, laidLooks := .later }
def FnExactStatementTextCardSaid : Prop := Claim7.holds Tryd.pinned (.plain (OpenSpec.ofChange fnExactStatementTextSpec)) fnExactStatementTextCard

/-- THE TIED CARD OF 'laws.FnExactMarkDays'. -/
def fnExactMarkDaysCard : Claim7 := { stood := { row := fnExactMarkDaysRow, standIns := [], harness := (true, "61975d8284e68fc71bc48f5672277451e31390918da75aae47be50643cd56c75"), looks := true }, kinds := [], alts := [], laidByText := true, laidKinds := [.data, .pinned], laidTests := true, laidLooks := .later }
def FnExactMarkDaysCardSaid : Prop := Claim7.holds Tryd.pinned (.plain (OpenSpec.ofChange fnExactMarkDaysSpec)) fnExactMarkDaysCard

/-- THE TIED CARD OF 'laws.FnExactReadMarks'. -/
def fnExactReadMarksCard : Claim7 := { stood := { row := fnExactReadMarksRow, standIns := [], harness := (true, "61975d8284e68fc71bc48f5672277451e31390918da75aae47be50643cd56c75"), looks := true }, kinds := [], alts := [], laidByText := true, laidKinds := [.data, .data, .data, .data, .sentinel, .sentinel, .pinned], laidTests := true, laidLooks := .later }
def FnExactReadMarksCardSaid : Prop := Claim7.holds Tryd.pinned (.plain (OpenSpec.ofChange fnExactReadMarksSpec)) fnExactReadMarksCard

/-- THE SECOND FORM's CARD OF 'laws.FnExactStatementText'. -/
def fnExactStatementTextUptoCard : Claim7 := { stood := { row := fnExactStatementTextUptoRow, standIns := [], harness := (true, "61975d8284e68fc71bc48f5672277451e31390918da75aae47be50643cd56c75"), looks := true }, kinds := [], alts := [], laidByText := true, laidKinds := [.data, .data, .data], laidTests := true, laidLooks := .later }
def FnExactStatementTextUptoCardSaid : Prop := Claim7.holds Tryd.pinned (.plain (OpenSpec.upto fnExactStatementTextSpec)) fnExactStatementTextUptoCard

/-- THE SECOND FORM's CARD OF 'laws.FnExactMarkDays'. -/
def fnExactMarkDaysUptoCard : Claim7 := { stood := { row := fnExactMarkDaysUptoRow, standIns := [], harness := (true, "61975d8284e68fc71bc48f5672277451e31390918da75aae47be50643cd56c75"), looks := true }, kinds := [], alts := [], laidByText := true, laidKinds := [.data, .pinned], laidTests := true, laidLooks := .later }
def FnExactMarkDaysUptoCardSaid : Prop := Claim7.holds Tryd.pinned (.plain (OpenSpec.upto fnExactMarkDaysSpec)) fnExactMarkDaysUptoCard

/-- THE SECOND FORM's CARD OF 'laws.FnExactReadMarks'. -/
def fnExactReadMarksUptoCard : Claim7 := { stood := { row := fnExactReadMarksUptoRow, standIns := [], harness := (true, "61975d8284e68fc71bc48f5672277451e31390918da75aae47be50643cd56c75"), looks := true }, kinds := [], alts := [], laidByText := true, laidKinds := [.data, .data, .data, .data, .sentinel, .sentinel, .pinned], laidTests := true, laidLooks := .later }
def FnExactReadMarksUptoCardSaid : Prop := Claim7.holds Tryd.pinned (.plain (OpenSpec.upto fnExactReadMarksSpec)) fnExactReadMarksUptoCard
end Rows
end Go.Proofs.YtfmnkojjkjkdeaaDoor
