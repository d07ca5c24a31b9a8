/-
  DERIVED. GIVEN WITH THE SEED: THE CARDS: each row of YtechbeegbhlppaaGreatDoorRows.lean that lists a variable, with what it lists TIED to the program's text (the seventh form; the later family's looks); each row that meets fmt, with fmt's text TOLD by the authors' own Lean function (tested against real Go, not proved from fmt's source: count such statements apart). THE CARD IS WHAT COUNTS. Prove the row's statement (the work); the ties are given (YtechbeegbhlppaaGreatDoorTie.lean); close each card by the builder's one call (the guide's Derived/Test/ToyasCard.lean, 'card_holds'). Laid BY PROGRAM, IN A SANDBOX (cutbox-door.mjs). By AI agents, Wed Nov 11 2026. No macro, syntax, notation, axiom, sorry.
-/
import Derived.Test.YtechbeegbhlppaaGreatDoorRows
import GoSem.ClaimSeven
namespace Go.Proofs.YtechbeegbhlppaaGreatDoor
namespace Rows

/-- THE TIED CARD OF 'laws.FnExactSourceDays'. -/
def fnExactSourceDaysCard : Claim7 := { stood := { row := fnExactSourceDaysRow, standIns := [], harness := (true, "b1e4b77c33ec17da2df419b46c67f47acce54fa4fc6b1b116e782d080afd3e0e"), looks := false }, kinds := [], alts := [], laidByText := true, laidKinds := [.data, .pinned], laidTests := true, laidLooks := .later }
def FnExactSourceDaysCardSaid : Prop := Claim7.holds Tryz.pinned (.plain (OpenSpec.ofChange fnExactSourceDaysSpec)) fnExactSourceDaysCard

/-- THE TIED CARD OF 'laws.FnExactSourcesAgainst'. -/
def fnExactSourcesAgainstCard : Claim7 := { stood := { row := fnExactSourcesAgainstRow, standIns := [], harness := (true, "b1e4b77c33ec17da2df419b46c67f47acce54fa4fc6b1b116e782d080afd3e0e"), looks := false }, kinds := [], alts := [], laidByText := true, laidKinds := [.data, .pinned], laidTests := true, laidLooks := .later }
def FnExactSourcesAgainstCardSaid : Prop := Claim7.holds Tryz.pinned (.plain (OpenSpec.ofChange fnExactSourcesAgainstSpec)) fnExactSourcesAgainstCard

/-- THE TIED CARD OF 'laws.FnExactOwnDays'. -/
def fnExactOwnDaysCard : Claim7 := { stood := { row := fnExactOwnDaysRow, standIns := [], harness := (true, "b1e4b77c33ec17da2df419b46c67f47acce54fa4fc6b1b116e782d080afd3e0e"), looks := false }, kinds := [], alts := [], laidByText := true, laidKinds := [.data, .pinned], laidTests := true, laidLooks := .later }
def FnExactOwnDaysCardSaid : Prop := Claim7.holds Tryz.pinned (.plain (OpenSpec.ofChange fnExactOwnDaysSpec)) fnExactOwnDaysCard

/-- THE TIED CARD OF 'laws.FnExactUselessSources'. -/
def fnExactUselessSourcesCard : Claim7 := { stood := { row := fnExactUselessSourcesRow, standIns := [], harness := (true, "b1e4b77c33ec17da2df419b46c67f47acce54fa4fc6b1b116e782d080afd3e0e"), looks := false }, kinds := [], alts := [], laidByText := true, laidKinds := [.data, .pinned], laidTests := true, laidLooks := .later }
def FnExactUselessSourcesCardSaid : Prop := Claim7.holds Tryz.pinned (.plain (OpenSpec.ofChange fnExactUselessSourcesSpec)) fnExactUselessSourcesCard

/-- THE TIED CARD OF 'laws.FnExactNetworkOf'. -/
def fnExactNetworkOfCard : Claim7 := { stood := { row := fnExactNetworkOfRow, standIns := [], harness := (true, "b1e4b77c33ec17da2df419b46c67f47acce54fa4fc6b1b116e782d080afd3e0e"), looks := false }, kinds := [], alts := [], laidByText := true, laidKinds := [.data, .pinned], laidTests := true, laidLooks := .later }
def FnExactNetworkOfCardSaid : Prop := Claim7.holds Tryz.pinned (.plain (OpenSpec.ofChange fnExactNetworkOfSpec)) fnExactNetworkOfCard

/-- THE SECOND FORM's CARD OF 'laws.FnExactSourceDays'. -/
def fnExactSourceDaysUptoCard : Claim7 := { stood := { row := fnExactSourceDaysUptoRow, standIns := [], harness := (true, "b1e4b77c33ec17da2df419b46c67f47acce54fa4fc6b1b116e782d080afd3e0e"), looks := false }, kinds := [], alts := [], laidByText := true, laidKinds := [.data, .pinned], laidTests := true, laidLooks := .later }
def FnExactSourceDaysUptoCardSaid : Prop := Claim7.holds Tryz.pinned (.plain (OpenSpec.upto fnExactSourceDaysSpec)) fnExactSourceDaysUptoCard

/-- THE SECOND FORM's CARD OF 'laws.FnExactSourcesAgainst'. -/
def fnExactSourcesAgainstUptoCard : Claim7 := { stood := { row := fnExactSourcesAgainstUptoRow, standIns := [], harness := (true, "b1e4b77c33ec17da2df419b46c67f47acce54fa4fc6b1b116e782d080afd3e0e"), looks := false }, kinds := [], alts := [], laidByText := true, laidKinds := [.data, .pinned], laidTests := true, laidLooks := .later }
def FnExactSourcesAgainstUptoCardSaid : Prop := Claim7.holds Tryz.pinned (.plain (OpenSpec.upto fnExactSourcesAgainstSpec)) fnExactSourcesAgainstUptoCard

/-- THE SECOND FORM's CARD OF 'laws.FnExactOwnDays'. -/
def fnExactOwnDaysUptoCard : Claim7 := { stood := { row := fnExactOwnDaysUptoRow, standIns := [], harness := (true, "b1e4b77c33ec17da2df419b46c67f47acce54fa4fc6b1b116e782d080afd3e0e"), looks := false }, kinds := [], alts := [], laidByText := true, laidKinds := [.data, .pinned], laidTests := true, laidLooks := .later }
def FnExactOwnDaysUptoCardSaid : Prop := Claim7.holds Tryz.pinned (.plain (OpenSpec.upto fnExactOwnDaysSpec)) fnExactOwnDaysUptoCard

/-- THE SECOND FORM's CARD OF 'laws.FnExactUselessSources'. -/
def fnExactUselessSourcesUptoCard : Claim7 := { stood := { row := fnExactUselessSourcesUptoRow, standIns := [], harness := (true, "b1e4b77c33ec17da2df419b46c67f47acce54fa4fc6b1b116e782d080afd3e0e"), looks := false }, kinds := [], alts := [], laidByText := true, laidKinds := [.data, .pinned], laidTests := true, laidLooks := .later }
def FnExactUselessSourcesUptoCardSaid : Prop := Claim7.holds Tryz.pinned (.plain (OpenSpec.upto fnExactUselessSourcesSpec)) fnExactUselessSourcesUptoCard

/-- THE SECOND FORM's CARD OF 'laws.FnExactNetworkOf'. -/
def fnExactNetworkOfUptoCard : Claim7 := { stood := { row := fnExactNetworkOfUptoRow, standIns := [], harness := (true, "b1e4b77c33ec17da2df419b46c67f47acce54fa4fc6b1b116e782d080afd3e0e"), looks := false }, kinds := [], alts := [], laidByText := true, laidKinds := [.data, .pinned], laidTests := true, laidLooks := .later }
def FnExactNetworkOfUptoCardSaid : Prop := Claim7.holds Tryz.pinned (.plain (OpenSpec.upto fnExactNetworkOfSpec)) fnExactNetworkOfUptoCard
end Rows
end Go.Proofs.YtechbeegbhlppaaGreatDoor
