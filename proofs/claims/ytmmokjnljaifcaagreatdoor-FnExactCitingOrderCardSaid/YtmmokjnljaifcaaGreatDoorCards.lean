/-
  DERIVED. GIVEN WITH THE SEED: THE CARDS: each row of YtmmokjnljaifcaaGreatDoorRows.lean that lists a variable, with what it lists TIED to the program's text (the seventh form; the later family's looks); each row that meets fmt, with fmt's text TOLD by the authors' own Lean function (tested against real Go, not proved from fmt's source: count such statements apart). THE CARD IS WHAT COUNTS. Prove the row's statement (the work); the ties are given (YtmmokjnljaifcaaGreatDoorTie.lean); close each card by the builder's one call (the guide's Derived/Test/ToyasCard.lean, 'card_holds'). Laid BY PROGRAM, IN A SANDBOX (cutbox-door.mjs). By AI agents, Wed Nov 11 2026. No macro, syntax, notation, axiom, sorry.
-/
import Derived.Test.YtmmokjnljaifcaaGreatDoorRows
import GoSem.ClaimSeven
namespace Go.Proofs.YtmmokjnljaifcaaGreatDoor
namespace Rows

/-- THE TIED CARD OF 'laws.FnCitations'. -/
def fnCitationsCard : Claim7 := { stood := { row := fnCitationsRow, standIns := [], harness := (true, "07d0b59f11828b8bfee567008b6ba35deb6ebefea750dbded031f3994ee96061"), looks := false }, kinds := [], alts := [], laidByText := true, laidKinds := [.data, .pinned], laidTests := true, laidLooks := .later }
def FnCitationsCardSaid : Prop := Claim7.holds Tryz.pinned (.plain (OpenSpec.ofChange fnCitationsSpec)) fnCitationsCard

/-- THE TIED CARD OF 'laws.FnExactAreDeeds'. -/
def fnExactAreDeedsCard : Claim7 := { stood := { row := fnExactAreDeedsRow, standIns := [], harness := (true, "07d0b59f11828b8bfee567008b6ba35deb6ebefea750dbded031f3994ee96061"), looks := false }, kinds := [], alts := [], laidByText := true, laidKinds := [.data, .pinned], laidTests := true, laidLooks := .later }
def FnExactAreDeedsCardSaid : Prop := Claim7.holds Tryz.pinned (.plain (OpenSpec.ofChange fnExactAreDeedsSpec)) fnExactAreDeedsCard

/-- THE TIED CARD OF 'laws.FnExactCitedBy'. -/
def fnExactCitedByCard : Claim7 := { stood := { row := fnExactCitedByRow, standIns := [], harness := (true, "07d0b59f11828b8bfee567008b6ba35deb6ebefea750dbded031f3994ee96061"), looks := false }, kinds := [], alts := [], laidByText := true, laidKinds := [.data, .pinned], laidTests := true, laidLooks := .later }
def FnExactCitedByCardSaid : Prop := Claim7.holds Tryz.pinned (.plain (OpenSpec.ofChange fnExactCitedBySpec)) fnExactCitedByCard

/-- THE TIED CARD OF 'laws.FnExactCitingOrder'. -/
def fnExactCitingOrderCard : Claim7 := { stood := { row := fnExactCitingOrderRow, standIns := [], harness := (true, "07d0b59f11828b8bfee567008b6ba35deb6ebefea750dbded031f3994ee96061"), looks := false }, kinds := [], alts := [], laidByText := true, laidKinds := [.data, .pinned], laidTests := true, laidLooks := .later }
def FnExactCitingOrderCardSaid : Prop := Claim7.holds Tryz.pinned (.plain (OpenSpec.ofChange fnExactCitingOrderSpec)) fnExactCitingOrderCard

/-- THE TIED CARD OF 'laws.FnDeeds'. -/
def fnDeedsCard : Claim7 := { stood := { row := fnDeedsRow, standIns := [], harness := (true, "07d0b59f11828b8bfee567008b6ba35deb6ebefea750dbded031f3994ee96061"), looks := false }, kinds := [], alts := [], laidByText := true, laidKinds := [.data, .pinned], laidTests := true, laidLooks := .later }
def FnDeedsCardSaid : Prop := Claim7.holds Tryz.pinned (.plain (OpenSpec.ofChange fnDeedsSpec)) fnDeedsCard

/-- THE TIED CARD OF 'laws.FnDeedNetworks'. -/
def fnDeedNetworksCard : Claim7 := { stood := { row := fnDeedNetworksRow, standIns := [], harness := (true, "07d0b59f11828b8bfee567008b6ba35deb6ebefea750dbded031f3994ee96061"), looks := false }, kinds := [], alts := [], laidByText := true, laidKinds := [.data, .pinned], laidTests := true, laidLooks := .later }
def FnDeedNetworksCardSaid : Prop := Claim7.holds Tryz.pinned (.plain (OpenSpec.ofChange fnDeedNetworksSpec)) fnDeedNetworksCard

/-- THE TIED CARD OF 'laws.FnExactSourceDays'. -/
def fnExactSourceDaysCard : Claim7 := { stood := { row := fnExactSourceDaysRow, standIns := [], harness := (true, "07d0b59f11828b8bfee567008b6ba35deb6ebefea750dbded031f3994ee96061"), looks := false }, kinds := [], alts := [], laidByText := true, laidKinds := [.data, .pinned], laidTests := true, laidLooks := .later }
def FnExactSourceDaysCardSaid : Prop := Claim7.holds Tryz.pinned (.plain (OpenSpec.ofChange fnExactSourceDaysSpec)) fnExactSourceDaysCard

/-- THE TIED CARD OF 'laws.FnExactSourcesAgainst'. -/
def fnExactSourcesAgainstCard : Claim7 := { stood := { row := fnExactSourcesAgainstRow, standIns := [], harness := (true, "07d0b59f11828b8bfee567008b6ba35deb6ebefea750dbded031f3994ee96061"), looks := false }, kinds := [], alts := [], laidByText := true, laidKinds := [.data, .pinned], laidTests := true, laidLooks := .later }
def FnExactSourcesAgainstCardSaid : Prop := Claim7.holds Tryz.pinned (.plain (OpenSpec.ofChange fnExactSourcesAgainstSpec)) fnExactSourcesAgainstCard

/-- THE TIED CARD OF 'laws.FnExactOwnDays'. -/
def fnExactOwnDaysCard : Claim7 := { stood := { row := fnExactOwnDaysRow, standIns := [], harness := (true, "07d0b59f11828b8bfee567008b6ba35deb6ebefea750dbded031f3994ee96061"), looks := false }, kinds := [], alts := [], laidByText := true, laidKinds := [.data, .pinned], laidTests := true, laidLooks := .later }
def FnExactOwnDaysCardSaid : Prop := Claim7.holds Tryz.pinned (.plain (OpenSpec.ofChange fnExactOwnDaysSpec)) fnExactOwnDaysCard

/-- THE TIED CARD OF 'laws.FnExactUselessSources'. -/
def fnExactUselessSourcesCard : Claim7 := { stood := { row := fnExactUselessSourcesRow, standIns := [], harness := (true, "07d0b59f11828b8bfee567008b6ba35deb6ebefea750dbded031f3994ee96061"), looks := false }, kinds := [], alts := [], laidByText := true, laidKinds := [.data, .pinned], laidTests := true, laidLooks := .later }
def FnExactUselessSourcesCardSaid : Prop := Claim7.holds Tryz.pinned (.plain (OpenSpec.ofChange fnExactUselessSourcesSpec)) fnExactUselessSourcesCard

/-- THE TIED CARD OF 'laws.FnExactNetworkOf'. -/
def fnExactNetworkOfCard : Claim7 := { stood := { row := fnExactNetworkOfRow, standIns := [], harness := (true, "07d0b59f11828b8bfee567008b6ba35deb6ebefea750dbded031f3994ee96061"), looks := false }, kinds := [], alts := [], laidByText := true, laidKinds := [.data, .pinned], laidTests := true, laidLooks := .later }
def FnExactNetworkOfCardSaid : Prop := Claim7.holds Tryz.pinned (.plain (OpenSpec.ofChange fnExactNetworkOfSpec)) fnExactNetworkOfCard

/-- THE SECOND FORM's CARD OF 'laws.FnCitations'. -/
def fnCitationsUptoCard : Claim7 := { stood := { row := fnCitationsUptoRow, standIns := [], harness := (true, "07d0b59f11828b8bfee567008b6ba35deb6ebefea750dbded031f3994ee96061"), looks := false }, kinds := [], alts := [], laidByText := true, laidKinds := [.data, .pinned], laidTests := true, laidLooks := .later }
def FnCitationsUptoCardSaid : Prop := Claim7.holds Tryz.pinned (.plain (OpenSpec.upto fnCitationsSpec)) fnCitationsUptoCard

/-- THE SECOND FORM's CARD OF 'laws.FnExactAreDeeds'. -/
def fnExactAreDeedsUptoCard : Claim7 := { stood := { row := fnExactAreDeedsUptoRow, standIns := [], harness := (true, "07d0b59f11828b8bfee567008b6ba35deb6ebefea750dbded031f3994ee96061"), looks := false }, kinds := [], alts := [], laidByText := true, laidKinds := [.data, .pinned], laidTests := true, laidLooks := .later }
def FnExactAreDeedsUptoCardSaid : Prop := Claim7.holds Tryz.pinned (.plain (OpenSpec.upto fnExactAreDeedsSpec)) fnExactAreDeedsUptoCard

/-- THE SECOND FORM's CARD OF 'laws.FnExactCitedBy'. -/
def fnExactCitedByUptoCard : Claim7 := { stood := { row := fnExactCitedByUptoRow, standIns := [], harness := (true, "07d0b59f11828b8bfee567008b6ba35deb6ebefea750dbded031f3994ee96061"), looks := false }, kinds := [], alts := [], laidByText := true, laidKinds := [.data, .pinned], laidTests := true, laidLooks := .later }
def FnExactCitedByUptoCardSaid : Prop := Claim7.holds Tryz.pinned (.plain (OpenSpec.upto fnExactCitedBySpec)) fnExactCitedByUptoCard

/-- THE SECOND FORM's CARD OF 'laws.FnExactCitingOrder'. -/
def fnExactCitingOrderUptoCard : Claim7 := { stood := { row := fnExactCitingOrderUptoRow, standIns := [], harness := (true, "07d0b59f11828b8bfee567008b6ba35deb6ebefea750dbded031f3994ee96061"), looks := false }, kinds := [], alts := [], laidByText := true, laidKinds := [.data, .pinned], laidTests := true, laidLooks := .later }
def FnExactCitingOrderUptoCardSaid : Prop := Claim7.holds Tryz.pinned (.plain (OpenSpec.upto fnExactCitingOrderSpec)) fnExactCitingOrderUptoCard

/-- THE SECOND FORM's CARD OF 'laws.FnDeeds'. -/
def fnDeedsUptoCard : Claim7 := { stood := { row := fnDeedsUptoRow, standIns := [], harness := (true, "07d0b59f11828b8bfee567008b6ba35deb6ebefea750dbded031f3994ee96061"), looks := false }, kinds := [], alts := [], laidByText := true, laidKinds := [.data, .pinned], laidTests := true, laidLooks := .later }
def FnDeedsUptoCardSaid : Prop := Claim7.holds Tryz.pinned (.plain (OpenSpec.upto fnDeedsSpec)) fnDeedsUptoCard

/-- THE SECOND FORM's CARD OF 'laws.FnDeedNetworks'. -/
def fnDeedNetworksUptoCard : Claim7 := { stood := { row := fnDeedNetworksUptoRow, standIns := [], harness := (true, "07d0b59f11828b8bfee567008b6ba35deb6ebefea750dbded031f3994ee96061"), looks := false }, kinds := [], alts := [], laidByText := true, laidKinds := [.data, .pinned], laidTests := true, laidLooks := .later }
def FnDeedNetworksUptoCardSaid : Prop := Claim7.holds Tryz.pinned (.plain (OpenSpec.upto fnDeedNetworksSpec)) fnDeedNetworksUptoCard

/-- THE SECOND FORM's CARD OF 'laws.FnExactSourceDays'. -/
def fnExactSourceDaysUptoCard : Claim7 := { stood := { row := fnExactSourceDaysUptoRow, standIns := [], harness := (true, "07d0b59f11828b8bfee567008b6ba35deb6ebefea750dbded031f3994ee96061"), looks := false }, kinds := [], alts := [], laidByText := true, laidKinds := [.data, .pinned], laidTests := true, laidLooks := .later }
def FnExactSourceDaysUptoCardSaid : Prop := Claim7.holds Tryz.pinned (.plain (OpenSpec.upto fnExactSourceDaysSpec)) fnExactSourceDaysUptoCard

/-- THE SECOND FORM's CARD OF 'laws.FnExactSourcesAgainst'. -/
def fnExactSourcesAgainstUptoCard : Claim7 := { stood := { row := fnExactSourcesAgainstUptoRow, standIns := [], harness := (true, "07d0b59f11828b8bfee567008b6ba35deb6ebefea750dbded031f3994ee96061"), looks := false }, kinds := [], alts := [], laidByText := true, laidKinds := [.data, .pinned], laidTests := true, laidLooks := .later }
def FnExactSourcesAgainstUptoCardSaid : Prop := Claim7.holds Tryz.pinned (.plain (OpenSpec.upto fnExactSourcesAgainstSpec)) fnExactSourcesAgainstUptoCard

/-- THE SECOND FORM's CARD OF 'laws.FnExactOwnDays'. -/
def fnExactOwnDaysUptoCard : Claim7 := { stood := { row := fnExactOwnDaysUptoRow, standIns := [], harness := (true, "07d0b59f11828b8bfee567008b6ba35deb6ebefea750dbded031f3994ee96061"), looks := false }, kinds := [], alts := [], laidByText := true, laidKinds := [.data, .pinned], laidTests := true, laidLooks := .later }
def FnExactOwnDaysUptoCardSaid : Prop := Claim7.holds Tryz.pinned (.plain (OpenSpec.upto fnExactOwnDaysSpec)) fnExactOwnDaysUptoCard

/-- THE SECOND FORM's CARD OF 'laws.FnExactUselessSources'. -/
def fnExactUselessSourcesUptoCard : Claim7 := { stood := { row := fnExactUselessSourcesUptoRow, standIns := [], harness := (true, "07d0b59f11828b8bfee567008b6ba35deb6ebefea750dbded031f3994ee96061"), looks := false }, kinds := [], alts := [], laidByText := true, laidKinds := [.data, .pinned], laidTests := true, laidLooks := .later }
def FnExactUselessSourcesUptoCardSaid : Prop := Claim7.holds Tryz.pinned (.plain (OpenSpec.upto fnExactUselessSourcesSpec)) fnExactUselessSourcesUptoCard

/-- THE SECOND FORM's CARD OF 'laws.FnExactNetworkOf'. -/
def fnExactNetworkOfUptoCard : Claim7 := { stood := { row := fnExactNetworkOfUptoRow, standIns := [], harness := (true, "07d0b59f11828b8bfee567008b6ba35deb6ebefea750dbded031f3994ee96061"), looks := false }, kinds := [], alts := [], laidByText := true, laidKinds := [.data, .pinned], laidTests := true, laidLooks := .later }
def FnExactNetworkOfUptoCardSaid : Prop := Claim7.holds Tryz.pinned (.plain (OpenSpec.upto fnExactNetworkOfSpec)) fnExactNetworkOfUptoCard
end Rows
end Go.Proofs.YtmmokjnljaifcaaGreatDoor
