/- Contracts: numbers written out. -/
import Derived.Test.YtmmokjnljaifcaaGreatDoorD1A
import Derived.Test.YtmmokjnljaifcaaGreatDoorD1H
import Derived.Lib.ItoaNum
import Derived.Laws.IdiomStrings
import Derived.Laws.BytesString
import Derived.Deep.RegionHeld3
import Derived.Deep.RegionLaw
import Derived.IntWalk
namespace Go.Proofs.YtmmokjnljaifcaaGreatDoor
set_option linter.unusedVariables false
set_option linter.unusedSimpArgs false
open Go.RowKit
attribute [local go_sem] cell_onto

end Go.Proofs.YtmmokjnljaifcaaGreatDoor
