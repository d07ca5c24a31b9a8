/- Contracts: lost days, choices. -/
import Derived.Test.YtfmnkojjkjkdeaaDoorG
namespace Go.Proofs.YtfmnkojjkjkdeaaDoor
set_option linter.unusedVariables false
set_option linter.unusedSimpArgs false
open Go.RowKit
attribute [local go_sem] cell_onto

end Go.Proofs.YtfmnkojjkjkdeaaDoor
