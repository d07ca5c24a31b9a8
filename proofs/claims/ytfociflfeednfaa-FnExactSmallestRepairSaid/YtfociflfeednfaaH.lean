/- Contracts: lost days, choices. -/
import Derived.Test.YtfociflfeednfaaG
namespace Go.Proofs.Ytfociflfeednfaa
set_option linter.unusedVariables false
set_option linter.unusedSimpArgs false
open Go.RowKit
attribute [local go_sem] cell_onto

end Go.Proofs.Ytfociflfeednfaa
