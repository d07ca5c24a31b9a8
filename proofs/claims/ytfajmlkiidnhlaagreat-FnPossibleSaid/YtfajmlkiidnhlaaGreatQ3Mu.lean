/- Contracts: met, l02Meet: the days that are in both of two sets. -/
import Derived.Test.YtfajmlkiidnhlaaGreatQ3Mk
namespace Go.Proofs.YtfajmlkiidnhlaaGreat
set_option linter.unusedVariables false
set_option linter.unusedSimpArgs false
open Go.RowKit
attribute [local go_sem] cell_onto

end Go.Proofs.YtfajmlkiidnhlaaGreat
