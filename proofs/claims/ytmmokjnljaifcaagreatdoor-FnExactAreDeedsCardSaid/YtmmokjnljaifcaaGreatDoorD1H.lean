/- Texts merged (a claim holds at most sixty files): H, I, J, K, M, O, P. -/
import Derived.Test.YtmmokjnljaifcaaGreatDoorD1A
/- Contracts: lost days, choices. -/
namespace Go.Proofs.YtmmokjnljaifcaaGreatDoor
set_option linter.unusedVariables false
set_option linter.unusedSimpArgs false
open Go.RowKit
attribute [local go_sem] cell_onto

end Go.Proofs.YtmmokjnljaifcaaGreatDoor

/- Contracts: the number of choices; days in sets; days for a network. -/
namespace Go.Proofs.YtmmokjnljaifcaaGreatDoor
set_option linter.unusedVariables false
set_option linter.unusedSimpArgs false
open Go.RowKit
attribute [local go_sem] cell_onto

end Go.Proofs.YtmmokjnljaifcaaGreatDoor

/- Contracts: days in sets; days for a network; links that are broken; DoSolve. -/
namespace Go.Proofs.YtmmokjnljaifcaaGreatDoor
set_option linter.unusedVariables false
set_option linter.unusedSimpArgs false
open Go.RowKit
attribute [local go_sem] cell_onto

end Go.Proofs.YtmmokjnljaifcaaGreatDoor

/- Contracts: links that are broken; DoSolve; EmptyVariables. -/
namespace Go.Proofs.YtmmokjnljaifcaaGreatDoor
set_option linter.unusedVariables false
set_option linter.unusedSimpArgs false
open Go.RowKit
attribute [local go_sem] cell_onto

end Go.Proofs.YtmmokjnljaifcaaGreatDoor

/- Contracts: the program's DoSolve; EmptyVariables. -/
namespace Go.Proofs.YtmmokjnljaifcaaGreatDoor
set_option linter.unusedVariables false
set_option linter.unusedSimpArgs false
open Go.RowKit
attribute [local go_sem] cell_onto

theorem NewRow.nil (sz : Nat) (f : Nat → Value) (w : World) : NewRow sz 0 f w (.returned (.slice none 0 0)) w :=
  ⟨_, 0, rfl, Ext.refl _, fun h => absurd h (by omega), Nat.zero_le _, none, 0, rfl, Nat.le_refl _, fun h => absurd h (by omega)⟩


end Go.Proofs.YtmmokjnljaifcaaGreatDoor

/- The laws' own mark.. and held.. of slices of slices of spans, and of networks. -/
namespace Go.Proofs.YtmmokjnljaifcaaGreatDoor
set_option linter.unusedVariables false
set_option linter.unusedSimpArgs false
open Go.RowKit
attribute [local go_sem] cell_onto

section
variable {w w' : World} {lo hi lo' hi' : Nat} {v : Value} {k : Int}
end

/-! ### mark.. and held.. of rows in memory of their own, said alike -/
end Go.Proofs.YtmmokjnljaifcaaGreatDoor

/- Contracts: the program's and the reference's BrokenLinks. -/
namespace Go.Proofs.YtmmokjnljaifcaaGreatDoor
set_option linter.unusedVariables false
set_option linter.unusedSimpArgs false
open Go.RowKit
attribute [local go_sem] cell_onto

end Go.Proofs.YtmmokjnljaifcaaGreatDoor
