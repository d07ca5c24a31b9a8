/- Texts merged (a claim holds at most sixty files): G, H, I, J, K, M, P. -/
import Derived.Test.YtmmokjnljaifcaaGreatDoorE1A
import Derived.Test.YtmmokjnljaifcaaGreatDoorE1Lib
/- Contracts: counts of statements, of days, of choices. -/
namespace Go.Proofs.YtmmokjnljaifcaaGreatDoor
set_option linter.unusedVariables false
set_option linter.unusedSimpArgs false
open Go.RowKit
attribute [local go_sem] cell_onto


end Go.Proofs.YtmmokjnljaifcaaGreatDoor

/- Contracts: lost days, choices. -/
namespace Go.Proofs.YtmmokjnljaifcaaGreatDoor
set_option linter.unusedVariables false
set_option linter.unusedSimpArgs false
open Go.RowKit
attribute [local go_sem] cell_onto

end Go.Proofs.YtmmokjnljaifcaaGreatDoor

/- Contracts: the number of choices; days in sets; days for a network. -/
namespace Go.Proofs.YtmmokjnljaifcaaGreatDoor
set_option linter.unusedVariables false
set_option linter.unusedSimpArgs false
open Go.RowKit
attribute [local go_sem] cell_onto

end Go.Proofs.YtmmokjnljaifcaaGreatDoor

/- Contracts: days in sets; days for a network; links that are broken; DoSolve. -/
namespace Go.Proofs.YtmmokjnljaifcaaGreatDoor
set_option linter.unusedVariables false
set_option linter.unusedSimpArgs false
open Go.RowKit
attribute [local go_sem] cell_onto

end Go.Proofs.YtmmokjnljaifcaaGreatDoor

/- Contracts: links that are broken; DoSolve; EmptyVariables. -/
namespace Go.Proofs.YtmmokjnljaifcaaGreatDoor
set_option linter.unusedVariables false
set_option linter.unusedSimpArgs false
open Go.RowKit
attribute [local go_sem] cell_onto

end Go.Proofs.YtmmokjnljaifcaaGreatDoor

/- Contracts: the program's DoSolve; EmptyVariables. -/
namespace Go.Proofs.YtmmokjnljaifcaaGreatDoor
set_option linter.unusedVariables false
set_option linter.unusedSimpArgs false
open Go.RowKit
attribute [local go_sem] cell_onto

theorem NewRow.nil (sz : Nat) (f : Nat → Value) (w : World) : NewRow sz 0 f w (.returned (.slice none 0 0)) w :=
  ⟨_, 0, rfl, Ext.refl _, fun h => absurd h (by omega), Nat.zero_le _, none, 0, rfl, Nat.le_refl _, fun h => absurd h (by omega)⟩


/-- what a function returns that gives a list in new memory, and a code -/
def NewInts2 (l : List Int) (e0 : Int) (w : World) (e : Ending) (w' : World) : Prop :=
  ∃ v g, e = .returned (.tuple #[v, .int .i64 e0]) ∧ Ext w w' ∧ (0 < l.length → w.heap.size ≤ g) ∧ Own w' g 1 v l.length (intCell l)
theorem NewInts2.nil (e0 : Int) {w w' : World} (h : Ext w w') : NewInts2 [] e0 w (.returned (.tuple #[.slice none 0 0, .int .i64 e0])) w' :=
  ⟨_, 0, rfl, h, fun h => absurd h (by simp), Nat.zero_le _, none, 0, rfl, Nat.le_refl _, fun h => absurd h (by simp)⟩
end Go.Proofs.YtmmokjnljaifcaaGreatDoor

/- Contracts: the program's and the reference's BrokenLinks. -/
namespace Go.Proofs.YtmmokjnljaifcaaGreatDoor
set_option linter.unusedVariables false
set_option linter.unusedSimpArgs false
open Go.RowKit
attribute [local go_sem] cell_onto

end Go.Proofs.YtmmokjnljaifcaaGreatDoor
