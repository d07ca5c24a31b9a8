/- Contracts: the reference's l18Upper. -/
import Derived.Test.YtmmokjnljaifcaaGreatDoorE1G
import Derived.Test.YtmmokjnljaifcaaGreatDoorE1Up
import Derived.StillTailTactics
namespace Go.Proofs.YtmmokjnljaifcaaGreatDoor
set_option linter.unusedVariables false
set_option linter.unusedSimpArgs false
open Go.RowKit
attribute [local go_sem] cell_onto

theorem Own.cells {w : World} {g off N c : Nat} {f : Nat → Value} (h : Own w g 1 (.slice (some ⟨g, off, none⟩) N c) N f) (hn : 0 < N) :
    g < w.heap.size ∧ ∀ i, i < N → w.cell? ⟨g, off + i, none⟩ = some (f i) ∧ w.frozen? ⟨g, off + i, none⟩ = false := by
  obtain ⟨o2, e0, hgw, hc⟩ := h.at_ hn
  simp only [Option.some.injEq, Addr.mk.injEq, true_and, and_true] at e0
  subst e0
  exact ⟨hgw, fun i hi => hc i (by omega)⟩

end Go.Proofs.YtmmokjnljaifcaaGreatDoor
