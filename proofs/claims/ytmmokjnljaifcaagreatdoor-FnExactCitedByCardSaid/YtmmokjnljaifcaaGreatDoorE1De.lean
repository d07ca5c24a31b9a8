/- Contracts: a list without one of its elements: slices.Delete, lessOne, l21Drop. -/
import Derived.Test.YtmmokjnljaifcaaGreatDoorE1T
import Derived.Test.YtmmokjnljaifcaaGreatDoorE1Bd
import Derived.Deep.RegionHeld3
import Derived.Laws.IdiomCopy
import Derived.Lib.SliceRun
namespace Go.Proofs.YtmmokjnljaifcaaGreatDoor
set_option linter.unusedVariables false
set_option linter.unusedSimpArgs false
open Go.RowKit
attribute [local go_sem] cell_onto

theorem Off.setCells {S : Nat → Prop} {a : World} {g : Nat} (hg : S g) : ∀ (vs : List Value) (o : Nat) (w : World), Off S a w → Off S a (w.setCells g o vs)
  | [], _, _, h => h
  | v :: r, o, w, h => Off.setCells hg r (o + 1) _ (h.setCell (p := ⟨g, o, none⟩) (.inl hg) v)
end Go.Proofs.YtmmokjnljaifcaaGreatDoor
