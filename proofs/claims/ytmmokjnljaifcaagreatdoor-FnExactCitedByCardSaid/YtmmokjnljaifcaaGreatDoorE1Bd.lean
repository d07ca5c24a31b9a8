/- Contracts: the reference's l20Bounds. -/
import Derived.Test.YtmmokjnljaifcaaGreatDoorE1Up
import Derived.Test.YtmmokjnljaifcaaGreatDoorE1Q
import Derived.Test.YtmmokjnljaifcaaGreatDoorE1S
import Derived.Deep.DeepCutAuto
namespace Go.Proofs.YtmmokjnljaifcaaGreatDoor
set_option linter.unusedVariables false
set_option linter.unusedSimpArgs false
open Go.RowKit
attribute [local go_sem] cell_onto

theorem intCells_push (l : List Int) (x : Int) : cellsOf (l.length * 1) (intCell l) ++ cellsOf (1 * 1) (intCell [x]) = cellsOf ((l ++ [x]).length * 1) (intCell (l ++ [x])) := by
  rw [cellsOf_append, List.length_append]
  have e : l.length * 1 + 1 * 1 = (l.length + [x].length) * 1 := by simp
  rw [e]
  refine cellsOf_congr (fun i hi => ?_)
  show (if i < l.length * 1 then intCell l i else intCell [x] (i - l.length * 1)) = intCell (l ++ [x]) i
  have hl : [x].length = 1 := rfl
  rw [hl] at hi
  unfold intCell inAt
  by_cases h : i < l.length * 1
  · rw [if_pos h, List.getD_eq_getElem?_getD, List.getD_eq_getElem?_getD, List.getElem?_append_left (by omega)]
  · rw [if_neg h, List.getD_eq_getElem?_getD, List.getD_eq_getElem?_getD, List.getElem?_append_right (by omega)]
    have : i = l.length := by omega
    subst this
    simp
theorem Dst.off' {S : Nat → Prop} {w w' : World} {b : Nat} {e : TypeId} {sz n : Nat} {v : Value} {xs : List Value} (h : Dst w b e sz v n xs) (hx : Off S w w') (hs : ∀ g, b ≤ g → v.ownBlock = some g → ¬ S g) : Dst w' b e sz v n xs := by
  rcases h with h | ⟨h1, h2, h3, h4⟩
  · exact .inl (ownsRow_off h hx (fun g hg => hs g (h.lt g hg).1 hg))
  · exact .inr ⟨h1, h2, h3, fun g hg => Nat.lt_of_lt_of_le (h4 g hg) hx.size⟩
theorem int_cells (x : Int) : ∀ i, i < 1 → [Value.int .i64 x][i]? = some (intCell [x] i)
  | 0, _ => rfl
  | i + 1, h => absurd h (by omega)
end Go.Proofs.YtmmokjnljaifcaaGreatDoor
