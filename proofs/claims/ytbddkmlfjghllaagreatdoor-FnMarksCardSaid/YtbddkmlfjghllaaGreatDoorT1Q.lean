/- Contracts: the reference's l18Upper. -/
import Derived.Test.YtbddkmlfjghllaaGreatDoorT1G
import Derived.Test.YtbddkmlfjghllaaGreatDoorT1Up
import Derived.StillTailTactics
namespace Go.Proofs.YtbddkmlfjghllaaGreatDoor
set_option linter.unusedVariables false
set_option linter.unusedSimpArgs false
open Go.RowKit
attribute [local go_sem] cell_onto

/-- what gives the greatest differences: a list in new memory and whether there are any -/
def UpPost (ls : List Lk) (x : List Int) (w : World) (e : Ending) (w' : World) : Prop :=
  ∃ v, e = .returned (.tuple #[v, .bool (B (UpOk ls x))]) ∧ Ext w w' ∧ (UpOk ls x → Ints w' 0 w'.heap.size v (upV ls x))

theorem Own.setInt {w : World} {g off N c : Nat} {x : List Int} (h : Own w g 1 (.slice (some ⟨g, off, none⟩) N c) N (intCell x)) {v : Nat} (hv : v < N) (hx : x.length = N) (a : Int) :
    Own (w.setCell ⟨g, off + v, none⟩ (.int .i64 a)) g 1 (.slice (some ⟨g, off, none⟩) N c) N (intCell (x.set v a)) := by
  refine (h.set v (.int .i64 a) (by omega)).congr (fun i hi => ?_)
  unfold intCell
  rw [inAt_set]
  by_cases e : i = v
  · rw [if_pos e, if_pos ⟨e, by omega⟩]
  · rw [if_neg e, if_neg (fun h => e h.1)]

theorem Own.cells {w : World} {g off N c : Nat} {f : Nat → Value} (h : Own w g 1 (.slice (some ⟨g, off, none⟩) N c) N f) (hn : 0 < N) :
    g < w.heap.size ∧ ∀ i, i < N → w.cell? ⟨g, off + i, none⟩ = some (f i) ∧ w.frozen? ⟨g, off + i, none⟩ = false := by
  obtain ⟨o2, e0, hgw, hc⟩ := h.at_ hn
  simp only [Option.some.injEq, Addr.mk.injEq, true_and, and_true] at e0
  subst e0
  exact ⟨hgw, fun i hi => hc i (by omega)⟩

end Go.Proofs.YtbddkmlfjghllaaGreatDoor
