/- Texts merged (a claim holds at most sixty files): Up, Bo, Ch. -/
import Derived.Test.YtmmokjnljaifcaaGreatDoorE1Lib
import Derived.Test.YtmmokjnljaifcaaGreatDoorE1Bf
/- Greatest differences of variables to one of them: what rounds over the links leave, and when they end. Plain Lean. -/
namespace Go.Proofs.YtmmokjnljaifcaaGreatDoor
set_option linter.unusedVariables false
set_option linter.unusedSimpArgs false

end Go.Proofs.YtmmokjnljaifcaaGreatDoor

/- The least and the greatest days within a choice of spans: what rounds over the links leave, and when they end. Plain Lean. -/
namespace Go.Proofs.YtmmokjnljaifcaaGreatDoor
set_option linter.unusedVariables false
set_option linter.unusedSimpArgs false

/-! ### rows of rounds from any start -/
/-! ### links read backwards, and lists with their signs turned -/
/-! ### raising -/
/-! ### choices -/
/-! ### the rounds of a choice: ls for the low days, hs (the same links, or read backwards) for the high ones -/
section
variable {ls hs : List Lk} {ch : List Sp}
end
/-! ### bounds for the machine's numbers, and the mark 'changed' -/
end Go.Proofs.YtmmokjnljaifcaaGreatDoor

/- Choices of a network: in the program's order and by their numbers. Plain Lean. -/
namespace Go.Proofs.YtmmokjnljaifcaaGreatDoor
set_option linter.unusedVariables false
set_option linter.unusedSimpArgs false

theorem spAt_mem {l : List Sp} {i : Nat} (h : i < l.length) : spAt l i ∈ l := by
  unfold spAt
  rw [List.getD_eq_getElem?_getD, List.getElem?_eq_getElem h]
  exact List.getElem_mem h
theorem mem_spAt {l : List Sp} {x : Sp} (h : x ∈ l) : ∃ i, i < l.length ∧ spAt l i = x := by
  obtain ⟨i, hi, e⟩ := List.getElem_of_mem h
  refine ⟨i, hi, ?_⟩
  unfold spAt
  rw [List.getD_eq_getElem?_getD, List.getElem?_eq_getElem hi]
  exact e
/-! ### by numbers -/
/-! ### in the program's order -/
end Go.Proofs.YtmmokjnljaifcaaGreatDoor
