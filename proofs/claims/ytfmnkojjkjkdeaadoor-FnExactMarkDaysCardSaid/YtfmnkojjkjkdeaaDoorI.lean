/- Contracts: the number of choices; days in sets; days for a network. -/
import Derived.Test.YtfmnkojjkjkdeaaDoorH
namespace Go.Proofs.YtfmnkojjkjkdeaaDoor
set_option linter.unusedVariables false
set_option linter.unusedSimpArgs false
open Go.RowKit
attribute [local go_sem] cell_onto

def SetsFit (l : List (List Sp)) : Prop := ∀ i, i < l.length → (setAt l i).length ≤ 300
theorem SetsFit.of {n : Net} (h : NetOk n) : SetsFit n.sets := fun i hi => (h.2.2.1 i hi).1
theorem prod_fit {m : Int} (hm0 : 0 ≤ m) (hm : m ≤ 4096) {l : List (List Sp)} (hf : SetsFit l) {j : Nat} (hj : j < l.length) (h : ∀ i, i < j → (setAt l i).length ≠ 0) :
    0 ≤ prodTo m l j * ((setAt l j).length : Int) ∧ prodTo m l j * ((setAt l j).length : Int) ≤ 1229100 ∧ 1 ≤ prodTo m l j ∧ prodTo m l j ≤ 4097 := by
  have h1 := prodTo_bd hm0 j h
  have h2 : ((setAt l j).length : Int) ≤ 300 := by have := hf j hj; omega
  refine ⟨Int.mul_nonneg (by omega) (by omega), ?_, by omega, by omega⟩
  have := Int.mul_le_mul (a := prodTo m l j) (b := ((setAt l j).length : Int)) (c := 4097) (d := 300) (by omega) h2 (by omega) (by omega)
  omega

end Go.Proofs.YtfmnkojjkjkdeaaDoor
