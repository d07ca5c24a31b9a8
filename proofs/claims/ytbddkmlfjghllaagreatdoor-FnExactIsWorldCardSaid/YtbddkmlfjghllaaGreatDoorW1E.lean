/- Texts merged (a claim holds at most sixty files): E, F, N, G. -/
import Derived.Test.YtbddkmlfjghllaaGreatDoorW1A
import Derived.Test.YtbddkmlfjghllaaGreatDoorW1Lib
/- The laws' own helpers for spans, links, numbers, networks: sz.. (a bound on the sizes), to.. (a copy in new memory), eq.. (equal data compare equal). -/
namespace Go.Proofs.YtbddkmlfjghllaaGreatDoor
set_option linter.unusedVariables false
set_option linter.unusedSimpArgs false
open Go.RowKit
attribute [local go_sem] cell_onto

/-- what sz.. returns: what is left; if anything is, P -/
def SzPost (left : Int) (p : Prop) (w : World) (e : Ending) (w' : World) : Prop := ∃ r : Int, e = .returned (.int .i64 r) ∧ Ext w w' ∧ -1 ≤ r ∧ r ≤ left ∧ (0 ≤ r → p)
/-- what to.. returns: a row in a new block -/
def NewRow (sz n : Nat) (f : Nat → Value) (w : World) (e : Ending) (w' : World) : Prop := ∃ v g, e = .returned v ∧ Ext w w' ∧ (0 < n → w.heap.size ≤ g) ∧ Own w' g sz v n f




/-- a network that the law's guard lets through -/
def Small (n : Net) : Prop := n.sets.length ≤ 1048576 ∧ n.links.length ≤ 1048576 ∧ ∀ i, i < n.sets.length → (setAt n.sets i).length ≤ 1048576


end Go.Proofs.YtbddkmlfjghllaaGreatDoor

/- The laws' own copies of slices (to..S) and comparisons (eq..). -/
namespace Go.Proofs.YtbddkmlfjghllaaGreatDoor
set_option linter.unusedVariables false
set_option linter.unusedSimpArgs false
open Go.RowKit
attribute [local go_sem] cell_onto




def NewSets (l : List (List Sp)) (w : World) (e : Ending) (w' : World) : Prop := ∃ v, e = .returned v ∧ Ext w w' ∧ OwnSets w' w.heap.size w'.heap.size v l
def NewNet (n : Net) (w : World) (e : Ending) (w' : World) : Prop := ∃ s k, e = .returned (.agg #[s, k]) ∧ Ext w w' ∧ OwnNet w' w.heap.size w'.heap.size (.agg #[s, k]) n







end Go.Proofs.YtbddkmlfjghllaaGreatDoor

/- The laws' own mark.. (writes consecutive numbers into all cells of a datum) and held.. (finds them there). -/
namespace Go.Proofs.YtbddkmlfjghllaaGreatDoor
set_option linter.unusedVariables false
set_option linter.unusedSimpArgs false
open Go.RowKit
attribute [local go_sem] cell_onto

def numCell (k : Int) (i : Nat) : Value := .int .i64 (k + i)
/-- what mark.. leaves of a row: its cells hold consecutive numbers; no other block has turned -/
def MarkPost (b sz : Nat) (v : Value) (n : Nat) (k : Int) (w : World) (e : Ending) (w' : World) : Prop := e = .returned (.int .i64 (k + n * sz)) ∧ Off (fun x => 0 < n ∧ x = b) w w' ∧ Own w' b sz v n (numCell k)






end Go.Proofs.YtbddkmlfjghllaaGreatDoor

/- Contracts: counts of statements, of days, of choices. -/
namespace Go.Proofs.YtbddkmlfjghllaaGreatDoor
set_option linter.unusedVariables false
set_option linter.unusedSimpArgs false
open Go.RowKit
attribute [local go_sem] cell_onto


end Go.Proofs.YtbddkmlfjghllaaGreatDoor
