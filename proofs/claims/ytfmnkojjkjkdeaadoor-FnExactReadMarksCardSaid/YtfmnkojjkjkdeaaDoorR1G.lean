/- Texts merged (a claim holds at most sixty files): G, H, I, J. -/
import Derived.Test.YtfmnkojjkjkdeaaDoorR1E
import Derived.Test.YtfmnkojjkjkdeaaDoorR1Lib
/- Contracts: counts of statements, of days, of choices. -/
namespace Go.Proofs.YtfmnkojjkjkdeaaDoor
set_option linter.unusedVariables false
set_option linter.unusedSimpArgs false
open Go.RowKit
attribute [local go_sem] cell_onto

set_option maxHeartbeats 400000 in
theorem impl_statementsOf (s k : Value) (n : Net) (w : World) (h : NetIn w s k n) (hok : n.sets.length ≤ 1048576 ∧ n.links.length ≤ 1048576) :
    Calls Tryd.prog 35 #[.agg #[s, k]] w (RetX (.int .i64 ((n.sets.length : Int) + n.links.length)) w) := by
  obtain ⟨A, c, rfl, hn, hc⟩ := h.1.len
  obtain ⟨A', c', rfl, hn', hc'⟩ := h.2.len
  obtain ⟨h1, h2⟩ := hok
  clear h
  go_enter Tryd.func35, Tryd.ntmps35
  go_wp2_with fail
  go_ret
  exact ⟨rfl, (by repeat (first | exact Ext.refl _ | assumption | refine Ext.alloc ?_ _ | refine Ext.drew ?_ | refine Ext.drewN ?_ _ | refine Ext.setCell ?_ (by first | (simp; done) | (simp; omega) | omega) _ | refine Ext.trans ?_ (by assumption)))⟩
set_option maxHeartbeats 400000 in
theorem spec_l21Count (s k : Value) (n : Net) (w : World) (h : NetIn w s k n) (hok : n.sets.length ≤ 1048576 ∧ n.links.length ≤ 1048576) :
    Calls Tryd.prog 27 #[.agg #[s, k]] w (RetX (.int .i64 ((n.sets.length : Int) + n.links.length)) w) := by
  obtain ⟨A, c, rfl, hn, hc⟩ := h.1.len
  obtain ⟨A', c', rfl, hn', hc'⟩ := h.2.len
  obtain ⟨h1, h2⟩ := hok
  clear h
  go_enter Tryd.func27, Tryd.ntmps27
  go_wp2_with fail
  go_ret
  exact ⟨rfl, (by repeat (first | exact Ext.refl _ | assumption | refine Ext.alloc ?_ _ | refine Ext.drew ?_ | refine Ext.drewN ?_ _ | refine Ext.setCell ?_ (by first | (simp; done) | (simp; omega) | omega) _ | refine Ext.trans ?_ (by assumption)))⟩

end Go.Proofs.YtfmnkojjkjkdeaaDoor

/- Contracts: lost days, choices. -/
namespace Go.Proofs.YtfmnkojjkjkdeaaDoor
set_option linter.unusedVariables false
set_option linter.unusedSimpArgs false
open Go.RowKit
attribute [local go_sem] cell_onto

end Go.Proofs.YtfmnkojjkjkdeaaDoor

/- Contracts: the number of choices; days in sets; days for a network. -/
namespace Go.Proofs.YtfmnkojjkjkdeaaDoor
set_option linter.unusedVariables false
set_option linter.unusedSimpArgs false
open Go.RowKit
attribute [local go_sem] cell_onto

def SetsFit (l : List (List Sp)) : Prop := ∀ i, i < l.length → (setAt l i).length ≤ 300
theorem SetsFit.of {n : Net} (h : NetOk n) : SetsFit n.sets := fun i hi => (h.2.2.1 i hi).1
theorem prod_fit {m : Int} (hm0 : 0 ≤ m) (hm : m ≤ 4096) {l : List (List Sp)} (hf : SetsFit l) {j : Nat} (hj : j < l.length) (h : ∀ i, i < j → (setAt l i).length ≠ 0) :
    0 ≤ prodTo m l j * ((setAt l j).length : Int) ∧ prodTo m l j * ((setAt l j).length : Int) ≤ 1229100 ∧ 1 ≤ prodTo m l j ∧ prodTo m l j ≤ 4097 := by
  have h1 := prodTo_bd hm0 j h
  have h2 : ((setAt l j).length : Int) ≤ 300 := by have := hf j hj; omega
  refine ⟨Int.mul_nonneg (by omega) (by omega), ?_, by omega, by omega⟩
  have := Int.mul_le_mul (a := prodTo m l j) (b := ((setAt l j).length : Int)) (c := 4097) (d := 300) (by omega) h2 (by omega) (by omega)
  omega

end Go.Proofs.YtfmnkojjkjkdeaaDoor

/- Contracts: days in sets; days for a network; links that are broken; DoSolve. -/
namespace Go.Proofs.YtfmnkojjkjkdeaaDoor
set_option linter.unusedVariables false
set_option linter.unusedSimpArgs false
open Go.RowKit
attribute [local go_sem] cell_onto

theorem impl_within_b {n lo hi : Int} {b : Bool} (hb : B (lo ≤ n ∧ n ≤ hi) = b) (w : World) : Calls Tryd.prog 34 #[.int .i64 n, .int .i64 lo, .int .i64 hi] w (RetS (.bool b) w) := by
  subst hb; exact impl_within n lo hi w
theorem spec_l01In_b {n lo hi : Int} {b : Bool} (hb : B (lo ≤ n ∧ n ≤ hi) = b) (w : World) : Calls Tryd.prog 26 #[.int .i64 n, .int .i64 lo, .int .i64 hi] w (RetS (.bool b) w) := by
  subst hb; exact spec_l01In n lo hi w
def DayIn (l : List Sp) (d : Int) (i : Nat) : Prop := (spAt l i).fr ≤ d ∧ d ≤ (spAt l i).to
theorem hasDay_iff {l : List Sp} {d : Int} : HasDay l d ↔ Some_ l.length (DayIn l d) := Iff.rfl

theorem daysOk_iff {l : List Int} : ¬ Some_ l.length (fun i => ¬ DayOk (inAt l i)) ↔ DaysOk l := by
  unfold Some_ DaysOk
  constructor
  · intro h i hi
    exact Classical.byContradiction fun hn => h ⟨i, hi, hn⟩
  · rintro h ⟨i, hi, hn⟩
    exact hn (h i hi)
end Go.Proofs.YtfmnkojjkjkdeaaDoor
