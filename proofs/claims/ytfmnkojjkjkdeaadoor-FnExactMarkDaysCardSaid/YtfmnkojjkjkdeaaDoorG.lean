/- Contracts: counts of statements, of days, of choices. -/
import Derived.Test.YtfmnkojjkjkdeaaDoorF
import Derived.Test.YtfmnkojjkjkdeaaDoorMath
namespace Go.Proofs.YtfmnkojjkjkdeaaDoor
set_option linter.unusedVariables false
set_option linter.unusedSimpArgs false
open Go.RowKit
attribute [local go_sem] cell_onto

set_option maxHeartbeats 400000 in
theorem impl_statementsOf (s k : Value) (n : Net) (w : World) (h : NetIn w s k n) (hok : n.sets.length ≤ 1048576 ∧ n.links.length ≤ 1048576) :
    Calls Tryd.prog 35 #[.agg #[s, k]] w (RetX (.int .i64 ((n.sets.length : Int) + n.links.length)) w) := by
  obtain ⟨A, c, rfl, hn, hc⟩ := h.1.len
  obtain ⟨A', c', rfl, hn', hc'⟩ := h.2.len
  obtain ⟨h1, h2⟩ := hok
  clear h
  go_enter Tryd.func35, Tryd.ntmps35
  go_wp2_with fail
  go_ret
  exact ⟨rfl, (by repeat (first | exact Ext.refl _ | assumption | refine Ext.alloc ?_ _ | refine Ext.drew ?_ | refine Ext.drewN ?_ _ | refine Ext.setCell ?_ (by first | (simp; done) | (simp; omega) | omega) _ | refine Ext.trans ?_ (by assumption)))⟩
set_option maxHeartbeats 400000 in
theorem spec_l21Count (s k : Value) (n : Net) (w : World) (h : NetIn w s k n) (hok : n.sets.length ≤ 1048576 ∧ n.links.length ≤ 1048576) :
    Calls Tryd.prog 27 #[.agg #[s, k]] w (RetX (.int .i64 ((n.sets.length : Int) + n.links.length)) w) := by
  obtain ⟨A, c, rfl, hn, hc⟩ := h.1.len
  obtain ⟨A', c', rfl, hn', hc'⟩ := h.2.len
  obtain ⟨h1, h2⟩ := hok
  clear h
  go_enter Tryd.func27, Tryd.ntmps27
  go_wp2_with fail
  go_ret
  exact ⟨rfl, (by repeat (first | exact Ext.refl _ | assumption | refine Ext.alloc ?_ _ | refine Ext.drew ?_ | refine Ext.drewN ?_ _ | refine Ext.setCell ?_ (by first | (simp; done) | (simp; omega) | omega) _ | refine Ext.trans ?_ (by assumption)))⟩

end Go.Proofs.YtfmnkojjkjkdeaaDoor
