/- Texts merged (a claim holds at most sixty files): A, B, C, D, E, F, N, G. -/
import Derived.Test.YtmmokjnljaifcaaGreatDoorProg
import Derived.Test.YtmmokjnljaifcaaGreatDoorD1Lib
/- Contracts of the functions that only read: ranges, days, sets, links, networks. -/
namespace Go.Proofs.YtmmokjnljaifcaaGreatDoor
set_option linter.unusedVariables false
set_option linter.unusedSimpArgs false
open Go.RowKit
attribute [local go_sem] cell_onto

theorem prog_mixed : Tryz.prog.follows .mixedOrders = true := by kernel_rfl

set_option maxHeartbeats 400000 in
theorem impl_within (n lo hi : Int) (w : World) : Calls Tryz.prog 119 #[.int .i64 n, .int .i64 lo, .int .i64 hi] w (RetS (.bool (B (lo ≤ n ∧ n ≤ hi))) w) := by
  go_enter Tryz.func119, Tryz.ntmps119
  go_wp2
  all_goals (go_ret; refine ⟨ret_bool (B_eq ?_), rfl⟩; simp; omega)
set_option maxHeartbeats 400000 in
theorem spec_l01In (n lo hi : Int) (w : World) : Calls Tryz.prog 122 #[.int .i64 n, .int .i64 lo, .int .i64 hi] w (RetS (.bool (B (lo ≤ n ∧ n ≤ hi))) w) := by
  go_enter Tryz.func122, Tryz.ntmps122
  go_wp2
  all_goals (go_ret; refine ⟨ret_bool (B_eq ?_), rfl⟩; simp; omega)
set_option maxHeartbeats 400000 in
theorem impl_isDay (n : Int) (w : World) : Calls Tryz.prog 134 #[.int .i64 n] w (RetS (.bool (B (DayOk n))) w) := by
  go_enter Tryz.func134, Tryz.ntmps134
  go_wp2_with (go_at_call 119; refine (impl_within _ _ _ _).mono ?_; rintro e w' ⟨rfl, rfl⟩)
  go_ret
  exact ⟨rfl, rfl⟩
set_option maxHeartbeats 400000 in
theorem spec_l01Day (n : Int) (w : World) : Calls Tryz.prog 169 #[.int .i64 n] w (RetS (.bool (B (DayOk n))) w) := by
  go_enter Tryz.func169, Tryz.ntmps169
  go_wp2_with (go_at_call 122; refine (spec_l01In _ _ _ _).mono ?_; rintro e w' ⟨rfl, rfl⟩)
  go_ret
  exact ⟨rfl, rfl⟩

set_option maxHeartbeats 400000 in
theorem spec_l02Span (a b : Int) (w : World) : Calls Tryz.prog 255 #[.agg #[.int .i64 a, .int .i64 b]] w (RetX (.bool (B (SpOk ⟨a, b⟩))) w) := by
  go_enter Tryz.func255, Tryz.ntmps255
  go_wp2_with (go_at_call 169; refine (spec_l01Day _ _).mono ?_; rintro e w' ⟨rfl, rfl⟩)
  all_goals (go_ret; refine ⟨ret_bool (B_eq ?_), (by repeat (first | exact Ext.refl _ | assumption | refine Ext.alloc ?_ _ | refine Ext.drew ?_ | refine Ext.drewN ?_ _ | refine Ext.setCell ?_ (by first | (simp; done) | (simp; omega) | omega) _ | refine Ext.trans ?_ (by assumption)))⟩; (try simp only [Bool.and_eq_true, Bool.or_eq_true, B_iff, B_not, Bool.not_eq_true, Bool.not_eq_false', Bool.not_eq_true', Bool.not_not, decide_eq_true_eq, decide_eq_false_iff_not, Bool.true_eq_false, Bool.false_eq_true, iff_true, iff_false, true_iff, false_iff, beq_iff_eq, bne_iff_ne, ne_eq] at *); (try unfold SpOk DayOk at *); (try dsimp only at *); omega)

end Go.Proofs.YtmmokjnljaifcaaGreatDoor

/- slices.IndexFunc and ContainsFunc over spans, sets, links, numbers: by the contract of the function value. -/
namespace Go.Proofs.YtmmokjnljaifcaaGreatDoor
set_option linter.unusedVariables false
set_option linter.unusedSimpArgs false
open Go.RowKit
attribute [local go_sem] cell_onto

/-- what IndexFunc returns: the first index of which p holds, or -1 -/
def RetIdx (n : Nat) (p : Nat → Prop) (w : World) (e : Ending) (w' : World) : Prop :=
  ∃ r : Int, e = .returned (.int .i64 r) ∧ Ext w w' ∧ ((r = -1 ∧ ∀ i, i < n → ¬ p i) ∨ (0 ≤ r ∧ ∃ i, i < n ∧ p i))
/-- what ContainsFunc asks -/
def Some_ (n : Nat) (p : Nat → Prop) : Prop := ∃ i, i < n ∧ p i

end Go.Proofs.YtmmokjnljaifcaaGreatDoor

/- The program's IsSet and IsNetwork; the reference's IsNetwork. -/
namespace Go.Proofs.YtmmokjnljaifcaaGreatDoor
set_option linter.unusedVariables false
set_option linter.unusedSimpArgs false
open Go.RowKit
attribute [local go_sem] cell_onto

theorem impl_isDay_b {n : Int} {b : Bool} (hb : B (DayOk n) = b) (w : World) : Calls Tryz.prog 134 #[.int .i64 n] w (RetS (.bool b) w) := by
  subst hb; exact impl_isDay n w

end Go.Proofs.YtmmokjnljaifcaaGreatDoor

/- IsNetwork, the program's and the reference's. -/
namespace Go.Proofs.YtmmokjnljaifcaaGreatDoor
set_option linter.unusedVariables false
set_option linter.unusedSimpArgs false
open Go.RowKit
attribute [local go_sem] cell_onto

end Go.Proofs.YtmmokjnljaifcaaGreatDoor

/- The laws' own helpers for spans, links, numbers, networks: sz.. (a bound on the sizes), to.. (a copy in new memory), eq.. (equal data compare equal). -/
namespace Go.Proofs.YtmmokjnljaifcaaGreatDoor
set_option linter.unusedVariables false
set_option linter.unusedSimpArgs false
open Go.RowKit
attribute [local go_sem] cell_onto

/-- what sz.. returns: what is left; if anything is, P -/
def SzPost (left : Int) (p : Prop) (w : World) (e : Ending) (w' : World) : Prop := ∃ r : Int, e = .returned (.int .i64 r) ∧ Ext w w' ∧ -1 ≤ r ∧ r ≤ left ∧ (0 ≤ r → p)
/-- what to.. returns: a row in a new block -/
def NewRow (sz n : Nat) (f : Nat → Value) (w : World) (e : Ending) (w' : World) : Prop := ∃ v g, e = .returned v ∧ Ext w w' ∧ (0 < n → w.heap.size ≤ g) ∧ Own w' g sz v n f




end Go.Proofs.YtmmokjnljaifcaaGreatDoor

/- The laws' own copies of slices (to..S) and comparisons (eq..). -/
namespace Go.Proofs.YtmmokjnljaifcaaGreatDoor
set_option linter.unusedVariables false
set_option linter.unusedSimpArgs false
open Go.RowKit
attribute [local go_sem] cell_onto




end Go.Proofs.YtmmokjnljaifcaaGreatDoor

/- The laws' own mark.. (writes consecutive numbers into all cells of a datum) and held.. (finds them there). -/
namespace Go.Proofs.YtmmokjnljaifcaaGreatDoor
set_option linter.unusedVariables false
set_option linter.unusedSimpArgs false
open Go.RowKit
attribute [local go_sem] cell_onto

end Go.Proofs.YtmmokjnljaifcaaGreatDoor

/- Contracts: counts of statements, of days, of choices. -/
namespace Go.Proofs.YtmmokjnljaifcaaGreatDoor
set_option linter.unusedVariables false
set_option linter.unusedSimpArgs false
open Go.RowKit
attribute [local go_sem] cell_onto


end Go.Proofs.YtmmokjnljaifcaaGreatDoor
