/- Texts merged (a claim holds at most sixty files): Sg, Fs, Fo. -/
import Derived.Test.YtmmokjnljaifcaaGreatDoorE1S
import Derived.Test.YtmmokjnljaifcaaGreatDoorE1A
import Derived.Test.YtmmokjnljaifcaaGreatDoorE1Up
/- Networks in which statements are given up: plain data, and such a network under way in memory. No program in sight. -/
namespace Go.Proofs.YtmmokjnljaifcaaGreatDoor
set_option linter.unusedVariables false
set_option linter.unusedSimpArgs false
open Go.RowKit

/-! ### the plain data -/
def HasI (l : List Int) (x : Int) : Prop := ∃ i, i < l.length ∧ inAt l i = x
/-! ### under way -/
theorem Dst.ext {w w' : World} {b : Nat} {e : TypeId} {sz n : Nat} {v : Value} {xs : List Value} (h : Dst w b e sz v n xs) (hx : Ext w w') : Dst w' b e sz v n xs :=
  h.off (S := fun _ => False) (Off.of_ext hx) (fun _ _ h => h)
end Go.Proofs.YtmmokjnljaifcaaGreatDoor

/- The lexicographically least of lists of one length; the product of the numbers of spans where sets may be given up. Plain Lean. -/
namespace Go.Proofs.YtmmokjnljaifcaaGreatDoor
set_option linter.unusedVariables false
set_option linter.unusedSimpArgs false

/-! ### the choices that have solutions, in the one order and in the other -/
end Go.Proofs.YtmmokjnljaifcaaGreatDoor

/- Contracts: lists compared: slices.Compare, l20Less. -/
namespace Go.Proofs.YtmmokjnljaifcaaGreatDoor
set_option linter.unusedVariables false
set_option linter.unusedSimpArgs false
open Go.RowKit
attribute [local go_sem] cell_onto

set_option maxHeartbeats 400000 in
theorem isNaN_int64 (x : Int) (w : World) : Calls Tryz.prog 316 #[.int .i64 x] w (RetS (.bool false) w) := by
  have T : (x != x) = false := by simp
  go_enter Tryz.func316, Tryz.ntmps316
  go_wp2_with fail
  go_ret
  exact ⟨rfl, rfl⟩
set_option maxHeartbeats 1000000 in
theorem cmp_Compare (x y : Int) (w : World) : Calls Tryz.prog 253 #[.int .i64 x, .int .i64 y] w (RetS (.int .i64 (if x < y then -1 else if y < x then 1 else 0)) w) := by
  go_enter Tryz.func253, Tryz.ntmps253
  by_cases h1 : x < y
  · have T1 : decide (x < y) = true := decide_eq_true h1
    have Hv : Hid ((if x < y then (-1 : Int) else if y < x then 1 else 0) = -1) := Lib.hid (by rw [if_pos h1])
    rw [Hv.out]
    go_wp2_with (go_at_call 316; refine Calls.mono (isNaN_int64 _ _) ?_; rintro e w1 ⟨rfl, rfl⟩)
    go_ret
    exact ⟨rfl, rfl⟩
  · have T1 : decide (x < y) = false := decide_eq_false h1
    by_cases h2 : y < x
    · have T2 : decide (y < x) = true := decide_eq_true h2
      have Hv : Hid ((if x < y then (-1 : Int) else if y < x then 1 else 0) = 1) := Lib.hid (by rw [if_neg h1, if_pos h2])
      rw [Hv.out]
      go_wp2_with (go_at_call 316; refine Calls.mono (isNaN_int64 _ _) ?_; rintro e w1 ⟨rfl, rfl⟩)
      go_ret
      exact ⟨rfl, rfl⟩
    · have T2 : decide (y < x) = false := decide_eq_false h2
      have Hv : Hid ((if x < y then (-1 : Int) else if y < x then 1 else 0) = 0) := Lib.hid (by rw [if_neg h1, if_neg h2])
      rw [Hv.out]
      go_wp2_with (go_at_call 316; refine Calls.mono (isNaN_int64 _ _) ?_; rintro e w1 ⟨rfl, rfl⟩)
      go_ret
      exact ⟨rfl, rfl⟩
end Go.Proofs.YtmmokjnljaifcaaGreatDoor
