/- Contracts: lists compared: slices.Compare, l20Less. -/
import Derived.Test.YtfmnkojjkjkdeaaDoorFs
import Derived.Test.YtfmnkojjkjkdeaaDoorA
namespace Go.Proofs.YtfmnkojjkjkdeaaDoor
set_option linter.unusedVariables false
set_option linter.unusedSimpArgs false
open Go.RowKit
attribute [local go_sem] cell_onto

noncomputable def cmpL (a b : List Int) : Int := bif B (Lex a b) then -1 else bif B (Lex b a) then 1 else 0
theorem cmpL_lt {a b : List Int} (h : Lex a b) : cmpL a b = -1 := by unfold cmpL; rw [B_true h]; rfl
theorem cmpL_ge {a b : List Int} (h : ¬ Lex a b) : 0 ≤ cmpL a b ∧ cmpL a b ≤ 1 := by
  unfold cmpL
  rw [B_false h]
  cases B (Lex b a)
  · exact ⟨Int.le_refl _, by decide⟩
  · exact ⟨by decide, Int.le_refl _⟩
theorem cmpL_gt {a b : List Int} (h : ¬ Lex a b) (h2 : Lex b a) : cmpL a b = 1 := by unfold cmpL; rw [B_false h, B_true h2]; rfl
theorem cmpL_eq {a b : List Int} (h : ¬ Lex a b) (h2 : ¬ Lex b a) : cmpL a b = 0 := by unfold cmpL; rw [B_false h, B_false h2]; rfl
theorem eqTo_step {a b : List Int} {j : Nat} (h : ∀ i, i < j → inAt a i = inAt b i) (h2 : inAt a j = inAt b j) : ∀ i, i < j + 1 → inAt a i = inAt b i := by
  intro i hi
  by_cases e : i = j
  · subst e; exact h2
  · exact h i (by omega)

set_option maxHeartbeats 400000 in
theorem isNaN_int64 (x : Int) (w : World) : Calls Tryd.prog 109 #[.int .i64 x] w (RetS (.bool false) w) := by
  have T : (x != x) = false := by simp
  go_enter Tryd.func109, Tryd.ntmps109
  go_wp2_with fail
  go_ret
  exact ⟨rfl, rfl⟩
set_option maxHeartbeats 1000000 in
theorem cmp_Compare (x y : Int) (w : World) : Calls Tryd.prog 85 #[.int .i64 x, .int .i64 y] w (RetS (.int .i64 (if x < y then -1 else if y < x then 1 else 0)) w) := by
  go_enter Tryd.func85, Tryd.ntmps85
  by_cases h1 : x < y
  · have T1 : decide (x < y) = true := decide_eq_true h1
    have Hv : Hid ((if x < y then (-1 : Int) else if y < x then 1 else 0) = -1) := Lib.hid (by rw [if_pos h1])
    rw [Hv.out]
    go_wp2_with (go_at_call 109; refine Calls.mono (isNaN_int64 _ _) ?_; rintro e w1 ⟨rfl, rfl⟩)
    go_ret
    exact ⟨rfl, rfl⟩
  · have T1 : decide (x < y) = false := decide_eq_false h1
    by_cases h2 : y < x
    · have T2 : decide (y < x) = true := decide_eq_true h2
      have Hv : Hid ((if x < y then (-1 : Int) else if y < x then 1 else 0) = 1) := Lib.hid (by rw [if_neg h1, if_pos h2])
      rw [Hv.out]
      go_wp2_with (go_at_call 109; refine Calls.mono (isNaN_int64 _ _) ?_; rintro e w1 ⟨rfl, rfl⟩)
      go_ret
      exact ⟨rfl, rfl⟩
    · have T2 : decide (y < x) = false := decide_eq_false h2
      have Hv : Hid ((if x < y then (-1 : Int) else if y < x then 1 else 0) = 0) := Lib.hid (by rw [if_neg h1, if_neg h2])
      rw [Hv.out]
      go_wp2_with (go_at_call 109; refine Calls.mono (isNaN_int64 _ _) ?_; rintro e w1 ⟨rfl, rfl⟩)
      go_ret
      exact ⟨rfl, rfl⟩
end Go.Proofs.YtfmnkojjkjkdeaaDoor
