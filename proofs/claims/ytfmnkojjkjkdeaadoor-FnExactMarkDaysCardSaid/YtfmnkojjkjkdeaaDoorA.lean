/- Contracts of the functions that only read: ranges, days, sets, links, networks. -/
import Derived.Test.YtfmnkojjkjkdeaaDoorProg
import Derived.Test.YtfmnkojjkjkdeaaDoorLib
namespace Go.Proofs.YtfmnkojjkjkdeaaDoor
set_option linter.unusedVariables false
set_option linter.unusedSimpArgs false
open Go.RowKit
attribute [local go_sem] cell_onto

theorem prog_mixed : Tryd.prog.follows .mixedOrders = true := by kernel_rfl

set_option maxHeartbeats 400000 in
theorem impl_within (n lo hi : Int) (w : World) : Calls Tryd.prog 34 #[.int .i64 n, .int .i64 lo, .int .i64 hi] w (RetS (.bool (B (lo ≤ n ∧ n ≤ hi))) w) := by
  go_enter Tryd.func34, Tryd.ntmps34
  go_wp2
  all_goals (go_ret; refine ⟨ret_bool (B_eq ?_), rfl⟩; simp; omega)
set_option maxHeartbeats 400000 in
theorem spec_l01In (n lo hi : Int) (w : World) : Calls Tryd.prog 26 #[.int .i64 n, .int .i64 lo, .int .i64 hi] w (RetS (.bool (B (lo ≤ n ∧ n ≤ hi))) w) := by
  go_enter Tryd.func26, Tryd.ntmps26
  go_wp2
  all_goals (go_ret; refine ⟨ret_bool (B_eq ?_), rfl⟩; simp; omega)
set_option maxHeartbeats 400000 in
theorem impl_isDay (n : Int) (w : World) : Calls Tryd.prog 69 #[.int .i64 n] w (RetS (.bool (B (DayOk n))) w) := by
  go_enter Tryd.func69, Tryd.ntmps69
  go_wp2_with (go_at_call 34; refine (impl_within _ _ _ _).mono ?_; rintro e w' ⟨rfl, rfl⟩)
  go_ret
  exact ⟨rfl, rfl⟩
set_option maxHeartbeats 400000 in
theorem spec_l01Day (n : Int) (w : World) : Calls Tryd.prog 95 #[.int .i64 n] w (RetS (.bool (B (DayOk n))) w) := by
  go_enter Tryd.func95, Tryd.ntmps95
  go_wp2_with (go_at_call 26; refine (spec_l01In _ _ _ _).mono ?_; rintro e w' ⟨rfl, rfl⟩)
  go_ret
  exact ⟨rfl, rfl⟩

set_option maxHeartbeats 400000 in
theorem spec_l02Span (a b : Int) (w : World) : Calls Tryd.prog 75 #[.agg #[.int .i64 a, .int .i64 b]] w (RetX (.bool (B (SpOk ⟨a, b⟩))) w) := by
  go_enter Tryd.func75, Tryd.ntmps75
  go_wp2_with (go_at_call 95; refine (spec_l01Day _ _).mono ?_; rintro e w' ⟨rfl, rfl⟩)
  all_goals (go_ret; refine ⟨ret_bool (B_eq ?_), (by repeat (first | exact Ext.refl _ | assumption | refine Ext.alloc ?_ _ | refine Ext.drew ?_ | refine Ext.drewN ?_ _ | refine Ext.setCell ?_ (by first | (simp; done) | (simp; omega) | omega) _ | refine Ext.trans ?_ (by assumption)))⟩; (try simp only [Bool.and_eq_true, Bool.or_eq_true, B_iff, B_not, Bool.not_eq_true, Bool.not_eq_false', Bool.not_eq_true', Bool.not_not, decide_eq_true_eq, decide_eq_false_iff_not, Bool.true_eq_false, Bool.false_eq_true, iff_true, iff_false, true_iff, false_iff, beq_iff_eq, bne_iff_ne, ne_eq] at *); (try unfold SpOk DayOk at *); (try dsimp only at *); omega)

theorem setOk_step {l : List Sp} {j : Nat} (h : ∀ i, i < j → StepOk l i) (h' : StepOk l j) : ∀ i, i < j + 1 → StepOk l i := by
  intro i hi
  by_cases e : i = j
  · subst e; exact h'
  · exact h i (by omega)

set_option maxHeartbeats 1000000 in
theorem spec_IsSet (v : Value) (l : List Sp) (w : World) (h : Spans w 0 w.heap.size v l) : Calls Tryd.prog 55 #[v] w (RetX (.bool (B (SetOk l))) w) := by
  obtain ⟨A, c, rfl, hn, hc⟩ := h.len
  have H := Lib.hid h
  clear h
  go_enter Tryd.func55, Tryd.ntmps55
  go_wp2_with fail
  go_loopg [3] l.length (fun k i wr => ∃ j : Nat, j + k = l.length ∧ i = .int .i64 j ∧ Ext w wr ∧ ∀ i, i < j → StepOk l i)
  case atStart => exact ⟨0, by omega, rfl, Ext.refl _, fun i hi => absurd hi (by omega)⟩
  case round =>
    obtain ⟨j, hj, rfl, hx, hok⟩ := hrel
    have Hok := Lib.hid hok
    clear hok
    by_cases hlt : j < l.length
    · obtain ⟨b, off, rfl, _, hb, h1, h2⟩ := (H.out.ext hx (Nat.le_refl _)).at_ hlt
      have hbr : b < wr.heap.size := Nat.lt_of_lt_of_le hb hx.size
      by_cases hs : SpOk (spAt l j)
      · have hs1 : B (SpOk (spAt l j)) = true := B_true hs
        have hd := hs.1
        have Hs := Lib.hid hs
        have Hs1 := Lib.hid hs1
        clear hs hs1
        by_cases h0 : 0 < j
        · have hb0 : decide ((0 : Int) < (j : Int)) = true := by simp; omega
          obtain ⟨b', off', e, _, _, _, h3⟩ := (H.out.ext hx (Nat.le_refl _)).at_ (i := j - 1) (by omega)
          injection e with e
          injection e with e1 e2
          subst e1 e2
          have hp := (Hok.out (j - 1) (by omega)).1.2.1
          unfold DayOk at hp hd
          obtain ⟨hp1, hp2⟩ := hp
          go_wp2_with fail
          (refine wp_region_onto prog_mixed (by kernel_rfl) ?_; (repeat (go_big_quiet_step ((go_at_call 75; exact onto_callXb Hs1.out (spec_l02Span _ _ _))))); refine onto_end ?_; intro w1 hx1)
          go_wp2_with fail
          · go_ret
            exact ⟨ret_bool (B_false (fun h => by have := ((h.2 j hlt).2 h0); omega)).symm, (by repeat (first | exact Ext.refl _ | assumption | refine Ext.alloc ?_ _ | refine Ext.drew ?_ | refine Ext.drewN ?_ _ | refine Ext.setCell ?_ (by first | (simp; done) | (simp; omega) | omega) _ | refine Ext.trans ?_ (by assumption)))⟩
          · go_roundg (l.length - (j + 1))
            case measure => omega
            case rel => exact ⟨j + 1, by omega, by go_num, (by repeat (first | exact Ext.refl _ | assumption | refine Ext.alloc ?_ _ | refine Ext.drew ?_ | refine Ext.drewN ?_ _ | refine Ext.setCell ?_ (by first | (simp; done) | (simp; omega) | omega) _ | refine Ext.trans ?_ (by assumption))), setOk_step Hok.out ⟨Hs.out, fun _ => by omega⟩⟩
        · have hb0 : decide ((0 : Int) < (j : Int)) = false := by simp; omega
          go_wp2_with fail
          (refine wp_region_onto prog_mixed (by kernel_rfl) ?_; (repeat (go_big_quiet_step ((go_at_call 75; exact onto_callXb Hs1.out (spec_l02Span _ _ _))))); refine onto_end ?_; intro w1 hx1)
          go_wp2_with fail
          go_roundg (l.length - (j + 1))
          case measure => omega
          case rel => exact ⟨j + 1, by omega, by go_num, (by repeat (first | exact Ext.refl _ | assumption | refine Ext.alloc ?_ _ | refine Ext.drew ?_ | refine Ext.drewN ?_ _ | refine Ext.setCell ?_ (by first | (simp; done) | (simp; omega) | omega) _ | refine Ext.trans ?_ (by assumption))), setOk_step Hok.out ⟨Hs.out, fun h => absurd h h0⟩⟩
      · have Hs := Lib.hid hs
        have Hs1 := Lib.hid (B_false hs)
        clear hs
        go_wp2_with fail
        (refine wp_region_onto prog_mixed (by kernel_rfl) ?_; (repeat (go_big_quiet_step ((go_at_call 75; exact onto_callXb Hs1.out (spec_l02Span _ _ _))))); refine onto_end ?_; intro w1 hx1)
        go_wp2_with fail
        go_ret
        exact ⟨ret_bool (B_false (fun h => Hs.out (h.2 j hlt).1)).symm, (by repeat (first | exact Ext.refl _ | assumption | refine Ext.alloc ?_ _ | refine Ext.drew ?_ | refine Ext.drewN ?_ _ | refine Ext.setCell ?_ (by first | (simp; done) | (simp; omega) | omega) _ | refine Ext.trans ?_ (by assumption)))⟩
    · obtain rfl : j = l.length := by omega
      go_wp2_with fail
      go_ret
      refine ⟨ret_bool (B_eq ?_), (by repeat (first | exact Ext.refl _ | assumption | refine Ext.alloc ?_ _ | refine Ext.drew ?_ | refine Ext.drewN ?_ _ | refine Ext.setCell ?_ (by first | (simp; done) | (simp; omega) | omega) _ | refine Ext.trans ?_ (by assumption)))⟩
      simp only [decide_eq_true_eq]
      exact ⟨fun h => ⟨by omega, Hok.out⟩, fun h => by have := h.1; omega⟩
end Go.Proofs.YtfmnkojjkjkdeaaDoor
