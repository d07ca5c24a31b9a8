/- The program's IsSet and IsNetwork; the reference's IsNetwork. -/
import Derived.Test.YtfmnkojjkjkdeaaDoorB
namespace Go.Proofs.YtfmnkojjkjkdeaaDoor
set_option linter.unusedVariables false
set_option linter.unusedSimpArgs false
open Go.RowKit
attribute [local go_sem] cell_onto

theorem impl_isDay_b {n : Int} {b : Bool} (hb : B (DayOk n) = b) (w : World) : Calls Tryd.prog 69 #[.int .i64 n] w (RetS (.bool b) w) := by
  subst hb; exact impl_isDay n w

set_option maxHeartbeats 1000000 in
theorem impl_IsSet (v : Value) (l : List Sp) (w : World) (h : Spans w 0 w.heap.size v l) : Calls Tryd.prog 79 #[v] w (RetX (.bool (B (SetOk l))) w) := by
  obtain ⟨A, c, rfl, hn, hc⟩ := h.len
  have H := Lib.hid h
  clear h
  go_enter Tryd.func79, Tryd.ntmps79
  go_wp2_with fail
  go_loopg [7] l.length (fun k i wr => ∃ j : Nat, j + k = l.length ∧ i = .int .i64 j ∧ Ext w wr ∧ ∀ i, i < j → StepOk l i)
  case atStart => exact ⟨0, by omega, rfl, Ext.refl _, fun i hi => absurd hi (by omega)⟩
  case round =>
    obtain ⟨j, hj, rfl, hx, hok⟩ := hrel
    have Hok := Lib.hid hok
    clear hok
    by_cases hlt : j < l.length
    · obtain ⟨b, off, rfl, _, hb, h1, h2⟩ := (H.out.ext hx (Nat.le_refl _)).at_ hlt
      have hbr : b < wr.heap.size := Nat.lt_of_lt_of_le hb hx.size
      have hbr1 : b < wr.heap.size + 1 := by omega
      by_cases hs1 : DayOk (spAt l j).fr
      · have Hs1 := Lib.hid (B_true hs1)
        by_cases hs2 : DayOk (spAt l j).to
        · have Hs2 := Lib.hid (B_true hs2)
          by_cases hs3 : (spAt l j).fr ≤ (spAt l j).to
          · have Hs := Lib.hid (show SpOk (spAt l j) from ⟨hs1, hs2, hs3⟩)
            unfold DayOk at hs1 hs2
            have hs3b : decide ((spAt l j).to < (spAt l j).fr) = false := by simp; omega
            obtain ⟨hs11, hs12⟩ := hs1
            obtain ⟨hs21, hs22⟩ := hs2
            by_cases h0 : 0 < j
            · have hb0 : decide ((0 : Int) < (j : Int)) = true := by simp; omega
              obtain ⟨b', off', e, _, _, _, h3⟩ := (H.out.ext hx (Nat.le_refl _)).at_ (i := j - 1) (by omega)
              injection e with e
              injection e with e1 e2
              subst e1 e2
              have hp := (Hok.out (j - 1) (by omega)).1.2.1
              unfold DayOk at hp
              obtain ⟨hp1, hp2⟩ := hp
              go_wp2_with fail
              (refine wp_region_onto prog_mixed (by kernel_rfl) ?_; (repeat (go_big_quiet_step ((go_at_call 69; first | with_reducible exact onto_callS (impl_isDay_b Hs1.out _) | with_reducible exact onto_callS (impl_isDay_b Hs2.out _))))); refine onto_end ?_; intro w1 hx1)
              go_wp2_with fail
              · go_ret
                exact ⟨ret_bool (B_false (fun h => by have := ((h.2 j hlt).2 h0); omega)).symm, (by repeat (first | exact Ext.refl _ | assumption | refine Ext.alloc ?_ _ | refine Ext.drew ?_ | refine Ext.drewN ?_ _ | refine Ext.setCell ?_ (by first | (simp; done) | (simp; omega) | omega) _ | refine Ext.trans ?_ (by assumption)))⟩
              · go_roundg (l.length - (j + 1))
                case measure => omega
                case rel => exact ⟨j + 1, by omega, by go_num, (by repeat (first | exact Ext.refl _ | assumption | refine Ext.alloc ?_ _ | refine Ext.drew ?_ | refine Ext.drewN ?_ _ | refine Ext.setCell ?_ (by first | (simp; done) | (simp; omega) | omega) _ | refine Ext.trans ?_ (by assumption))), setOk_step Hok.out ⟨Hs.out, fun _ => by omega⟩⟩
            · have hb0 : decide ((0 : Int) < (j : Int)) = false := by simp; omega
              go_wp2_with fail
              (refine wp_region_onto prog_mixed (by kernel_rfl) ?_; (repeat (go_big_quiet_step ((go_at_call 69; first | with_reducible exact onto_callS (impl_isDay_b Hs1.out _) | with_reducible exact onto_callS (impl_isDay_b Hs2.out _))))); refine onto_end ?_; intro w1 hx1)
              go_wp2_with fail
              go_roundg (l.length - (j + 1))
              case measure => omega
              case rel => exact ⟨j + 1, by omega, by go_num, (by repeat (first | exact Ext.refl _ | assumption | refine Ext.alloc ?_ _ | refine Ext.drew ?_ | refine Ext.drewN ?_ _ | refine Ext.setCell ?_ (by first | (simp; done) | (simp; omega) | omega) _ | refine Ext.trans ?_ (by assumption))), setOk_step Hok.out ⟨Hs.out, fun h => absurd h h0⟩⟩
          · have hs3b : decide ((spAt l j).to < (spAt l j).fr) = true := by simp; omega
            have hn3 := Lib.hid hs3
            clear hs1 hs2 hs3
            go_wp2_with fail
            (refine wp_region_onto prog_mixed (by kernel_rfl) ?_; (repeat (go_big_quiet_step ((go_at_call 69; first | with_reducible exact onto_callS (impl_isDay_b Hs1.out _) | with_reducible exact onto_callS (impl_isDay_b Hs2.out _))))); refine onto_end ?_; intro w1 hx1)
            go_wp2_with fail
            go_ret
            exact ⟨ret_bool (B_false (fun h => by have h3 := (h.2 j hlt).1.2.2; have := hn3.out; omega)).symm, (by repeat (first | exact Ext.refl _ | assumption | refine Ext.alloc ?_ _ | refine Ext.drew ?_ | refine Ext.drewN ?_ _ | refine Ext.setCell ?_ (by first | (simp; done) | (simp; omega) | omega) _ | refine Ext.trans ?_ (by assumption)))⟩
        · have Hs2 := Lib.hid (B_false hs2)
          have hn3 := Lib.hid hs2
          clear hs1 hs2
          go_wp2_with fail
          (refine wp_region_onto prog_mixed (by kernel_rfl) ?_; (repeat (go_big_quiet_step ((go_at_call 69; first | with_reducible exact onto_callS (impl_isDay_b Hs1.out _) | with_reducible exact onto_callS (impl_isDay_b Hs2.out _))))); refine onto_end ?_; intro w1 hx1)
          go_wp2_with fail
          go_ret
          exact ⟨ret_bool (B_false (fun h => hn3.out (h.2 j hlt).1.2.1)).symm, (by repeat (first | exact Ext.refl _ | assumption | refine Ext.alloc ?_ _ | refine Ext.drew ?_ | refine Ext.drewN ?_ _ | refine Ext.setCell ?_ (by first | (simp; done) | (simp; omega) | omega) _ | refine Ext.trans ?_ (by assumption)))⟩
      · have Hs1 := Lib.hid (B_false hs1)
        have Hs2 := Hs1
        have hn3 := Lib.hid hs1
        clear hs1
        go_wp2_with fail
        (refine wp_region_onto prog_mixed (by kernel_rfl) ?_; (repeat (go_big_quiet_step ((go_at_call 69; first | with_reducible exact onto_callS (impl_isDay_b Hs1.out _) | with_reducible exact onto_callS (impl_isDay_b Hs2.out _))))); refine onto_end ?_; intro w1 hx1)
        go_wp2_with fail
        go_ret
        exact ⟨ret_bool (B_false (fun h => hn3.out (h.2 j hlt).1.1)).symm, (by repeat (first | exact Ext.refl _ | assumption | refine Ext.alloc ?_ _ | refine Ext.drew ?_ | refine Ext.drewN ?_ _ | refine Ext.setCell ?_ (by first | (simp; done) | (simp; omega) | omega) _ | refine Ext.trans ?_ (by assumption)))⟩
    · obtain rfl : j = l.length := by omega
      go_wp2_with fail
      go_ret
      refine ⟨ret_bool (B_eq ?_), (by repeat (first | exact Ext.refl _ | assumption | refine Ext.alloc ?_ _ | refine Ext.drew ?_ | refine Ext.drewN ?_ _ | refine Ext.setCell ?_ (by first | (simp; done) | (simp; omega) | omega) _ | refine Ext.trans ?_ (by assumption)))⟩
      simp only [decide_eq_true_eq]
      exact ⟨fun h => ⟨by omega, Hok.out⟩, fun h => by have := h.1; omega⟩

set_option maxHeartbeats 1000000 in
theorem impl_isLink (a b c d : Int) (n : Nat) (w : World) (hn : n ≤ 9223372036854775807) :
    Calls Tryd.prog 62 #[.agg #[.int .i64 a, .int .i64 b, .int .i64 c, .int .i64 d], .int .i64 n] w (RetX (.bool (B (LkOk ⟨a, b, c, d⟩ n))) w) := by
  go_enter Tryd.func62, Tryd.ntmps62
  go_wp2_with (go_at_call 34; refine (impl_within _ _ _ _).mono ?_; rintro e w' ⟨rfl, rfl⟩)
  all_goals (go_ret; refine ⟨ret_bool (B_eq ?_), (by repeat (first | exact Ext.refl _ | assumption | refine Ext.alloc ?_ _ | refine Ext.drew ?_ | refine Ext.drewN ?_ _ | refine Ext.setCell ?_ (by first | (simp; done) | (simp; omega) | omega) _ | refine Ext.trans ?_ (by assumption)))⟩; (try simp only [Bool.and_eq_true, Bool.or_eq_true, B_iff, B_not, Bool.not_eq_true, Bool.not_eq_false', Bool.not_eq_true', Bool.not_not, decide_eq_true_eq, decide_eq_false_iff_not, Bool.true_eq_false, Bool.false_eq_true, iff_true, iff_false, true_iff, false_iff, beq_iff_eq, bne_iff_ne, ne_eq] at *); (try unfold LkOk at *); (try dsimp only at *); omega)
set_option maxHeartbeats 1000000 in
theorem spec_l18Link (a b c d : Int) (n : Nat) (w : World) (hn : n ≤ 9223372036854775807) :
    Calls Tryd.prog 56 #[.agg #[.int .i64 a, .int .i64 b, .int .i64 c, .int .i64 d], .int .i64 n] w (RetX (.bool (B (LkOk ⟨a, b, c, d⟩ n))) w) := by
  go_enter Tryd.func56, Tryd.ntmps56
  go_wp2_with (go_at_call 26; refine (spec_l01In _ _ _ _).mono ?_; rintro e w' ⟨rfl, rfl⟩)
  all_goals (go_ret; refine ⟨ret_bool (B_eq ?_), (by repeat (first | exact Ext.refl _ | assumption | refine Ext.alloc ?_ _ | refine Ext.drew ?_ | refine Ext.drewN ?_ _ | refine Ext.setCell ?_ (by first | (simp; done) | (simp; omega) | omega) _ | refine Ext.trans ?_ (by assumption)))⟩; (try simp only [Bool.and_eq_true, Bool.or_eq_true, B_iff, B_not, Bool.not_eq_true, Bool.not_eq_false', Bool.not_eq_true', Bool.not_not, decide_eq_true_eq, decide_eq_false_iff_not, Bool.true_eq_false, Bool.false_eq_true, iff_true, iff_false, true_iff, false_iff, beq_iff_eq, bne_iff_ne, ne_eq] at *); (try unfold LkOk at *); (try dsimp only at *); omega)

set_option maxHeartbeats 400000 in
theorem impl_areSets_1 (v : Value) (l : List Sp) (w : World) (h : Spans w 0 w.heap.size v l) : Calls Tryd.prog 78 #[v] w (RetX (.bool (B (¬ SetOk l))) w) := by
  have H := Lib.hid h
  clear h
  go_enter Tryd.func78, Tryd.ntmps78
  go_wp2_with (go_at_call 79; refine (impl_IsSet v l w H.out).mono ?_; rintro e w1 ⟨rfl, hx1⟩)
  (go_ret; exact ⟨ret_bool (B_eq (by simp [B_not])), (by repeat (first | exact Ext.refl _ | assumption | refine Ext.alloc ?_ _ | refine Ext.drew ?_ | refine Ext.drewN ?_ _ | refine Ext.setCell ?_ (by first | (simp; done) | (simp; omega) | omega) _ | refine Ext.trans ?_ (by assumption)))⟩)

def SetsOk (l : List (List Sp)) : Prop := ∀ i, i < l.length → SetOk (setAt l i)
theorem sets_iff {l : List (List Sp)} : ¬ Some_ l.length (fun i => ¬ SetOk (setAt l i)) ↔ SetsOk l := by
  unfold Some_ SetsOk
  constructor
  · intro h i hi
    exact Classical.byContradiction fun hn => h ⟨i, hi, hn⟩
  · rintro h ⟨i, hi, hn⟩
    exact hn (h i hi)

set_option maxHeartbeats 400000 in
theorem impl_areSets (v : Value) (l : List (List Sp)) (w : World) (h : Sets w 0 w.heap.size v l) : Calls Tryd.prog 59 #[v] w (RetX (.bool (B (SetsOk l))) w) := by
  have H := Lib.hid (containsFunc_sets v l 78 #[] (fun i => ¬ SetOk (setAt l i)) w h Tryd.call78 (fun i w' u hu _ hx => impl_areSets_1 u (setAt l i) w' (hu.mono (Nat.le_refl _) hx.size)))
  clear h
  go_enter Tryd.func59, Tryd.ntmps59
  go_wp2_with (go_at_call 77; refine H.out.mono ?_; rintro e w1 ⟨rfl, hx1⟩)
  (go_ret; refine ⟨ret_bool (B_eq ?_), (by repeat (first | exact Ext.refl _ | assumption | refine Ext.alloc ?_ _ | refine Ext.drew ?_ | refine Ext.drewN ?_ _ | refine Ext.setCell ?_ (by first | (simp; done) | (simp; omega) | omega) _ | refine Ext.trans ?_ (by assumption)))⟩; (try simp only [Bool.and_eq_true, Bool.or_eq_true, B_iff, B_not, Bool.not_eq_true, Bool.not_eq_false', Bool.not_eq_true', Bool.not_not, decide_eq_true_eq, decide_eq_false_iff_not, Bool.true_eq_false, Bool.false_eq_true, iff_true, iff_false, true_iff, false_iff, beq_iff_eq, bne_iff_ne, ne_eq] at *); (try dsimp only at *); exact sets_iff)
end Go.Proofs.YtfmnkojjkjkdeaaDoor
