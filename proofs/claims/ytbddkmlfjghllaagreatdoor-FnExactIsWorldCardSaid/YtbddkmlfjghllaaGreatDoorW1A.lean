/- Texts merged (a claim holds at most sixty files): A, B, C, D. -/
import Derived.Test.YtbddkmlfjghllaaGreatDoorProg
import Derived.Test.YtbddkmlfjghllaaGreatDoorW1Lib
/- Contracts of the functions that only read: ranges, days, sets, links, networks. -/
namespace Go.Proofs.YtbddkmlfjghllaaGreatDoor
set_option linter.unusedVariables false
set_option linter.unusedSimpArgs false
open Go.RowKit
attribute [local go_sem] cell_onto

theorem prog_mixed : Tryz.prog.follows .mixedOrders = true := by kernel_rfl

set_option maxHeartbeats 400000 in
theorem impl_within (n lo hi : Int) (w : World) : Calls Tryz.prog 44 #[.int .i64 n, .int .i64 lo, .int .i64 hi] w (RetS (.bool (B (lo ≤ n ∧ n ≤ hi))) w) := by
  go_enter Tryz.func44, Tryz.ntmps44
  go_wp2
  all_goals (go_ret; refine ⟨ret_bool (B_eq ?_), rfl⟩; simp; omega)
set_option maxHeartbeats 400000 in
theorem spec_l01In (n lo hi : Int) (w : World) : Calls Tryz.prog 51 #[.int .i64 n, .int .i64 lo, .int .i64 hi] w (RetS (.bool (B (lo ≤ n ∧ n ≤ hi))) w) := by
  go_enter Tryz.func51, Tryz.ntmps51
  go_wp2
  all_goals (go_ret; refine ⟨ret_bool (B_eq ?_), rfl⟩; simp; omega)
set_option maxHeartbeats 400000 in
theorem impl_isDay (n : Int) (w : World) : Calls Tryz.prog 42 #[.int .i64 n] w (RetS (.bool (B (DayOk n))) w) := by
  go_enter Tryz.func42, Tryz.ntmps42
  go_wp2_with (go_at_call 44; refine (impl_within _ _ _ _).mono ?_; rintro e w' ⟨rfl, rfl⟩)
  go_ret
  exact ⟨rfl, rfl⟩
set_option maxHeartbeats 400000 in
theorem spec_l01Day (n : Int) (w : World) : Calls Tryz.prog 50 #[.int .i64 n] w (RetS (.bool (B (DayOk n))) w) := by
  go_enter Tryz.func50, Tryz.ntmps50
  go_wp2_with (go_at_call 51; refine (spec_l01In _ _ _ _).mono ?_; rintro e w' ⟨rfl, rfl⟩)
  go_ret
  exact ⟨rfl, rfl⟩

set_option maxHeartbeats 400000 in
theorem spec_l02Span (a b : Int) (w : World) : Calls Tryz.prog 156 #[.agg #[.int .i64 a, .int .i64 b]] w (RetX (.bool (B (SpOk ⟨a, b⟩))) w) := by
  go_enter Tryz.func156, Tryz.ntmps156
  go_wp2_with (go_at_call 50; refine (spec_l01Day _ _).mono ?_; rintro e w' ⟨rfl, rfl⟩)
  all_goals (go_ret; refine ⟨ret_bool (B_eq ?_), (by repeat (first | exact Ext.refl _ | assumption | refine Ext.alloc ?_ _ | refine Ext.drew ?_ | refine Ext.drewN ?_ _ | refine Ext.setCell ?_ (by first | (simp; done) | (simp; omega) | omega) _ | refine Ext.trans ?_ (by assumption)))⟩; (try simp only [Bool.and_eq_true, Bool.or_eq_true, B_iff, B_not, Bool.not_eq_true, Bool.not_eq_false', Bool.not_eq_true', Bool.not_not, decide_eq_true_eq, decide_eq_false_iff_not, Bool.true_eq_false, Bool.false_eq_true, iff_true, iff_false, true_iff, false_iff, beq_iff_eq, bne_iff_ne, ne_eq] at *); (try unfold SpOk DayOk at *); (try dsimp only at *); omega)

theorem setOk_step {l : List Sp} {j : Nat} (h : ∀ i, i < j → StepOk l i) (h' : StepOk l j) : ∀ i, i < j + 1 → StepOk l i := by
  intro i hi
  by_cases e : i = j
  · subst e; exact h'
  · exact h i (by omega)

end Go.Proofs.YtbddkmlfjghllaaGreatDoor

/- slices.IndexFunc and ContainsFunc over spans, sets, links, numbers: by the contract of the function value. -/
namespace Go.Proofs.YtbddkmlfjghllaaGreatDoor
set_option linter.unusedVariables false
set_option linter.unusedSimpArgs false
open Go.RowKit
attribute [local go_sem] cell_onto

/-- what IndexFunc returns: the first index of which p holds, or -1 -/
def RetIdx (n : Nat) (p : Nat → Prop) (w : World) (e : Ending) (w' : World) : Prop :=
  ∃ r : Int, e = .returned (.int .i64 r) ∧ Ext w w' ∧ ((r = -1 ∧ ∀ i, i < n → ¬ p i) ∨ (0 ≤ r ∧ ∃ i, i < n ∧ p i))
/-- what ContainsFunc asks -/
def Some_ (n : Nat) (p : Nat → Prop) : Prop := ∃ i, i < n ∧ p i

set_option maxHeartbeats 400000 in
theorem indexFunc_spans (v : Value) (l : List Sp) (g : Nat) (caps : Array Value) (p : Nat → Prop) (w : World) (h : Spans w 0 w.heap.size v l)
    (hg : ∀ (args : Array Value) (w : World), (callFunc g args).run Tryz.prog w = .ok (.enter g args) w)
    (hf : ∀ (i : Nat) (w' : World), i < l.length → Ext w w' → Calls Tryz.prog g (#[.agg #[.int .i64 (spAt l i).fr, .int .i64 (spAt l i).to]] ++ caps) w' (RetX (.bool (B (p i))) w')) :
    Calls Tryz.prog 160 #[v, .func (.func g) #[] caps] w (RetIdx l.length p w) := by
  obtain ⟨A, c, rfl, hn, hc⟩ := h.len
  have H := Lib.hid h
  have Hf := Lib.hid hf
  clear h hf
  go_enter Tryz.func160, Tryz.ntmps160
  go_wp2_with fail
  go_loopg [8] l.length (fun k i wr => ∃ j : Nat, j + k = l.length ∧ i = .int .i64 j ∧ Ext w wr ∧ ∀ i, i < j → ¬ p i)
  case atStart => exact ⟨0, by omega, rfl, Ext.refl _, fun i hi => absurd hi (by omega)⟩
  case round =>
    obtain ⟨j, hj, rfl, hx, hok⟩ := hrel
    have Hok := Lib.hid hok
    clear hok
    by_cases hlt : j < l.length
    · obtain ⟨b, off, rfl, _, hb, h1, h2⟩ := (H.out.ext hx (Nat.le_refl _)).at_ hlt
      go_wp2_with fail
      refine (Hf.out j wr hlt hx).mono ?_
      rintro e w1 ⟨rfl, hx1⟩
      go_wp2_with fail
      · go_ret
        exact ⟨j, rfl, (by repeat (first | exact Ext.refl _ | assumption | refine Ext.alloc ?_ _ | refine Ext.drew ?_ | refine Ext.drewN ?_ _ | refine Ext.setCell ?_ (by first | (simp; done) | (simp; omega) | omega) _ | refine Ext.trans ?_ (by assumption))), .inr ⟨by omega, j, hlt, B_iff.1 (by assumption)⟩⟩
      · go_roundg (l.length - (j + 1))
        case measure => omega
        case rel =>
          refine ⟨j + 1, by omega, by go_num, (by repeat (first | exact Ext.refl _ | assumption | refine Ext.alloc ?_ _ | refine Ext.drew ?_ | refine Ext.drewN ?_ _ | refine Ext.setCell ?_ (by first | (simp; done) | (simp; omega) | omega) _ | refine Ext.trans ?_ (by assumption))), fun i hi => ?_⟩
          by_cases e : i = j
          · rw [e]
            exact B_not.1 (by first | assumption | (simp only [← Bool.not_eq_true]; assumption))
          · exact Hok.out i (by omega)
    · obtain rfl : j = l.length := by omega
      go_wp2_with fail
      go_ret
      exact ⟨-1, rfl, (by repeat (first | exact Ext.refl _ | assumption | refine Ext.alloc ?_ _ | refine Ext.drew ?_ | refine Ext.drewN ?_ _ | refine Ext.setCell ?_ (by first | (simp; done) | (simp; omega) | omega) _ | refine Ext.trans ?_ (by assumption))), .inl ⟨rfl, Hok.out⟩⟩

set_option maxHeartbeats 400000 in
theorem containsFunc_spans (v : Value) (l : List Sp) (g : Nat) (caps : Array Value) (p : Nat → Prop) (w : World) (h : Spans w 0 w.heap.size v l)
    (hg : ∀ (args : Array Value) (w : World), (callFunc g args).run Tryz.prog w = .ok (.enter g args) w)
    (hf : ∀ (i : Nat) (w' : World), i < l.length → Ext w w' → Calls Tryz.prog g (#[.agg #[.int .i64 (spAt l i).fr, .int .i64 (spAt l i).to]] ++ caps) w' (RetX (.bool (B (p i))) w')) :
    Calls Tryz.prog 98 #[v, .func (.func g) #[] caps] w (RetX (.bool (B (Some_ l.length p))) w) := by
  have H := Lib.hid (indexFunc_spans v l g caps p w h hg hf)
  clear h hf hg
  go_enter Tryz.func98, Tryz.ntmps98
  go_wp2_with fail
  refine H.out.mono ?_
  rintro e w1 ⟨r, rfl, hx, hr⟩
  have Hr := Lib.hid hr
  clear hr
  go_wp2_with fail
  go_ret
  refine ⟨ret_bool (B_eq ?_), (by repeat (first | exact Ext.refl _ | assumption | refine Ext.alloc ?_ _ | refine Ext.drew ?_ | refine Ext.drewN ?_ _ | refine Ext.setCell ?_ (by first | (simp; done) | (simp; omega) | omega) _ | refine Ext.trans ?_ (by assumption)))⟩
  simp only [decide_eq_true_eq]
  constructor
  · intro h
    rcases Hr.out with ⟨h1, _⟩ | ⟨_, h2⟩
    · omega
    · exact h2
  · rintro ⟨i, h1, h2⟩
    rcases Hr.out with ⟨_, h3⟩ | ⟨h3, _⟩
    · exact absurd h2 (h3 i h1)
    · omega



end Go.Proofs.YtbddkmlfjghllaaGreatDoor

/- The program's IsSet and IsNetwork; the reference's IsNetwork. -/
namespace Go.Proofs.YtbddkmlfjghllaaGreatDoor
set_option linter.unusedVariables false
set_option linter.unusedSimpArgs false
open Go.RowKit
attribute [local go_sem] cell_onto

theorem impl_isDay_b {n : Int} {b : Bool} (hb : B (DayOk n) = b) (w : World) : Calls Tryz.prog 42 #[.int .i64 n] w (RetS (.bool b) w) := by
  subst hb; exact impl_isDay n w

set_option maxHeartbeats 1000000 in
theorem impl_IsSet (v : Value) (l : List Sp) (w : World) (h : Spans w 0 w.heap.size v l) : Calls Tryz.prog 57 #[v] w (RetX (.bool (B (SetOk l))) w) := by
  obtain ⟨A, c, rfl, hn, hc⟩ := h.len
  have H := Lib.hid h
  clear h
  go_enter Tryz.func57, Tryz.ntmps57
  go_wp2_with fail
  go_loopg [7] l.length (fun k i wr => ∃ j : Nat, j + k = l.length ∧ i = .int .i64 j ∧ Ext w wr ∧ ∀ i, i < j → StepOk l i)
  case atStart => exact ⟨0, by omega, rfl, Ext.refl _, fun i hi => absurd hi (by omega)⟩
  case round =>
    obtain ⟨j, hj, rfl, hx, hok⟩ := hrel
    have Hok := Lib.hid hok
    clear hok
    by_cases hlt : j < l.length
    · obtain ⟨b, off, rfl, _, hb, h1, h2⟩ := (H.out.ext hx (Nat.le_refl _)).at_ hlt
      have hbr : b < wr.heap.size := Nat.lt_of_lt_of_le hb hx.size
      have hbr1 : b < wr.heap.size + 1 := by omega
      by_cases hs1 : DayOk (spAt l j).fr
      · have Hs1 := Lib.hid (B_true hs1)
        by_cases hs2 : DayOk (spAt l j).to
        · have Hs2 := Lib.hid (B_true hs2)
          by_cases hs3 : (spAt l j).fr ≤ (spAt l j).to
          · have Hs := Lib.hid (show SpOk (spAt l j) from ⟨hs1, hs2, hs3⟩)
            unfold DayOk at hs1 hs2
            have hs3b : decide ((spAt l j).to < (spAt l j).fr) = false := by simp; omega
            obtain ⟨hs11, hs12⟩ := hs1
            obtain ⟨hs21, hs22⟩ := hs2
            by_cases h0 : 0 < j
            · have hb0 : decide ((0 : Int) < (j : Int)) = true := by simp; omega
              obtain ⟨b', off', e, _, _, _, h3⟩ := (H.out.ext hx (Nat.le_refl _)).at_ (i := j - 1) (by omega)
              injection e with e
              injection e with e1 e2
              subst e1 e2
              have hp := (Hok.out (j - 1) (by omega)).1.2.1
              unfold DayOk at hp
              obtain ⟨hp1, hp2⟩ := hp
              go_wp2_with fail
              (refine wp_region_onto prog_mixed (by kernel_rfl) ?_; (repeat (go_big_quiet_step ((go_at_call 42; first | with_reducible exact onto_callS (impl_isDay_b Hs1.out _) | with_reducible exact onto_callS (impl_isDay_b Hs2.out _))))); refine onto_end ?_; intro w1 hx1)
              go_wp2_with fail
              · go_ret
                exact ⟨ret_bool (B_false (fun h => by have := ((h.2 j hlt).2 h0); omega)).symm, (by repeat (first | exact Ext.refl _ | assumption | refine Ext.alloc ?_ _ | refine Ext.drew ?_ | refine Ext.drewN ?_ _ | refine Ext.setCell ?_ (by first | (simp; done) | (simp; omega) | omega) _ | refine Ext.trans ?_ (by assumption)))⟩
              · go_roundg (l.length - (j + 1))
                case measure => omega
                case rel => exact ⟨j + 1, by omega, by go_num, (by repeat (first | exact Ext.refl _ | assumption | refine Ext.alloc ?_ _ | refine Ext.drew ?_ | refine Ext.drewN ?_ _ | refine Ext.setCell ?_ (by first | (simp; done) | (simp; omega) | omega) _ | refine Ext.trans ?_ (by assumption))), setOk_step Hok.out ⟨Hs.out, fun _ => by omega⟩⟩
            · have hb0 : decide ((0 : Int) < (j : Int)) = false := by simp; omega
              go_wp2_with fail
              (refine wp_region_onto prog_mixed (by kernel_rfl) ?_; (repeat (go_big_quiet_step ((go_at_call 42; first | with_reducible exact onto_callS (impl_isDay_b Hs1.out _) | with_reducible exact onto_callS (impl_isDay_b Hs2.out _))))); refine onto_end ?_; intro w1 hx1)
              go_wp2_with fail
              go_roundg (l.length - (j + 1))
              case measure => omega
              case rel => exact ⟨j + 1, by omega, by go_num, (by repeat (first | exact Ext.refl _ | assumption | refine Ext.alloc ?_ _ | refine Ext.drew ?_ | refine Ext.drewN ?_ _ | refine Ext.setCell ?_ (by first | (simp; done) | (simp; omega) | omega) _ | refine Ext.trans ?_ (by assumption))), setOk_step Hok.out ⟨Hs.out, fun h => absurd h h0⟩⟩
          · have hs3b : decide ((spAt l j).to < (spAt l j).fr) = true := by simp; omega
            have hn3 := Lib.hid hs3
            clear hs1 hs2 hs3
            go_wp2_with fail
            (refine wp_region_onto prog_mixed (by kernel_rfl) ?_; (repeat (go_big_quiet_step ((go_at_call 42; first | with_reducible exact onto_callS (impl_isDay_b Hs1.out _) | with_reducible exact onto_callS (impl_isDay_b Hs2.out _))))); refine onto_end ?_; intro w1 hx1)
            go_wp2_with fail
            go_ret
            exact ⟨ret_bool (B_false (fun h => by have h3 := (h.2 j hlt).1.2.2; have := hn3.out; omega)).symm, (by repeat (first | exact Ext.refl _ | assumption | refine Ext.alloc ?_ _ | refine Ext.drew ?_ | refine Ext.drewN ?_ _ | refine Ext.setCell ?_ (by first | (simp; done) | (simp; omega) | omega) _ | refine Ext.trans ?_ (by assumption)))⟩
        · have Hs2 := Lib.hid (B_false hs2)
          have hn3 := Lib.hid hs2
          clear hs1 hs2
          go_wp2_with fail
          (refine wp_region_onto prog_mixed (by kernel_rfl) ?_; (repeat (go_big_quiet_step ((go_at_call 42; first | with_reducible exact onto_callS (impl_isDay_b Hs1.out _) | with_reducible exact onto_callS (impl_isDay_b Hs2.out _))))); refine onto_end ?_; intro w1 hx1)
          go_wp2_with fail
          go_ret
          exact ⟨ret_bool (B_false (fun h => hn3.out (h.2 j hlt).1.2.1)).symm, (by repeat (first | exact Ext.refl _ | assumption | refine Ext.alloc ?_ _ | refine Ext.drew ?_ | refine Ext.drewN ?_ _ | refine Ext.setCell ?_ (by first | (simp; done) | (simp; omega) | omega) _ | refine Ext.trans ?_ (by assumption)))⟩
      · have Hs1 := Lib.hid (B_false hs1)
        have Hs2 := Hs1
        have hn3 := Lib.hid hs1
        clear hs1
        go_wp2_with fail
        (refine wp_region_onto prog_mixed (by kernel_rfl) ?_; (repeat (go_big_quiet_step ((go_at_call 42; first | with_reducible exact onto_callS (impl_isDay_b Hs1.out _) | with_reducible exact onto_callS (impl_isDay_b Hs2.out _))))); refine onto_end ?_; intro w1 hx1)
        go_wp2_with fail
        go_ret
        exact ⟨ret_bool (B_false (fun h => hn3.out (h.2 j hlt).1.1)).symm, (by repeat (first | exact Ext.refl _ | assumption | refine Ext.alloc ?_ _ | refine Ext.drew ?_ | refine Ext.drewN ?_ _ | refine Ext.setCell ?_ (by first | (simp; done) | (simp; omega) | omega) _ | refine Ext.trans ?_ (by assumption)))⟩
    · obtain rfl : j = l.length := by omega
      go_wp2_with fail
      go_ret
      refine ⟨ret_bool (B_eq ?_), (by repeat (first | exact Ext.refl _ | assumption | refine Ext.alloc ?_ _ | refine Ext.drew ?_ | refine Ext.drewN ?_ _ | refine Ext.setCell ?_ (by first | (simp; done) | (simp; omega) | omega) _ | refine Ext.trans ?_ (by assumption)))⟩
      simp only [decide_eq_true_eq]
      exact ⟨fun h => ⟨by omega, Hok.out⟩, fun h => by have := h.1; omega⟩

def SetsOk (l : List (List Sp)) : Prop := ∀ i, i < l.length → SetOk (setAt l i)
theorem sets_iff {l : List (List Sp)} : ¬ Some_ l.length (fun i => ¬ SetOk (setAt l i)) ↔ SetsOk l := by
  unfold Some_ SetsOk
  constructor
  · intro h i hi
    exact Classical.byContradiction fun hn => h ⟨i, hi, hn⟩
  · rintro h ⟨i, hi, hn⟩
    exact hn (h i hi)

end Go.Proofs.YtbddkmlfjghllaaGreatDoor

/- IsNetwork, the program's and the reference's. -/
namespace Go.Proofs.YtbddkmlfjghllaaGreatDoor
set_option linter.unusedVariables false
set_option linter.unusedSimpArgs false
open Go.RowKit
attribute [local go_sem] cell_onto

theorem netOk_step {P : Nat → Prop} {j : Nat} (h : ∀ i, i < j → P i) (h' : P j) : ∀ i, i < j + 1 → P i := by
  intro i hi
  by_cases e : i = j
  · rw [e]; exact h'
  · exact h i (by omega)

def LinksOk (l : List Lk) (n : Nat) : Prop := ∀ i, i < l.length → LkOk (lkAt l i) n
theorem links_iff {l : List Lk} {n : Nat} : ¬ Some_ l.length (fun i => ¬ LkOk (lkAt l i) n) ↔ LinksOk l n := by
  unfold Some_ LinksOk
  constructor
  · intro h i hi
    exact Classical.byContradiction fun hn => h ⟨i, hi, hn⟩
  · rintro h ⟨i, hi, hn⟩
    exact hn (h i hi)

end Go.Proofs.YtbddkmlfjghllaaGreatDoor
