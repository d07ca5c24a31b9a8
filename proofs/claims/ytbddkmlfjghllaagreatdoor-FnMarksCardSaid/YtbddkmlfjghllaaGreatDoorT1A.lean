/- Texts merged (a claim holds at most sixty files): A, B, C, D, E, F, N, O. -/
import Derived.Test.YtbddkmlfjghllaaGreatDoorProg
import Derived.Test.YtbddkmlfjghllaaGreatDoorT1Lib
/- Contracts of the functions that only read: ranges, days, sets, links, networks. -/
namespace Go.Proofs.YtbddkmlfjghllaaGreatDoor
set_option linter.unusedVariables false
set_option linter.unusedSimpArgs false
open Go.RowKit
attribute [local go_sem] cell_onto

theorem prog_mixed : Tryz.prog.follows .mixedOrders = true := by kernel_rfl

set_option maxHeartbeats 400000 in
theorem impl_within (n lo hi : Int) (w : World) : Calls Tryz.prog 44 #[.int .i64 n, .int .i64 lo, .int .i64 hi] w (RetS (.bool (B (lo ≤ n ∧ n ≤ hi))) w) := by
  go_enter Tryz.func44, Tryz.ntmps44
  go_wp2
  all_goals (go_ret; refine ⟨ret_bool (B_eq ?_), rfl⟩; simp; omega)
set_option maxHeartbeats 400000 in
theorem spec_l01In (n lo hi : Int) (w : World) : Calls Tryz.prog 51 #[.int .i64 n, .int .i64 lo, .int .i64 hi] w (RetS (.bool (B (lo ≤ n ∧ n ≤ hi))) w) := by
  go_enter Tryz.func51, Tryz.ntmps51
  go_wp2
  all_goals (go_ret; refine ⟨ret_bool (B_eq ?_), rfl⟩; simp; omega)
set_option maxHeartbeats 400000 in
theorem impl_isDay (n : Int) (w : World) : Calls Tryz.prog 42 #[.int .i64 n] w (RetS (.bool (B (DayOk n))) w) := by
  go_enter Tryz.func42, Tryz.ntmps42
  go_wp2_with (go_at_call 44; refine (impl_within _ _ _ _).mono ?_; rintro e w' ⟨rfl, rfl⟩)
  go_ret
  exact ⟨rfl, rfl⟩
set_option maxHeartbeats 400000 in
theorem spec_l01Day (n : Int) (w : World) : Calls Tryz.prog 50 #[.int .i64 n] w (RetS (.bool (B (DayOk n))) w) := by
  go_enter Tryz.func50, Tryz.ntmps50
  go_wp2_with (go_at_call 51; refine (spec_l01In _ _ _ _).mono ?_; rintro e w' ⟨rfl, rfl⟩)
  go_ret
  exact ⟨rfl, rfl⟩

set_option maxHeartbeats 400000 in
theorem spec_l02Span (a b : Int) (w : World) : Calls Tryz.prog 156 #[.agg #[.int .i64 a, .int .i64 b]] w (RetX (.bool (B (SpOk ⟨a, b⟩))) w) := by
  go_enter Tryz.func156, Tryz.ntmps156
  go_wp2_with (go_at_call 50; refine (spec_l01Day _ _).mono ?_; rintro e w' ⟨rfl, rfl⟩)
  all_goals (go_ret; refine ⟨ret_bool (B_eq ?_), (by repeat (first | exact Ext.refl _ | assumption | refine Ext.alloc ?_ _ | refine Ext.drew ?_ | refine Ext.drewN ?_ _ | refine Ext.setCell ?_ (by first | (simp; done) | (simp; omega) | omega) _ | refine Ext.trans ?_ (by assumption)))⟩; (try simp only [Bool.and_eq_true, Bool.or_eq_true, B_iff, B_not, Bool.not_eq_true, Bool.not_eq_false', Bool.not_eq_true', Bool.not_not, decide_eq_true_eq, decide_eq_false_iff_not, Bool.true_eq_false, Bool.false_eq_true, iff_true, iff_false, true_iff, false_iff, beq_iff_eq, bne_iff_ne, ne_eq] at *); (try unfold SpOk DayOk at *); (try dsimp only at *); omega)

theorem setOk_step {l : List Sp} {j : Nat} (h : ∀ i, i < j → StepOk l i) (h' : StepOk l j) : ∀ i, i < j + 1 → StepOk l i := by
  intro i hi
  by_cases e : i = j
  · subst e; exact h'
  · exact h i (by omega)

end Go.Proofs.YtbddkmlfjghllaaGreatDoor

/- slices.IndexFunc and ContainsFunc over spans, sets, links, numbers: by the contract of the function value. -/
namespace Go.Proofs.YtbddkmlfjghllaaGreatDoor
set_option linter.unusedVariables false
set_option linter.unusedSimpArgs false
open Go.RowKit
attribute [local go_sem] cell_onto

/-- what IndexFunc returns: the first index of which p holds, or -1 -/
def RetIdx (n : Nat) (p : Nat → Prop) (w : World) (e : Ending) (w' : World) : Prop :=
  ∃ r : Int, e = .returned (.int .i64 r) ∧ Ext w w' ∧ ((r = -1 ∧ ∀ i, i < n → ¬ p i) ∨ (0 ≤ r ∧ ∃ i, i < n ∧ p i))
/-- what ContainsFunc asks -/
def Some_ (n : Nat) (p : Nat → Prop) : Prop := ∃ i, i < n ∧ p i

set_option maxHeartbeats 400000 in
theorem indexFunc_spans (v : Value) (l : List Sp) (g : Nat) (caps : Array Value) (p : Nat → Prop) (w : World) (h : Spans w 0 w.heap.size v l)
    (hg : ∀ (args : Array Value) (w : World), (callFunc g args).run Tryz.prog w = .ok (.enter g args) w)
    (hf : ∀ (i : Nat) (w' : World), i < l.length → Ext w w' → Calls Tryz.prog g (#[.agg #[.int .i64 (spAt l i).fr, .int .i64 (spAt l i).to]] ++ caps) w' (RetX (.bool (B (p i))) w')) :
    Calls Tryz.prog 160 #[v, .func (.func g) #[] caps] w (RetIdx l.length p w) := by
  obtain ⟨A, c, rfl, hn, hc⟩ := h.len
  have H := Lib.hid h
  have Hf := Lib.hid hf
  clear h hf
  go_enter Tryz.func160, Tryz.ntmps160
  go_wp2_with fail
  go_loopg [8] l.length (fun k i wr => ∃ j : Nat, j + k = l.length ∧ i = .int .i64 j ∧ Ext w wr ∧ ∀ i, i < j → ¬ p i)
  case atStart => exact ⟨0, by omega, rfl, Ext.refl _, fun i hi => absurd hi (by omega)⟩
  case round =>
    obtain ⟨j, hj, rfl, hx, hok⟩ := hrel
    have Hok := Lib.hid hok
    clear hok
    by_cases hlt : j < l.length
    · obtain ⟨b, off, rfl, _, hb, h1, h2⟩ := (H.out.ext hx (Nat.le_refl _)).at_ hlt
      go_wp2_with fail
      refine (Hf.out j wr hlt hx).mono ?_
      rintro e w1 ⟨rfl, hx1⟩
      go_wp2_with fail
      · go_ret
        exact ⟨j, rfl, (by repeat (first | exact Ext.refl _ | assumption | refine Ext.alloc ?_ _ | refine Ext.drew ?_ | refine Ext.drewN ?_ _ | refine Ext.setCell ?_ (by first | (simp; done) | (simp; omega) | omega) _ | refine Ext.trans ?_ (by assumption))), .inr ⟨by omega, j, hlt, B_iff.1 (by assumption)⟩⟩
      · go_roundg (l.length - (j + 1))
        case measure => omega
        case rel =>
          refine ⟨j + 1, by omega, by go_num, (by repeat (first | exact Ext.refl _ | assumption | refine Ext.alloc ?_ _ | refine Ext.drew ?_ | refine Ext.drewN ?_ _ | refine Ext.setCell ?_ (by first | (simp; done) | (simp; omega) | omega) _ | refine Ext.trans ?_ (by assumption))), fun i hi => ?_⟩
          by_cases e : i = j
          · rw [e]
            exact B_not.1 (by first | assumption | (simp only [← Bool.not_eq_true]; assumption))
          · exact Hok.out i (by omega)
    · obtain rfl : j = l.length := by omega
      go_wp2_with fail
      go_ret
      exact ⟨-1, rfl, (by repeat (first | exact Ext.refl _ | assumption | refine Ext.alloc ?_ _ | refine Ext.drew ?_ | refine Ext.drewN ?_ _ | refine Ext.setCell ?_ (by first | (simp; done) | (simp; omega) | omega) _ | refine Ext.trans ?_ (by assumption))), .inl ⟨rfl, Hok.out⟩⟩

set_option maxHeartbeats 400000 in
theorem containsFunc_spans (v : Value) (l : List Sp) (g : Nat) (caps : Array Value) (p : Nat → Prop) (w : World) (h : Spans w 0 w.heap.size v l)
    (hg : ∀ (args : Array Value) (w : World), (callFunc g args).run Tryz.prog w = .ok (.enter g args) w)
    (hf : ∀ (i : Nat) (w' : World), i < l.length → Ext w w' → Calls Tryz.prog g (#[.agg #[.int .i64 (spAt l i).fr, .int .i64 (spAt l i).to]] ++ caps) w' (RetX (.bool (B (p i))) w')) :
    Calls Tryz.prog 98 #[v, .func (.func g) #[] caps] w (RetX (.bool (B (Some_ l.length p))) w) := by
  have H := Lib.hid (indexFunc_spans v l g caps p w h hg hf)
  clear h hf hg
  go_enter Tryz.func98, Tryz.ntmps98
  go_wp2_with fail
  refine H.out.mono ?_
  rintro e w1 ⟨r, rfl, hx, hr⟩
  have Hr := Lib.hid hr
  clear hr
  go_wp2_with fail
  go_ret
  refine ⟨ret_bool (B_eq ?_), (by repeat (first | exact Ext.refl _ | assumption | refine Ext.alloc ?_ _ | refine Ext.drew ?_ | refine Ext.drewN ?_ _ | refine Ext.setCell ?_ (by first | (simp; done) | (simp; omega) | omega) _ | refine Ext.trans ?_ (by assumption)))⟩
  simp only [decide_eq_true_eq]
  constructor
  · intro h
    rcases Hr.out with ⟨h1, _⟩ | ⟨_, h2⟩
    · omega
    · exact h2
  · rintro ⟨i, h1, h2⟩
    rcases Hr.out with ⟨_, h3⟩ | ⟨h3, _⟩
    · exact absurd h2 (h3 i h1)
    · omega



end Go.Proofs.YtbddkmlfjghllaaGreatDoor

/- The program's IsSet and IsNetwork; the reference's IsNetwork. -/
namespace Go.Proofs.YtbddkmlfjghllaaGreatDoor
set_option linter.unusedVariables false
set_option linter.unusedSimpArgs false
open Go.RowKit
attribute [local go_sem] cell_onto

theorem impl_isDay_b {n : Int} {b : Bool} (hb : B (DayOk n) = b) (w : World) : Calls Tryz.prog 42 #[.int .i64 n] w (RetS (.bool b) w) := by
  subst hb; exact impl_isDay n w

set_option maxHeartbeats 1000000 in
theorem impl_IsSet (v : Value) (l : List Sp) (w : World) (h : Spans w 0 w.heap.size v l) : Calls Tryz.prog 57 #[v] w (RetX (.bool (B (SetOk l))) w) := by
  obtain ⟨A, c, rfl, hn, hc⟩ := h.len
  have H := Lib.hid h
  clear h
  go_enter Tryz.func57, Tryz.ntmps57
  go_wp2_with fail
  go_loopg [7] l.length (fun k i wr => ∃ j : Nat, j + k = l.length ∧ i = .int .i64 j ∧ Ext w wr ∧ ∀ i, i < j → StepOk l i)
  case atStart => exact ⟨0, by omega, rfl, Ext.refl _, fun i hi => absurd hi (by omega)⟩
  case round =>
    obtain ⟨j, hj, rfl, hx, hok⟩ := hrel
    have Hok := Lib.hid hok
    clear hok
    by_cases hlt : j < l.length
    · obtain ⟨b, off, rfl, _, hb, h1, h2⟩ := (H.out.ext hx (Nat.le_refl _)).at_ hlt
      have hbr : b < wr.heap.size := Nat.lt_of_lt_of_le hb hx.size
      have hbr1 : b < wr.heap.size + 1 := by omega
      by_cases hs1 : DayOk (spAt l j).fr
      · have Hs1 := Lib.hid (B_true hs1)
        by_cases hs2 : DayOk (spAt l j).to
        · have Hs2 := Lib.hid (B_true hs2)
          by_cases hs3 : (spAt l j).fr ≤ (spAt l j).to
          · have Hs := Lib.hid (show SpOk (spAt l j) from ⟨hs1, hs2, hs3⟩)
            unfold DayOk at hs1 hs2
            have hs3b : decide ((spAt l j).to < (spAt l j).fr) = false := by simp; omega
            obtain ⟨hs11, hs12⟩ := hs1
            obtain ⟨hs21, hs22⟩ := hs2
            by_cases h0 : 0 < j
            · have hb0 : decide ((0 : Int) < (j : Int)) = true := by simp; omega
              obtain ⟨b', off', e, _, _, _, h3⟩ := (H.out.ext hx (Nat.le_refl _)).at_ (i := j - 1) (by omega)
              injection e with e
              injection e with e1 e2
              subst e1 e2
              have hp := (Hok.out (j - 1) (by omega)).1.2.1
              unfold DayOk at hp
              obtain ⟨hp1, hp2⟩ := hp
              go_wp2_with fail
              (refine wp_region_onto prog_mixed (by kernel_rfl) ?_; (repeat (go_big_quiet_step ((go_at_call 42; first | with_reducible exact onto_callS (impl_isDay_b Hs1.out _) | with_reducible exact onto_callS (impl_isDay_b Hs2.out _))))); refine onto_end ?_; intro w1 hx1)
              go_wp2_with fail
              · go_ret
                exact ⟨ret_bool (B_false (fun h => by have := ((h.2 j hlt).2 h0); omega)).symm, (by repeat (first | exact Ext.refl _ | assumption | refine Ext.alloc ?_ _ | refine Ext.drew ?_ | refine Ext.drewN ?_ _ | refine Ext.setCell ?_ (by first | (simp; done) | (simp; omega) | omega) _ | refine Ext.trans ?_ (by assumption)))⟩
              · go_roundg (l.length - (j + 1))
                case measure => omega
                case rel => exact ⟨j + 1, by omega, by go_num, (by repeat (first | exact Ext.refl _ | assumption | refine Ext.alloc ?_ _ | refine Ext.drew ?_ | refine Ext.drewN ?_ _ | refine Ext.setCell ?_ (by first | (simp; done) | (simp; omega) | omega) _ | refine Ext.trans ?_ (by assumption))), setOk_step Hok.out ⟨Hs.out, fun _ => by omega⟩⟩
            · have hb0 : decide ((0 : Int) < (j : Int)) = false := by simp; omega
              go_wp2_with fail
              (refine wp_region_onto prog_mixed (by kernel_rfl) ?_; (repeat (go_big_quiet_step ((go_at_call 42; first | with_reducible exact onto_callS (impl_isDay_b Hs1.out _) | with_reducible exact onto_callS (impl_isDay_b Hs2.out _))))); refine onto_end ?_; intro w1 hx1)
              go_wp2_with fail
              go_roundg (l.length - (j + 1))
              case measure => omega
              case rel => exact ⟨j + 1, by omega, by go_num, (by repeat (first | exact Ext.refl _ | assumption | refine Ext.alloc ?_ _ | refine Ext.drew ?_ | refine Ext.drewN ?_ _ | refine Ext.setCell ?_ (by first | (simp; done) | (simp; omega) | omega) _ | refine Ext.trans ?_ (by assumption))), setOk_step Hok.out ⟨Hs.out, fun h => absurd h h0⟩⟩
          · have hs3b : decide ((spAt l j).to < (spAt l j).fr) = true := by simp; omega
            have hn3 := Lib.hid hs3
            clear hs1 hs2 hs3
            go_wp2_with fail
            (refine wp_region_onto prog_mixed (by kernel_rfl) ?_; (repeat (go_big_quiet_step ((go_at_call 42; first | with_reducible exact onto_callS (impl_isDay_b Hs1.out _) | with_reducible exact onto_callS (impl_isDay_b Hs2.out _))))); refine onto_end ?_; intro w1 hx1)
            go_wp2_with fail
            go_ret
            exact ⟨ret_bool (B_false (fun h => by have h3 := (h.2 j hlt).1.2.2; have := hn3.out; omega)).symm, (by repeat (first | exact Ext.refl _ | assumption | refine Ext.alloc ?_ _ | refine Ext.drew ?_ | refine Ext.drewN ?_ _ | refine Ext.setCell ?_ (by first | (simp; done) | (simp; omega) | omega) _ | refine Ext.trans ?_ (by assumption)))⟩
        · have Hs2 := Lib.hid (B_false hs2)
          have hn3 := Lib.hid hs2
          clear hs1 hs2
          go_wp2_with fail
          (refine wp_region_onto prog_mixed (by kernel_rfl) ?_; (repeat (go_big_quiet_step ((go_at_call 42; first | with_reducible exact onto_callS (impl_isDay_b Hs1.out _) | with_reducible exact onto_callS (impl_isDay_b Hs2.out _))))); refine onto_end ?_; intro w1 hx1)
          go_wp2_with fail
          go_ret
          exact ⟨ret_bool (B_false (fun h => hn3.out (h.2 j hlt).1.2.1)).symm, (by repeat (first | exact Ext.refl _ | assumption | refine Ext.alloc ?_ _ | refine Ext.drew ?_ | refine Ext.drewN ?_ _ | refine Ext.setCell ?_ (by first | (simp; done) | (simp; omega) | omega) _ | refine Ext.trans ?_ (by assumption)))⟩
      · have Hs1 := Lib.hid (B_false hs1)
        have Hs2 := Hs1
        have hn3 := Lib.hid hs1
        clear hs1
        go_wp2_with fail
        (refine wp_region_onto prog_mixed (by kernel_rfl) ?_; (repeat (go_big_quiet_step ((go_at_call 42; first | with_reducible exact onto_callS (impl_isDay_b Hs1.out _) | with_reducible exact onto_callS (impl_isDay_b Hs2.out _))))); refine onto_end ?_; intro w1 hx1)
        go_wp2_with fail
        go_ret
        exact ⟨ret_bool (B_false (fun h => hn3.out (h.2 j hlt).1.1)).symm, (by repeat (first | exact Ext.refl _ | assumption | refine Ext.alloc ?_ _ | refine Ext.drew ?_ | refine Ext.drewN ?_ _ | refine Ext.setCell ?_ (by first | (simp; done) | (simp; omega) | omega) _ | refine Ext.trans ?_ (by assumption)))⟩
    · obtain rfl : j = l.length := by omega
      go_wp2_with fail
      go_ret
      refine ⟨ret_bool (B_eq ?_), (by repeat (first | exact Ext.refl _ | assumption | refine Ext.alloc ?_ _ | refine Ext.drew ?_ | refine Ext.drewN ?_ _ | refine Ext.setCell ?_ (by first | (simp; done) | (simp; omega) | omega) _ | refine Ext.trans ?_ (by assumption)))⟩
      simp only [decide_eq_true_eq]
      exact ⟨fun h => ⟨by omega, Hok.out⟩, fun h => by have := h.1; omega⟩

def SetsOk (l : List (List Sp)) : Prop := ∀ i, i < l.length → SetOk (setAt l i)
theorem sets_iff {l : List (List Sp)} : ¬ Some_ l.length (fun i => ¬ SetOk (setAt l i)) ↔ SetsOk l := by
  unfold Some_ SetsOk
  constructor
  · intro h i hi
    exact Classical.byContradiction fun hn => h ⟨i, hi, hn⟩
  · rintro h ⟨i, hi, hn⟩
    exact hn (h i hi)

end Go.Proofs.YtbddkmlfjghllaaGreatDoor

/- IsNetwork, the program's and the reference's. -/
namespace Go.Proofs.YtbddkmlfjghllaaGreatDoor
set_option linter.unusedVariables false
set_option linter.unusedSimpArgs false
open Go.RowKit
attribute [local go_sem] cell_onto

theorem netOk_step {P : Nat → Prop} {j : Nat} (h : ∀ i, i < j → P i) (h' : P j) : ∀ i, i < j + 1 → P i := by
  intro i hi
  by_cases e : i = j
  · rw [e]; exact h'
  · exact h i (by omega)

def LinksOk (l : List Lk) (n : Nat) : Prop := ∀ i, i < l.length → LkOk (lkAt l i) n
theorem links_iff {l : List Lk} {n : Nat} : ¬ Some_ l.length (fun i => ¬ LkOk (lkAt l i) n) ↔ LinksOk l n := by
  unfold Some_ LinksOk
  constructor
  · intro h i hi
    exact Classical.byContradiction fun hn => h ⟨i, hi, hn⟩
  · rintro h ⟨i, hi, hn⟩
    exact hn (h i hi)

end Go.Proofs.YtbddkmlfjghllaaGreatDoor

/- The laws' own helpers for spans, links, numbers, networks: sz.. (a bound on the sizes), to.. (a copy in new memory), eq.. (equal data compare equal). -/
namespace Go.Proofs.YtbddkmlfjghllaaGreatDoor
set_option linter.unusedVariables false
set_option linter.unusedSimpArgs false
open Go.RowKit
attribute [local go_sem] cell_onto

/-- what sz.. returns: what is left; if anything is, P -/
def SzPost (left : Int) (p : Prop) (w : World) (e : Ending) (w' : World) : Prop := ∃ r : Int, e = .returned (.int .i64 r) ∧ Ext w w' ∧ -1 ≤ r ∧ r ≤ left ∧ (0 ≤ r → p)
/-- what to.. returns: a row in a new block -/
def NewRow (sz n : Nat) (f : Nat → Value) (w : World) (e : Ending) (w' : World) : Prop := ∃ v g, e = .returned v ∧ Ext w w' ∧ (0 < n → w.heap.size ≤ g) ∧ Own w' g sz v n f




/-- a network that the law's guard lets through -/
def Small (n : Net) : Prop := n.sets.length ≤ 1048576 ∧ n.links.length ≤ 1048576 ∧ ∀ i, i < n.sets.length → (setAt n.sets i).length ≤ 1048576


end Go.Proofs.YtbddkmlfjghllaaGreatDoor

/- The laws' own copies of slices (to..S) and comparisons (eq..). -/
namespace Go.Proofs.YtbddkmlfjghllaaGreatDoor
set_option linter.unusedVariables false
set_option linter.unusedSimpArgs false
open Go.RowKit
attribute [local go_sem] cell_onto




def NewSets (l : List (List Sp)) (w : World) (e : Ending) (w' : World) : Prop := ∃ v, e = .returned v ∧ Ext w w' ∧ OwnSets w' w.heap.size w'.heap.size v l
def NewNet (n : Net) (w : World) (e : Ending) (w' : World) : Prop := ∃ s k, e = .returned (.agg #[s, k]) ∧ Ext w w' ∧ OwnNet w' w.heap.size w'.heap.size (.agg #[s, k]) n







end Go.Proofs.YtbddkmlfjghllaaGreatDoor

/- The laws' own mark.. (writes consecutive numbers into all cells of a datum) and held.. (finds them there). -/
namespace Go.Proofs.YtbddkmlfjghllaaGreatDoor
set_option linter.unusedVariables false
set_option linter.unusedSimpArgs false
open Go.RowKit
attribute [local go_sem] cell_onto

def numCell (k : Int) (i : Nat) : Value := .int .i64 (k + i)
/-- what mark.. leaves of a row: its cells hold consecutive numbers; no other block has turned -/
def MarkPost (b sz : Nat) (v : Value) (n : Nat) (k : Int) (w : World) (e : Ending) (w' : World) : Prop := e = .returned (.int .i64 (k + n * sz)) ∧ Off (fun x => 0 < n ∧ x = b) w w' ∧ Own w' b sz v n (numCell k)






end Go.Proofs.YtbddkmlfjghllaaGreatDoor

/- The laws' own mark.. and held.. of slices of slices of spans, and of networks. -/
namespace Go.Proofs.YtbddkmlfjghllaaGreatDoor
set_option linter.unusedVariables false
set_option linter.unusedSimpArgs false
open Go.RowKit
attribute [local go_sem] cell_onto

/-- the cells of the first i sets -/
def preLen (l : List (List Sp)) : Nat → Nat
  | 0 => 0
  | i + 1 => preLen l i + (setAt l i).length * 2
theorem preLen_le (l : List (List Sp)) (h : ∀ i, i < l.length → (setAt l i).length ≤ 1048576) : ∀ i, i ≤ l.length → preLen l i ≤ i * 2097152
  | 0, _ => Nat.zero_le _
  | i + 1, hi => by
    have h1 := preLen_le l h i (by omega)
    have h2 := h i (by omega)
    unfold preLen
    omega
/-- sets whose cells hold consecutive numbers from k on -/
def MarkedSets (w : World) (lo hi : Nat) (v : Value) (l : List (List Sp)) (k : Int) : Prop :=
  ∃ f : Nat → Value, Row w lo hi 1 v l.length f ∧ ∀ i, i < l.length → Row w lo hi 2 (f i) (setAt l i).length (numCell (k + preLen l i))
def MarkedNet (w : World) (lo hi : Nat) (v : Value) (n : Net) (k : Int) : Prop :=
  ∃ s kk, v = .agg #[s, kk] ∧ MarkedSets w lo hi s n.sets k ∧ Row w lo hi 4 kk n.links.length (numCell (k + preLen n.sets n.sets.length))
/-- what mark.. leaves: cells in [lo, hi) turned, consecutive numbers stand in them (M), m is the next number -/
def MarkP (lo hi : Nat) (m : Int) (M : World → Prop) (w : World) (e : Ending) (w' : World) : Prop := e = .returned (.int .i64 m) ∧ Off (fun x => lo ≤ x ∧ x < hi) w w' ∧ M w'
/-- rows in memory of their own -/
def OwnInts (w : World) (lo hi : Nat) (v : Value) (l : List Int) : Prop := ∃ g, (0 < l.length → lo ≤ g ∧ g < hi) ∧ Own w g 1 v l.length (intCell l)
def OwnSpans (w : World) (lo hi : Nat) (v : Value) (l : List Sp) : Prop := ∃ g, (0 < l.length → lo ≤ g ∧ g < hi) ∧ Own w g 2 v l.length (spanCell l)
def MarkedInts (w : World) (lo hi : Nat) (v : Value) (l : List Int) (k : Int) : Prop := Row w lo hi 1 v l.length (numCell k)
def MarkedSpans (w : World) (lo hi : Nat) (v : Value) (l : List Sp) (k : Int) : Prop := Row w lo hi 2 v l.length (numCell k)
/-- a network's parts, read within [lo, hi) -/
def NetAt (w : World) (lo hi : Nat) (s k : Value) (n : Net) : Prop := Sets w lo hi s n.sets ∧ Links w lo hi k n.links
def netCells (n : Net) : Nat := preLen n.sets n.sets.length + n.links.length * 4
theorem netCells_le (n : Net) (h : Small n) : netCells n ≤ 2199027449856 := by
  have h1 := preLen_le n.sets h.2.2 _ (Nat.le_refl _)
  have h2 := h.1
  have h3 := h.2.1
  unfold netCells
  omega
section
variable {w w' : World} {lo hi lo' hi' : Nat} {v : Value} {k : Int}
theorem OwnInts.ext {l : List Int} (h : OwnInts w lo hi v l) (hx : Ext w w') (hh : hi ≤ w.heap.size) : OwnInts w' lo hi v l := by
  obtain ⟨g, h1, h2⟩ := h
  exact ⟨g, h1, h2.ext hx⟩
theorem OwnInts.off {S : Nat → Prop} {l : List Int} (h : OwnInts w lo hi v l) (hx : Off S w w') (hs : ∀ k, lo ≤ k → k < hi → ¬ S k) (hh : hi ≤ w.heap.size) : OwnInts w' lo hi v l := by
  obtain ⟨g, h1, h2⟩ := h
  exact ⟨g, h1, h2.off hx (fun hn => hs g (h1 hn).1 (h1 hn).2)⟩
theorem OwnInts.ints {l : List Int} (h : OwnInts w lo hi v l) : Ints w lo hi v l := by
  obtain ⟨g, h1, h2⟩ := h
  exact h2.row h1
theorem OwnInts.len {l : List Int} (h : OwnInts w lo hi v l) : ∃ A c, v = .slice A l.length c := by
  obtain ⟨g, h1, h2⟩ := h
  exact h2.len
theorem OwnSpans.ext {l : List Sp} (h : OwnSpans w lo hi v l) (hx : Ext w w') (hh : hi ≤ w.heap.size) : OwnSpans w' lo hi v l := by
  obtain ⟨g, h1, h2⟩ := h
  exact ⟨g, h1, h2.ext hx⟩
theorem OwnSpans.off {S : Nat → Prop} {l : List Sp} (h : OwnSpans w lo hi v l) (hx : Off S w w') (hs : ∀ k, lo ≤ k → k < hi → ¬ S k) (hh : hi ≤ w.heap.size) : OwnSpans w' lo hi v l := by
  obtain ⟨g, h1, h2⟩ := h
  exact ⟨g, h1, h2.off hx (fun hn => hs g (h1 hn).1 (h1 hn).2)⟩
theorem OwnSpans.spans {l : List Sp} (h : OwnSpans w lo hi v l) : Spans w lo hi v l := by
  obtain ⟨g, h1, h2⟩ := h
  exact h2.row h1
theorem OwnSpans.len {l : List Sp} (h : OwnSpans w lo hi v l) : ∃ A c, v = .slice A l.length c := by
  obtain ⟨g, h1, h2⟩ := h
  exact h2.len
theorem OwnNet.ext' {n : Net} (h : OwnNet w lo hi v n) (hx : Ext w w') (hh : hi ≤ w.heap.size) : OwnNet w' lo hi v n := h.ext hx
theorem OwnNet.off' {S : Nat → Prop} {n : Net} (h : OwnNet w lo hi v n) (hx : Off S w w') (hs : ∀ k, lo ≤ k → k < hi → ¬ S k) (hh : hi ≤ w.heap.size) : OwnNet w' lo hi v n := h.off hx hs
theorem NetAt.ext {s k : Value} {n : Net} (h : NetAt w lo hi s k n) (hx : Ext w w') (hh : hi ≤ w.heap.size) : NetAt w' lo hi s k n := ⟨h.1.ext hx hh, h.2.ext hx hh⟩
theorem NetAt.off {S : Nat → Prop} {s k : Value} {n : Net} (h : NetAt w lo hi s k n) (hx : Off S w w') (hs : ∀ k, lo ≤ k → k < hi → ¬ S k) (hh : hi ≤ w.heap.size) : NetAt w' lo hi s k n := ⟨h.1.off hx hs hh, Row.off h.2 hx hs hh⟩
theorem NetAt.up {s k : Value} {n : Net} (h : NetAt w lo hi s k n) (hh : hi ≤ w.heap.size) (hx : Ext w w') : NetIn w' s k n := NetIn.up ⟨h.1.mono (Nat.zero_le _) hh, h.2.mono (Nat.zero_le _) hh⟩ hx
theorem Ints.upAt {l : List Int} (h : Ints w lo hi v l) (hh : hi ≤ w.heap.size) (hx : Ext w w') : Ints w' 0 w'.heap.size v l := Ints.up (h.mono (Nat.zero_le _) hh) hx
theorem Spans.upAt {l : List Sp} (h : Spans w lo hi v l) (hh : hi ≤ w.heap.size) (hx : Ext w w') : Spans w' 0 w'.heap.size v l := Spans.up (h.mono (Nat.zero_le _) hh) hx
theorem OwnNet.at_ {s k : Value} {n : Net} (h : OwnNet w lo hi (.agg #[s, k]) n) : NetAt w lo hi s k n := by
  obtain ⟨s', k', e, h1, h2⟩ := h.net
  injection e with e
  injection e with e
  injection e with e1 e2
  injection e2 with e2 _
  subst e1 e2
  exact ⟨h1, h2⟩
theorem MarkedSets.ext {l : List (List Sp)} (h : MarkedSets w lo hi v l k) (hx : Ext w w') (hh : hi ≤ w.heap.size) : MarkedSets w' lo hi v l k := by
  obtain ⟨f, h1, h2⟩ := h
  exact ⟨f, h1.ext hx hh, fun i hi => (h2 i hi).ext hx hh⟩
theorem MarkedSets.off {S : Nat → Prop} {l : List (List Sp)} (h : MarkedSets w lo hi v l k) (hx : Off S w w') (hs : ∀ k, lo ≤ k → k < hi → ¬ S k) (hh : hi ≤ w.heap.size) : MarkedSets w' lo hi v l k := by
  obtain ⟨f, h1, h2⟩ := h
  exact ⟨f, h1.off hx hs hh, fun i hi => (h2 i hi).off hx hs hh⟩
theorem MarkedSets.mono {l : List (List Sp)} (h : MarkedSets w lo hi v l k) (h1 : lo' ≤ lo) (h2 : hi ≤ hi') : MarkedSets w lo' hi' v l k := by
  obtain ⟨f, h3, h4⟩ := h
  exact ⟨f, h3.mono h1 h2, fun i hi => (h4 i hi).mono h1 h2⟩
theorem MarkedNet.ext {n : Net} (h : MarkedNet w lo hi v n k) (hx : Ext w w') (hh : hi ≤ w.heap.size) : MarkedNet w' lo hi v n k := by
  obtain ⟨s, kk, e, h1, h2⟩ := h
  exact ⟨s, kk, e, h1.ext hx hh, h2.ext hx hh⟩
theorem MarkedNet.off {S : Nat → Prop} {n : Net} (h : MarkedNet w lo hi v n k) (hx : Off S w w') (hs : ∀ k, lo ≤ k → k < hi → ¬ S k) (hh : hi ≤ w.heap.size) : MarkedNet w' lo hi v n k := by
  obtain ⟨s, kk, e, h1, h2⟩ := h
  exact ⟨s, kk, e, h1.off hx hs hh, h2.off hx hs hh⟩
end





/-! ### mark.. and held.. of rows in memory of their own, said alike -/
end Go.Proofs.YtbddkmlfjghllaaGreatDoor
