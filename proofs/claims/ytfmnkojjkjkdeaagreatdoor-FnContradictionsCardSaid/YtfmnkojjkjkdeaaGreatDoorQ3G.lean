/- Texts merged (a claim holds at most sixty files): G, H, I, J. -/
import Derived.Test.YtfmnkojjkjkdeaaGreatDoorQ3E
import Derived.Test.YtfmnkojjkjkdeaaGreatDoorQ3Lib
/- Contracts: counts of statements, of days, of choices. -/
namespace Go.Proofs.YtfmnkojjkjkdeaaGreatDoor
set_option linter.unusedVariables false
set_option linter.unusedSimpArgs false
open Go.RowKit
attribute [local go_sem] cell_onto

set_option maxHeartbeats 400000 in
theorem impl_statementsOf (s k : Value) (n : Net) (w : World) (h : NetIn w s k n) (hok : n.sets.length ≤ 1048576 ∧ n.links.length ≤ 1048576) :
    Calls Tryz.prog 63 #[.agg #[s, k]] w (RetX (.int .i64 ((n.sets.length : Int) + n.links.length)) w) := by
  obtain ⟨A, c, rfl, hn, hc⟩ := h.1.len
  obtain ⟨A', c', rfl, hn', hc'⟩ := h.2.len
  obtain ⟨h1, h2⟩ := hok
  clear h
  go_enter Tryz.func63, Tryz.ntmps63
  go_wp2_with fail
  go_ret
  exact ⟨rfl, (by repeat (first | exact Ext.refl _ | assumption | refine Ext.alloc ?_ _ | refine Ext.drew ?_ | refine Ext.drewN ?_ _ | refine Ext.setCell ?_ (by first | (simp; done) | (simp; omega) | omega) _ | refine Ext.trans ?_ (by assumption)))⟩
set_option maxHeartbeats 400000 in
theorem spec_l21Count (s k : Value) (n : Net) (w : World) (h : NetIn w s k n) (hok : n.sets.length ≤ 1048576 ∧ n.links.length ≤ 1048576) :
    Calls Tryz.prog 65 #[.agg #[s, k]] w (RetX (.int .i64 ((n.sets.length : Int) + n.links.length)) w) := by
  obtain ⟨A, c, rfl, hn, hc⟩ := h.1.len
  obtain ⟨A', c', rfl, hn', hc'⟩ := h.2.len
  obtain ⟨h1, h2⟩ := hok
  clear h
  go_enter Tryz.func65, Tryz.ntmps65
  go_wp2_with fail
  go_ret
  exact ⟨rfl, (by repeat (first | exact Ext.refl _ | assumption | refine Ext.alloc ?_ _ | refine Ext.drew ?_ | refine Ext.drewN ?_ _ | refine Ext.setCell ?_ (by first | (simp; done) | (simp; omega) | omega) _ | refine Ext.trans ?_ (by assumption)))⟩

end Go.Proofs.YtfmnkojjkjkdeaaGreatDoor

/- Contracts: lost days, choices. -/
namespace Go.Proofs.YtfmnkojjkjkdeaaGreatDoor
set_option linter.unusedVariables false
set_option linter.unusedSimpArgs false
open Go.RowKit
attribute [local go_sem] cell_onto

end Go.Proofs.YtfmnkojjkjkdeaaGreatDoor

/- Contracts: the number of choices; days in sets; days for a network. -/
namespace Go.Proofs.YtfmnkojjkjkdeaaGreatDoor
set_option linter.unusedVariables false
set_option linter.unusedSimpArgs false
open Go.RowKit
attribute [local go_sem] cell_onto

def SetsFit (l : List (List Sp)) : Prop := ∀ i, i < l.length → (setAt l i).length ≤ 300
theorem SetsFit.of {n : Net} (h : NetOk n) : SetsFit n.sets := fun i hi => (h.2.2.1 i hi).1
theorem prod_fit {m : Int} (hm0 : 0 ≤ m) (hm : m ≤ 4096) {l : List (List Sp)} (hf : SetsFit l) {j : Nat} (hj : j < l.length) (h : ∀ i, i < j → (setAt l i).length ≠ 0) :
    0 ≤ prodTo m l j * ((setAt l j).length : Int) ∧ prodTo m l j * ((setAt l j).length : Int) ≤ 1229100 ∧ 1 ≤ prodTo m l j ∧ prodTo m l j ≤ 4097 := by
  have h1 := prodTo_bd hm0 j h
  have h2 : ((setAt l j).length : Int) ≤ 300 := by have := hf j hj; omega
  refine ⟨Int.mul_nonneg (by omega) (by omega), ?_, by omega, by omega⟩
  have := Int.mul_le_mul (a := prodTo m l j) (b := ((setAt l j).length : Int)) (c := 4097) (d := 300) (by omega) h2 (by omega) (by omega)
  omega

set_option maxHeartbeats 1000000 in
theorem spec_l20Count (s k : Value) (n : Net) (w : World) (h : NetIn w s k n) (hf : SetsFit n.sets) : Calls Tryz.prog 199 #[.agg #[s, k]] w (RetX (.int .i64 (choN 4096 n.sets)) w) := by
  obtain ⟨A, c, rfl, hn, hc⟩ := h.1.len
  have H := Lib.hid h
  have Hf := Lib.hid hf
  clear h hf
  go_enter Tryz.func199, Tryz.ntmps199
  go_wp2_with fail
  go_loopg [3, 4] n.sets.length (fun m t i wr => ∃ j : Nat, j + m = n.sets.length ∧ i = .int .i64 j ∧ t = .int .i64 (prodTo 4096 n.sets j) ∧ Ext w wr ∧ Boxed wr w.heap.size [.slice A n.sets.length c, k] ∧ ∀ i, i < j → (setAt n.sets i).length ≠ 0)
  case atStart => exact ⟨0, by omega, rfl, rfl, (by repeat (first | exact Ext.refl _ | assumption | refine Ext.alloc ?_ _ | refine Ext.drew ?_ | refine Ext.drewN ?_ _ | refine Ext.setCell ?_ (by first | (simp; done) | (simp; omega) | omega) _ | refine Ext.trans ?_ (by assumption))), Boxed.new w _ _, fun i hi => absurd hi (by omega)⟩
  case round =>
    obtain ⟨j, hj, rfl, rfl, hx, hbb, hne⟩ := hrel
    have hb := hbb; have hb0 := hb.at0; have hb1 := hb.at1; have hbg := hb.1; have Hhb := Lib.hid hb; clear hb
    have Hne := Lib.hid hne
    clear hbb hne
    by_cases hlt : j < n.sets.length
    · obtain ⟨b, off, u, rfl, _, hbl, h1, h2⟩ := (H.out.1.ext hx (Nat.le_refl _)).at_ hlt
      obtain ⟨A2, c2, rfl, hn2, hc2⟩ := h2.len
      obtain ⟨p1, p2, p3, p4⟩ := prod_fit (m := 4096) (by omega) (by omega) Hf.out hlt Hne.out
      clear h2
      by_cases h0 : (setAt n.sets j).length = 0
      · have hd : (((setAt n.sets j).length : Int) == 0) = true := by rw [beq_iff_eq]; omega
        have H0 := Lib.hid h0
        clear h0
        go_wp2_with fail
        go_ret
        exact ⟨by rw [choN_zero hlt H0.out]; rfl, (by repeat (first | exact Ext.refl _ | assumption | refine Ext.alloc ?_ _ | refine Ext.drew ?_ | refine Ext.drewN ?_ _ | refine Ext.setCell ?_ (by first | (simp; done) | (simp; omega) | omega) _ | refine Ext.trans ?_ (by assumption)))⟩
      · have hd : (((setAt n.sets j).length : Int) == 0) = false := beq_eq_false_iff_ne.2 (by omega)
        have H0 := Lib.hid h0
        clear h0
        go_wp2_with fail
        all_goals
          go_roundg (n.sets.length - (j + 1))
          case measure => omega
          case rel => exact ⟨j + 1, by omega, by go_num, by simp only [prodTo]; congr 1; omega, (by repeat (first | exact Ext.refl _ | assumption | refine Ext.alloc ?_ _ | refine Ext.drew ?_ | refine Ext.drewN ?_ _ | refine Ext.setCell ?_ (by first | (simp; done) | (simp; omega) | omega) _ | refine Ext.trans ?_ (by assumption))), Hhb.out, netOk_step (P := fun i => (setAt n.sets i).length ≠ 0) Hne.out H0.out⟩
    · obtain rfl : j = n.sets.length := by omega
      go_wp2_with fail
      go_ret
      exact ⟨by rw [choN_prod Hne.out]; rfl, (by repeat (first | exact Ext.refl _ | assumption | refine Ext.alloc ?_ _ | refine Ext.drew ?_ | refine Ext.drewN ?_ _ | refine Ext.setCell ?_ (by first | (simp; done) | (simp; omega) | omega) _ | refine Ext.trans ?_ (by assumption)))⟩
end Go.Proofs.YtfmnkojjkjkdeaaGreatDoor

/- Contracts: days in sets; days for a network; links that are broken; DoSolve. -/
namespace Go.Proofs.YtfmnkojjkjkdeaaGreatDoor
set_option linter.unusedVariables false
set_option linter.unusedSimpArgs false
open Go.RowKit
attribute [local go_sem] cell_onto

theorem impl_within_b {n lo hi : Int} {b : Bool} (hb : B (lo ≤ n ∧ n ≤ hi) = b) (w : World) : Calls Tryz.prog 68 #[.int .i64 n, .int .i64 lo, .int .i64 hi] w (RetS (.bool b) w) := by
  subst hb; exact impl_within n lo hi w
theorem spec_l01In_b {n lo hi : Int} {b : Bool} (hb : B (lo ≤ n ∧ n ≤ hi) = b) (w : World) : Calls Tryz.prog 71 #[.int .i64 n, .int .i64 lo, .int .i64 hi] w (RetS (.bool b) w) := by
  subst hb; exact spec_l01In n lo hi w
def DayIn (l : List Sp) (d : Int) (i : Nat) : Prop := (spAt l i).fr ≤ d ∧ d ≤ (spAt l i).to
theorem hasDay_iff {l : List Sp} {d : Int} : HasDay l d ↔ Some_ l.length (DayIn l d) := Iff.rfl

set_option maxHeartbeats 400000 in
theorem impl_hasDay_1 (a b d : Int) (g : Nat) (w : World) (h : w.cell? ⟨g, 0, none⟩ = some (.int .i64 d)) (hg : g < w.heap.size) :
    Calls Tryz.prog 156 #[.agg #[.int .i64 a, .int .i64 b], .pointer (some ⟨g, 0, none⟩)] w (RetX (.bool (B (a ≤ d ∧ d ≤ b))) w) := by
  go_enter Tryz.func156, Tryz.ntmps156
  go_wp2_with (go_at_call 68; refine (impl_within _ _ _ _).mono ?_; rintro e w1 ⟨rfl, rfl⟩)
  go_ret
  exact ⟨rfl, (by repeat (first | exact Ext.refl _ | assumption | refine Ext.alloc ?_ _ | refine Ext.drew ?_ | refine Ext.drewN ?_ _ | refine Ext.setCell ?_ (by first | (simp; done) | (simp; omega) | omega) _ | refine Ext.trans ?_ (by assumption)))⟩
set_option maxHeartbeats 400000 in
theorem impl_hasDay (v : Value) (l : List Sp) (d : Int) (w : World) (h : Spans w 0 w.heap.size v l) : Calls Tryz.prog 93 #[v, .int .i64 d] w (RetX (.bool (B (HasDay l d))) w) := by
  have H := Lib.hid h
  clear h
  go_enter Tryz.func93, Tryz.ntmps93
  go_wp2_with fail
  have hb := Boxed.new w [.int .i64 d] 2
  refine Calls.mono (containsFunc_spans v l 156 #[.pointer (some ⟨w.heap.size, 0, none⟩)] (DayIn l d) _ (H.out.up (by repeat (first | exact Ext.refl _ | assumption | refine Ext.alloc ?_ _ | refine Ext.drew ?_ | refine Ext.drewN ?_ _ | refine Ext.setCell ?_ (by first | (simp; done) | (simp; omega) | omega) _ | refine Ext.trans ?_ (by assumption)))) Tryz.call156
    (fun i w' _ hx => impl_hasDay_1 _ _ d _ w' (hb.ext hx).at0 (hb.ext hx).1)) ?_
  rintro e w1 ⟨rfl, hx1⟩
  clear hb
  go_wp2_with fail
  go_ret
  exact ⟨rfl, (by repeat (first | exact Ext.refl _ | assumption | refine Ext.alloc ?_ _ | refine Ext.drew ?_ | refine Ext.drewN ?_ _ | refine Ext.setCell ?_ (by first | (simp; done) | (simp; omega) | omega) _ | refine Ext.trans ?_ (by assumption)))⟩
theorem daysOk_iff {l : List Int} : ¬ Some_ l.length (fun i => ¬ DayOk (inAt l i)) ↔ DaysOk l := by
  unfold Some_ DaysOk
  constructor
  · intro h i hi
    exact Classical.byContradiction fun hn => h ⟨i, hi, hn⟩
  · rintro h ⟨i, hi, hn⟩
    exact hn (h i hi)
end Go.Proofs.YtfmnkojjkjkdeaaGreatDoor
