/- Contracts: lists of statements: Contains, Index, their checks. -/
import Derived.Test.YtmmokjnljaifcaaGreatDoorE1Sg
import Derived.Test.YtmmokjnljaifcaaGreatDoorE1G
namespace Go.Proofs.YtmmokjnljaifcaaGreatDoor
set_option linter.unusedVariables false
set_option linter.unusedSimpArgs false
open Go.RowKit
attribute [local go_sem] cell_onto


set_option maxHeartbeats 1000000 in
theorem spec_l01Has (v : Value) (l : List Int) (x : Int) (w : World) (h : Ints w 0 w.heap.size v l) : Calls Tryz.prog 71 #[v, .int .i64 x] w (RetX (.bool (B (HasI l x))) w) := by
  obtain ⟨A, c, rfl, hn, hc⟩ := h.len
  have H := Lib.hid h
  clear h
  go_enter Tryz.func71, Tryz.ntmps71
  go_wp2_with fail
  go_loopg [5] l.length (fun k i wr => ∃ j : Nat, j + k = l.length ∧ i = .int .i64 j ∧ Ext w wr ∧ ∀ i, i < j → ¬ inAt l i = x)
  case atStart => exact ⟨0, by omega, rfl, Ext.refl _, fun i hi => absurd hi (by omega)⟩
  case round =>
    obtain ⟨j, hj, rfl, hx, hok⟩ := hrel
    have Hok := Lib.hid hok
    clear hok
    by_cases hlt : j < l.length
    · obtain ⟨b, off, rfl, _, hb, h1⟩ := (H.out.ext hx (Nat.le_refl _)).at_ hlt
      by_cases e : inAt l j = x
      · have E := Lib.hid e
        have e1 : (inAt l j == x) = true := by simp [e]
        clear e
        go_wp2_with fail
        go_ret
        exact ⟨ret_bool (B_true ⟨j, hlt, E.out⟩).symm, (by repeat (first | exact Ext.refl _ | assumption | refine Ext.alloc ?_ _ | refine Ext.drew ?_ | refine Ext.drewN ?_ _ | refine Ext.setCell ?_ (by first | (simp; done) | (simp; omega) | omega) _ | refine Ext.trans ?_ (by assumption)))⟩
      · have E := Lib.hid e
        have e1 : (inAt l j == x) = false := by simp [e]
        clear e
        go_wp2_with fail
        go_roundg (l.length - (j + 1))
        case measure => omega
        case rel =>
          refine ⟨j + 1, by omega, by go_num, (by repeat (first | exact Ext.refl _ | assumption | refine Ext.alloc ?_ _ | refine Ext.drew ?_ | refine Ext.drewN ?_ _ | refine Ext.setCell ?_ (by first | (simp; done) | (simp; omega) | omega) _ | refine Ext.trans ?_ (by assumption))), fun i hi => ?_⟩
          by_cases e : i = j
          · rw [e]; exact E.out
          · exact Hok.out i (by omega)
    · obtain rfl : j = l.length := by omega
      go_wp2_with fail
      go_ret
      exact ⟨ret_bool (B_false (fun ⟨i, hi, he⟩ => Hok.out i hi he)).symm, (by repeat (first | exact Ext.refl _ | assumption | refine Ext.alloc ?_ _ | refine Ext.drew ?_ | refine Ext.drewN ?_ _ | refine Ext.setCell ?_ (by first | (simp; done) | (simp; omega) | omega) _ | refine Ext.trans ?_ (by assumption)))⟩

end Go.Proofs.YtmmokjnljaifcaaGreatDoor
