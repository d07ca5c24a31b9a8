/- Contracts: lost days, choices. -/
import Derived.Test.YtkkomdghilmnaaaG
namespace Go.Proofs.Ytkkomdghilmnaaa
set_option linter.unusedVariables false
set_option linter.unusedSimpArgs false
open Go.RowKit
attribute [local go_sem] cell_onto

set_option maxHeartbeats 1000000 in
theorem spec_l19Count (s k : Value) (n : Net) (w : World) (h : NetIn w s k n) (hok : NetOk n) : Calls Try.prog 35 #[.agg #[s, k]] w (RetX (.int .i64 (netDays n.sets)) w) := by
  obtain ⟨A, c, rfl, hn, hc⟩ := h.1.len
  have H := Lib.hid h
  have Hok := Lib.hid hok
  have h8 := hok.1
  clear h hok
  go_enter Try.func35, Try.ntmps35
  go_wp2_with fail
  go_loopg [3, 4] n.sets.length (fun m t i wr => ∃ j : Nat, j + m = n.sets.length ∧ i = .int .i64 j ∧ t = .int .i64 (netDaysTo n.sets j) ∧ Ext w wr ∧ Boxed wr w.heap.size [.slice A n.sets.length c, k])
  case atStart => exact ⟨0, by omega, rfl, rfl, (by repeat (first | exact Ext.refl _ | assumption | refine Ext.alloc ?_ _ | refine Ext.drew ?_ | refine Ext.drewN ?_ _ | refine Ext.setCell ?_ (by first | (simp; done) | (simp; omega) | omega) _ | refine Ext.trans ?_ (by assumption))), Boxed.new w _ _⟩
  case round =>
    obtain ⟨j, hj, rfl, rfl, hx, hbb⟩ := hrel
    have hb := hbb; have hb0 := hb.at0; have hb1 := hb.at1; have hbg := hb.1; have Hhb := Lib.hid hb; clear hb
    clear hbb
    have hbd := netDaysTo_bd Hok.out j (by omega)
    by_cases hlt : j < n.sets.length
    · obtain ⟨b, off, u, rfl, _, hbl, h1, h2⟩ := (H.out.1.ext hx (Nat.le_refl _)).at_ hlt
      have H2 := Lib.hid (h2.mono (Nat.le_refl 0) hx.size)
      have hday := days_bd (Hok.out.2.2.1 j hlt)
      clear h2
      go_wp2_with fail
      refine Calls.mono (spec_l02Count u _ wr H2.out (Hok.out.2.2.1 j hlt)) ?_
      rintro e w1 ⟨rfl, hx1⟩
      go_wp2_with fail
      go_roundg (n.sets.length - (j + 1))
      case measure => omega
      case rel => exact ⟨j + 1, by omega, by go_num, by simp only [netDaysTo], (by repeat (first | exact Ext.refl _ | assumption | refine Ext.alloc ?_ _ | refine Ext.drew ?_ | refine Ext.drewN ?_ _ | refine Ext.setCell ?_ (by first | (simp; done) | (simp; omega) | omega) _ | refine Ext.trans ?_ (by assumption))), Hhb.out.ext hx1⟩
    · obtain rfl : j = n.sets.length := by omega
      go_wp2_with fail
      go_ret
      exact ⟨rfl, (by repeat (first | exact Ext.refl _ | assumption | refine Ext.alloc ?_ _ | refine Ext.drew ?_ | refine Ext.drewN ?_ _ | refine Ext.setCell ?_ (by first | (simp; done) | (simp; omega) | omega) _ | refine Ext.trans ?_ (by assumption)))⟩
end Go.Proofs.Ytkkomdghilmnaaa
