/- Contracts: the reference's l20Has. -/
import Derived.Test.YtfmnkojjkjkdeaaGreatDoorQ3Bd
import Derived.Test.YtfmnkojjkjkdeaaGreatDoorQ3Lc
import Derived.Test.YtfmnkojjkjkdeaaGreatDoorQ3K
import Derived.Test.YtfmnkojjkjkdeaaGreatDoorQ3Fs
import Derived.Test.YtfmnkojjkjkdeaaGreatDoorQ3Nt
import Derived.Deep.RegionLaw
namespace Go.Proofs.YtfmnkojjkjkdeaaGreatDoor
set_option linter.unusedVariables false
set_option linter.unusedSimpArgs false
open Go.RowKit
attribute [local go_sem] cell_onto

def NoSol (n : Net) (m : Nat) : Prop := ∀ i, i < m → ¬ ChOk n.links (chN n.sets i)
theorem NoSol.step {n : Net} {m : Nat} (h : NoSol n m) (h2 : ¬ ChOk n.links (chN n.sets m)) : NoSol n (m + 1) := by
  intro i hi
  by_cases e : i = m
  · subst e; exact h2
  · exact h i (by omega)
theorem NoSol.end_ {n : Net} (h : NoSol n (prodN n.sets)) : ¬ Sol n := fun hs => by
  obtain ⟨k, hk, h2⟩ := (sol_num n).1 hs
  exact h k hk h2
theorem Spans.of_owned {w : World} {b T : Nat} {v : Value} {l : List Sp} (h : w.ownsRow b T 2 v l.length (cellsOf (l.length * 2) (spanCell l))) : Spans w 0 w.heap.size v l := by
  obtain ⟨g, _, ho⟩ := Own.of_owned h
  exact ho.row (fun h0 => ⟨Nat.zero_le _, ho.lt h0⟩)
set_option maxHeartbeats 4000000 in
theorem spec_l20Has (s k : Value) (n : Net) (w : World) (h : NetIn w s k n) (hfit : NetFit n) (hfew : prodN n.sets ≤ 4096) : Calls Tryz.prog 134 #[.agg #[s, k]] w (RetX (.bool (B (Sol n))) w) := by
  have H := Lib.hid h
  have Hfit := Lib.hid hfit
  have Hc := Lib.hid (choN_small hfew)
  clear h hfit
  go_enter Tryz.func134, Tryz.ntmps134
  have nb := Boxed.new w [s, k] 27; have nb0 := nb.at0; have nb1 := nb.at1; have nbg := nb.1; have Hnb := Lib.hid nb; clear nb
  go_wp2_with fail
  go_loopg [3, 4, 5, 6] (prodN n.sets) (fun q i u4 u5 u6 wr => ∃ j : Nat, j + q = prodN n.sets ∧ i = .int .i64 j ∧ Ext w wr ∧ Boxed wr w.heap.size [s, k] ∧ Hid (NoSol n j))
  case atStart => exact ⟨0, by omega, rfl, (by repeat (first | exact Ext.refl _ | assumption | refine Ext.alloc ?_ _ | refine Ext.drew ?_ | refine Ext.drewN ?_ _ | refine Ext.setCell ?_ (by first | (simp; done) | (simp; omega) | omega) _ | refine Ext.trans ?_ (by assumption))), Hnb.out.ext (by repeat (first | exact Ext.refl _ | assumption | refine Ext.alloc ?_ _ | refine Ext.drew ?_ | refine Ext.drewN ?_ _ | refine Ext.setCell ?_ (by first | (simp; done) | (simp; omega) | omega) _ | refine Ext.trans ?_ (by assumption))), Lib.hid (fun i hi => absurd hi (by omega))⟩
  clear nb0 nb1 nbg Hnb
  case round =>
    obtain ⟨j, hj, rfl, hx, hnb, Hno⟩ := hrel
    have nb := hnb; have nb0 := nb.at0; have nb1 := nb.at1; have nbg := nb.1; have Hnb := Lib.hid nb; clear nb
    clear hnb
    go_wp2_with fail
    refine Calls.mono (spec_l20Count s k n wr (H.out.up hx) Hfit.out.fit) ?_
    rintro e w2 ⟨rfl, hx2⟩
    rw [Hc.out]
    have mb := Hnb.out.ext hx2; have mb0 := mb.at0; have mb1 := mb.at1; have mbg := mb.1; have Hmb := Lib.hid mb; clear mb
    have hxw2 : Ext w w2 := hx.trans hx2
    have Hn2 : Hid (Boxed w2 w.heap.size [s, k]) := Lib.hid Hmb.out
    clear nb0 nb1 nbg Hnb hx hx2
    by_cases hlt : j < prodN n.sets
    · have T1 : decide ((j : Int) < (prodN n.sets : Int)) = true := decide_eq_true (by omega)
      have Hch := Lib.hid (Hfit.out.ch (chN_isCh n.sets j hlt))
      have h8 := Hfit.out.s8
      have h21 := Hfit.out.k21
      go_wp2_with fail
      go_region_law (first
        | (go_simp; go_at_call 201; refine Calls.mono (spec_l20Choice s k n j _ (H.out.up (by repeat (first | exact Ext.refl _ | assumption | refine Ext.alloc ?_ _ | refine Ext.drew ?_ | refine Ext.drewN ?_ _ | refine Ext.setCell ?_ (by first | (simp; done) | (simp; omega) | omega) _ | refine Ext.trans ?_ (by assumption)))) hlt (by omega) h8 Hfit.out.fit) ?_; rintro e wc ⟨uv, rfl, hxc, huc⟩; have Huc := Lib.hid (Spans.of_owned huc); have hxwc : Ext w2 wc := (by repeat (first | exact Ext.refl _ | assumption | refine Ext.alloc ?_ _ | refine Ext.drew ?_ | refine Ext.drewN ?_ _ | refine Ext.setCell ?_ (by first | (simp; done) | (simp; omega) | omega) _ | refine Ext.trans ?_ (by assumption))); have cb := Hn2.out.ext hxwc; have cb0 := cb.at0; have cb1 := cb.at1; have cbg := cb.1; have Hcb := Lib.hid cb; clear cb; clear huc)
        | (go_simp; go_at_call 200; refine Calls.mono (spec_l20Bounds s k uv n (chN n.sets j) _ (H.out.up (by repeat (first | exact Ext.refl _ | assumption | refine Ext.alloc ?_ _ | refine Ext.drew ?_ | refine Ext.drewN ?_ _ | refine Ext.setCell ?_ (by first | (simp; done) | (simp; omega) | omega) _ | refine Ext.trans ?_ (by assumption)))) (Huc.out.up (by repeat (first | exact Ext.refl _ | assumption | refine Ext.alloc ?_ _ | refine Ext.drew ?_ | refine Ext.drewN ?_ _ | refine Ext.setCell ?_ (by first | (simp; done) | (simp; omega) | omega) _ | refine Ext.trans ?_ (by assumption)))) Hch.out.2.1 h21 Hch.out.2.2.1 Hch.out.2.2.2) ?_; rintro e w3 ⟨v1, v2, rfl, hxb, hbb⟩; clear hbb))
      all_goals
        by_cases hok : ChOk n.links (chN n.sets j)
        · have Hok := Lib.hid hok
          rw [B_true hok]
          clear hok
          go_wp2_with fail
          go_ret
          exact ⟨ret_bool (B_true ((sol_num n).2 ⟨j, hlt, Hok.out⟩)).symm, (by repeat (first | exact Ext.refl _ | assumption | refine Ext.alloc ?_ _ | refine Ext.drew ?_ | refine Ext.drewN ?_ _ | refine Ext.setCell ?_ (by first | (simp; done) | (simp; omega) | omega) _ | refine Ext.trans ?_ (by assumption)))⟩
        · have Hok := Lib.hid hok
          rw [B_false hok]
          clear hok
          have Hbx := Lib.hid ((Hn2.out.ext (show Ext w2 w3 from (by repeat (first | exact Ext.refl _ | assumption | refine Ext.alloc ?_ _ | refine Ext.drew ?_ | refine Ext.drewN ?_ _ | refine Ext.setCell ?_ (by first | (simp; done) | (simp; omega) | omega) _ | refine Ext.trans ?_ (by assumption))))))
          have hxw3 : Ext w w3 := (by repeat (first | exact Ext.refl _ | assumption | refine Ext.alloc ?_ _ | refine Ext.drew ?_ | refine Ext.drewN ?_ _ | refine Ext.setCell ?_ (by first | (simp; done) | (simp; omega) | omega) _ | refine Ext.trans ?_ (by assumption)))
          go_wp2_with fail
          go_roundg (prodN n.sets - (j + 1))
          case measure => omega
          case rel => exact ⟨j + 1, by omega, by go_num, (by repeat (first | exact Ext.refl _ | assumption | refine Ext.alloc ?_ _ | refine Ext.drew ?_ | refine Ext.drewN ?_ _ | refine Ext.setCell ?_ (by first | (simp; done) | (simp; omega) | omega) _ | refine Ext.trans ?_ (by assumption))), Hbx.out.ext (by repeat (first | exact Ext.refl _ | assumption | refine Ext.alloc ?_ _ | refine Ext.drew ?_ | refine Ext.drewN ?_ _ | refine Ext.setCell ?_ (by first | (simp; done) | (simp; omega) | omega) _ | refine Ext.trans ?_ (by assumption))), Lib.hid (Hno.out.step Hok.out)⟩
    · obtain rfl : j = prodN n.sets := by omega
      have T1 : decide (((prodN n.sets : Nat) : Int) < (prodN n.sets : Int)) = false := decide_eq_false (by omega)
      go_wp2_with fail
      go_ret
      exact ⟨ret_bool (B_false Hno.out.end_).symm, (by repeat (first | exact Ext.refl _ | assumption | refine Ext.alloc ?_ _ | refine Ext.drew ?_ | refine Ext.drewN ?_ _ | refine Ext.setCell ?_ (by first | (simp; done) | (simp; omega) | omega) _ | refine Ext.trans ?_ (by assumption)))⟩
end Go.Proofs.YtfmnkojjkjkdeaaGreatDoor
