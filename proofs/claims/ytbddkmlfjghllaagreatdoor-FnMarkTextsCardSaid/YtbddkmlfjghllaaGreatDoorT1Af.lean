/- Contracts: LongestUse, the program's and the reference's. (Printed by genAf.py.) -/
import Derived.Test.YtbddkmlfjghllaaGreatDoorT1Jc
import Derived.Test.YtbddkmlfjghllaaGreatDoorT1Aa
import Derived.Test.YtbddkmlfjghllaaGreatDoorT1Ke
import Derived.Deep.RegionLaw
import Derived.IntWalk
namespace Go.Proofs.YtbddkmlfjghllaaGreatDoor
set_option linter.unusedVariables false
set_option linter.unusedSimpArgs false
open Go.RowKit
attribute [local go_sem] cell_onto

set_option maxRecDepth 100000 in
set_option maxHeartbeats 4000000 in
theorem impl_LongestUse (v : Value) (l : List Nsp) (w : World) (h : Nsps w 0 w.heap.size v l) : Calls Tryz.prog 32 #[v] w (RetX (.tuple #[.int .i64 (lngV l), .int .i64 (lngE l)]) w) := by
  obtain ⟨A, c, rfl, hn, hc⟩ := h.len
  have H := Lib.hid h
  clear h
  go_enter Tryz.func32, Tryz.ntmps32
  go_wp2_with fail
  refine Calls.mono (impl_AreMarks _ l _ H.out) ?_
  rintro e w1 ⟨rfl, hx1⟩
  by_cases hok : MksOk l
  case neg =>
    obtain ⟨m1, m2⟩ := lng_no hok
    have Hm := Lib.hid (And.intro m1 m2)
    rw [B_false hok]
    clear m1 m2
    go_wp2_with fail
    go_ret2
    rw [Hm.out.1, Hm.out.2]
    exact ⟨rfl, (by repeat (first | exact Ext.refl _ | assumption | refine Ext.alloc ?_ _ | refine Ext.drew ?_ | refine Ext.drewN ?_ _ | refine Ext.setCell ?_ (by first | (simp; done) | (simp; omega) | omega) _ | refine Ext.trans ?_ (by assumption)))⟩
  rw [B_true hok]
  have Hok := Lib.hid hok
  have hl40 := hok.1
  by_cases h0 : l.length = 0
  · obtain ⟨m1, m2⟩ := lng_nil hok h0
    have Hm := Lib.hid (And.intro m1 m2)
    have h0i : (l.length : Int) = 0 := by omega
    have h0b : ((l.length : Int) == 0) = true := by simpa using h0i
    clear hok m1 m2
    go_wp2_with fail
    go_ret2
    rw [Hm.out.1, Hm.out.2]
    exact ⟨rfl, (by repeat (first | exact Ext.refl _ | assumption | refine Ext.alloc ?_ _ | refine Ext.drew ?_ | refine Ext.drewN ?_ _ | refine Ext.setCell ?_ (by first | (simp; done) | (simp; omega) | omega) _ | refine Ext.trans ?_ (by assumption)))⟩
  obtain ⟨m1, m2⟩ := lng_ok hok h0
  have Hm := Lib.hid (And.intro m1 m2)
  have h0i : ¬ (l.length : Int) = 0 := by omega
  have h0b : ((l.length : Int) == 0) = false := by simpa using h0i
  clear hok m1 m2
  go_wp2_with fail
  go_loopg [4, 5, 6, 17] l.length (fun q u4 u5 u6 i wr => ∃ j : Nat, j + q = l.length ∧ i = .int .i64 j ∧ u4 = .int .i64 (bestI l j) ∧ Ext w wr)
  case atStart => exact ⟨0, by omega, rfl, rfl, (by repeat (first | exact Ext.refl _ | assumption | refine Ext.alloc ?_ _ | refine Ext.drew ?_ | refine Ext.drewN ?_ _ | refine Ext.setCell ?_ (by first | (simp; done) | (simp; omega) | omega) _ | refine Ext.trans ?_ (by assumption)))⟩
  case round =>
    obtain ⟨j, hj, rfl, rfl, hx⟩ := hrel
    by_cases hlt : j < l.length
    · obtain ⟨b, off, rfl, _, hb, h1, h2, h3⟩ := (H.out.ext hx (Nat.le_refl _)).at_ hlt
      have hbr : b < wr.heap.size := Nat.lt_of_lt_of_le hb hx.size
      have hbl : bestI l j < l.length := by rcases bestI_lt l j with t | t <;> omega
      obtain ⟨b', off', e, _, _, k1, k2, k3⟩ := (H.out.ext hx (Nat.le_refl _)).at_ hbl
      injection e with e
      injection e with e1 e2
      subst e1 e2
      have Hyes := Lib.hid (fun h => bestI_yes (l := l) (k := j) h)
      have Hno := Lib.hid (fun h => bestI_no (l := l) (k := j) h)
      have hli : (bestI l j : Int) < (l.length : Int) := by omega
      have Hlg := Lib.hid (show Longer l j (bestI l j) ↔ (nspAt l (bestI l j)).to - (nspAt l (bestI l j)).fr < (nspAt l j).to - (nspAt l j).fr from Iff.rfl)
      obtain ⟨⟨_, ⟨f0, f1⟩, ⟨t0, t1⟩, _⟩, _⟩ := Hok.out.2 j hlt
      obtain ⟨⟨_, ⟨f0', f1'⟩, ⟨t0', t1'⟩, _⟩, _⟩ := Hok.out.2 (bestI l j) hbl
      generalize hq : bestI l j = p at *
      have Hq := Lib.hid hq
      clear hq
      have W1 : IntKind.i64.wrap ((nspAt l j).to - (nspAt l j).fr) = (nspAt l j).to - (nspAt l j).fr := IntWalk.i64_in _ (by omega)
      have W2 : IntKind.i64.wrap ((nspAt l p).to - (nspAt l p).fr) = (nspAt l p).to - (nspAt l p).fr := IntWalk.i64_in _ (by omega)
      by_cases hg : Longer l j p
      · have T1 : decide ((nspAt l p).to - (nspAt l p).fr < (nspAt l j).to - (nspAt l j).fr) = true := decide_eq_true (Hlg.out.1 hg)
        have He := Lib.hid (Hyes.out hg)
        clear hg Hyes Hno
        go_wp2_with fail
        (refine wp_region_onto prog_mixed (by kernel_rfl) ?_; (repeat (go_big_quiet_step ((fail)))); refine onto_end ?_; intro w2 hx2)
        go_wp2_with fail
        go_roundg (l.length - (j + 1))
        case measure => omega
        case rel => exact ⟨j + 1, by omega, by go_num, by rw [He.out], (by repeat (first | exact Ext.refl _ | assumption | refine Ext.alloc ?_ _ | refine Ext.drew ?_ | refine Ext.drewN ?_ _ | refine Ext.setCell ?_ (by first | (simp; done) | (simp; omega) | omega) _ | refine Ext.trans ?_ (by assumption)))⟩
      · have T1 : decide ((nspAt l p).to - (nspAt l p).fr < (nspAt l j).to - (nspAt l j).fr) = false := decide_eq_false (fun h => hg (Hlg.out.2 h))
        have He := Lib.hid (Hno.out hg)
        clear hg Hyes Hno
        go_wp2_with fail
        (refine wp_region_onto prog_mixed (by kernel_rfl) ?_; (repeat (go_big_quiet_step ((fail)))); refine onto_end ?_; intro w2 hx2)
        go_wp2_with fail
        go_roundg (l.length - (j + 1))
        case measure => omega
        case rel => exact ⟨j + 1, by omega, by go_num, by rw [He.out], (by repeat (first | exact Ext.refl _ | assumption | refine Ext.alloc ?_ _ | refine Ext.drew ?_ | refine Ext.drewN ?_ _ | refine Ext.setCell ?_ (by first | (simp; done) | (simp; omega) | omega) _ | refine Ext.trans ?_ (by assumption)))⟩
    · obtain rfl : j = l.length := by omega
      go_wp2_with fail
      go_ret2
      rw [Hm.out.1, Hm.out.2]
      exact ⟨rfl, (by repeat (first | exact Ext.refl _ | assumption | refine Ext.alloc ?_ _ | refine Ext.drew ?_ | refine Ext.drewN ?_ _ | refine Ext.setCell ?_ (by first | (simp; done) | (simp; omega) | omega) _ | refine Ext.trans ?_ (by assumption)))⟩
set_option maxRecDepth 100000 in
set_option maxHeartbeats 4000000 in
theorem spec_LongestUse (v : Value) (l : List Nsp) (w : World) (h : Nsps w 0 w.heap.size v l) (hsm : NSm l) : Calls Tryz.prog 33 #[v] w (RetX (.tuple #[.int .i64 (lngV l), .int .i64 (lngE l)]) w) := by
  obtain ⟨A, c, rfl, hn, hc⟩ := h.len
  have H := Lib.hid h
  clear h
  go_enter Tryz.func33, Tryz.ntmps33
  go_wp2_with fail
  refine Calls.mono (spec_AreMarks _ l _ H.out hsm) ?_
  rintro e w1 ⟨rfl, hx1⟩
  by_cases hok : MksOk l
  case neg =>
    obtain ⟨m1, m2⟩ := lng_no hok
    have Hm := Lib.hid (And.intro m1 m2)
    rw [B_false hok]
    clear m1 m2
    go_wp2_with fail
    go_ret2
    rw [Hm.out.1, Hm.out.2]
    exact ⟨rfl, (by repeat (first | exact Ext.refl _ | assumption | refine Ext.alloc ?_ _ | refine Ext.drew ?_ | refine Ext.drewN ?_ _ | refine Ext.setCell ?_ (by first | (simp; done) | (simp; omega) | omega) _ | refine Ext.trans ?_ (by assumption)))⟩
  rw [B_true hok]
  have Hok := Lib.hid hok
  have hl40 := hok.1
  by_cases h0 : l.length = 0
  · obtain ⟨m1, m2⟩ := lng_nil hok h0
    have Hm := Lib.hid (And.intro m1 m2)
    have h0i : (l.length : Int) = 0 := by omega
    have h0b : ((l.length : Int) == 0) = true := by simpa using h0i
    clear hok m1 m2
    go_wp2_with fail
    go_ret2
    rw [Hm.out.1, Hm.out.2]
    exact ⟨rfl, (by repeat (first | exact Ext.refl _ | assumption | refine Ext.alloc ?_ _ | refine Ext.drew ?_ | refine Ext.drewN ?_ _ | refine Ext.setCell ?_ (by first | (simp; done) | (simp; omega) | omega) _ | refine Ext.trans ?_ (by assumption)))⟩
  obtain ⟨m1, m2⟩ := lng_ok hok h0
  have Hm := Lib.hid (And.intro m1 m2)
  have h0i : ¬ (l.length : Int) = 0 := by omega
  have h0b : ((l.length : Int) == 0) = false := by simpa using h0i
  clear hok m1 m2
  go_wp2_with fail
  go_loopg [4, 5] l.length (fun q u4 i wr => ∃ j : Nat, j + q = l.length ∧ i = .int .i64 j ∧ u4 = .int .i64 (bestI l j) ∧ Ext w wr)
  case atStart => exact ⟨0, by omega, rfl, rfl, (by repeat (first | exact Ext.refl _ | assumption | refine Ext.alloc ?_ _ | refine Ext.drew ?_ | refine Ext.drewN ?_ _ | refine Ext.setCell ?_ (by first | (simp; done) | (simp; omega) | omega) _ | refine Ext.trans ?_ (by assumption)))⟩
  case round =>
    obtain ⟨j, hj, rfl, rfl, hx⟩ := hrel
    by_cases hlt : j < l.length
    · obtain ⟨b, off, rfl, _, hb, h1, h2, h3⟩ := (H.out.ext hx (Nat.le_refl _)).at_ hlt
      have hbr : b < wr.heap.size := Nat.lt_of_lt_of_le hb hx.size
      have hbl : bestI l j < l.length := by rcases bestI_lt l j with t | t <;> omega
      obtain ⟨b', off', e, _, _, k1, k2, k3⟩ := (H.out.ext hx (Nat.le_refl _)).at_ hbl
      injection e with e
      injection e with e1 e2
      subst e1 e2
      have Hyes := Lib.hid (fun h => bestI_yes (l := l) (k := j) h)
      have Hno := Lib.hid (fun h => bestI_no (l := l) (k := j) h)
      have hli : (bestI l j : Int) < (l.length : Int) := by omega
      have Hlg := Lib.hid (show Longer l j (bestI l j) ↔ (nspAt l (bestI l j)).to - (nspAt l (bestI l j)).fr < (nspAt l j).to - (nspAt l j).fr from Iff.rfl)
      obtain ⟨⟨_, ⟨f0, f1⟩, ⟨t0, t1⟩, _⟩, _⟩ := Hok.out.2 j hlt
      obtain ⟨⟨_, ⟨f0', f1'⟩, ⟨t0', t1'⟩, _⟩, _⟩ := Hok.out.2 (bestI l j) hbl
      generalize hq : bestI l j = p at *
      have Hq := Lib.hid hq
      clear hq
      have W1 : IntKind.i64.wrap ((nspAt l j).to - (nspAt l j).fr) = (nspAt l j).to - (nspAt l j).fr := IntWalk.i64_in _ (by omega)
      have W2 : IntKind.i64.wrap ((nspAt l p).to - (nspAt l p).fr) = (nspAt l p).to - (nspAt l p).fr := IntWalk.i64_in _ (by omega)
      by_cases hg : Longer l j p
      · have T1 : decide ((nspAt l p).to - (nspAt l p).fr < (nspAt l j).to - (nspAt l j).fr) = true := decide_eq_true (Hlg.out.1 hg)
        have He := Lib.hid (Hyes.out hg)
        clear hg Hyes Hno
        go_wp2_with fail
        (refine wp_region_onto prog_mixed (by kernel_rfl) ?_; (repeat (go_big_quiet_step ((fail)))); refine onto_end ?_; intro w2 hx2)
        go_wp2_with fail
        go_roundg (l.length - (j + 1))
        case measure => omega
        case rel => exact ⟨j + 1, by omega, by go_num, by rw [He.out], (by repeat (first | exact Ext.refl _ | assumption | refine Ext.alloc ?_ _ | refine Ext.drew ?_ | refine Ext.drewN ?_ _ | refine Ext.setCell ?_ (by first | (simp; done) | (simp; omega) | omega) _ | refine Ext.trans ?_ (by assumption)))⟩
      · have T1 : decide ((nspAt l p).to - (nspAt l p).fr < (nspAt l j).to - (nspAt l j).fr) = false := decide_eq_false (fun h => hg (Hlg.out.2 h))
        have He := Lib.hid (Hno.out hg)
        clear hg Hyes Hno
        go_wp2_with fail
        (refine wp_region_onto prog_mixed (by kernel_rfl) ?_; (repeat (go_big_quiet_step ((fail)))); refine onto_end ?_; intro w2 hx2)
        go_wp2_with fail
        go_roundg (l.length - (j + 1))
        case measure => omega
        case rel => exact ⟨j + 1, by omega, by go_num, by rw [He.out], (by repeat (first | exact Ext.refl _ | assumption | refine Ext.alloc ?_ _ | refine Ext.drew ?_ | refine Ext.drewN ?_ _ | refine Ext.setCell ?_ (by first | (simp; done) | (simp; omega) | omega) _ | refine Ext.trans ?_ (by assumption)))⟩
    · obtain rfl : j = l.length := by omega
      go_wp2_with fail
      go_ret2
      rw [Hm.out.1, Hm.out.2]
      exact ⟨rfl, (by repeat (first | exact Ext.refl _ | assumption | refine Ext.alloc ?_ _ | refine Ext.drew ?_ | refine Ext.drewN ?_ _ | refine Ext.setCell ?_ (by first | (simp; done) | (simp; omega) | omega) _ | refine Ext.trans ?_ (by assumption)))⟩
end Go.Proofs.YtbddkmlfjghllaaGreatDoor
