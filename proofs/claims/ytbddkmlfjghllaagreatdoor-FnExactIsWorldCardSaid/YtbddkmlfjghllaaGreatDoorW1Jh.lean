/- The laws' own helpers for structs of strings and numbers, and for strings. (Printed by genK2.py.) -/
import Derived.Test.YtbddkmlfjghllaaGreatDoorW1Jd
import Derived.Test.YtbddkmlfjghllaaGreatDoorW1E
import Derived.IntWalk
namespace Go.Proofs.YtbddkmlfjghllaaGreatDoor
set_option linter.unusedVariables false
set_option linter.unusedSimpArgs false
open Go.RowKit
attribute [local go_sem] cell_onto

set_option maxHeartbeats 1000000 in
theorem laws_toMark (nm : ByteArray) (fr : Int) (to : Int) (w : World) : Calls Tryz.prog 117 #[.agg #[.string nm, .int .i64 fr, .int .i64 to]] w (RetX (.agg #[.string nm, .int .i64 fr, .int .i64 to]) w) := by
  go_enter Tryz.func117, Tryz.ntmps117
  go_wp2_with fail
  refine bodyPost_ret (v := .agg #[.string nm, .int .i64 fr, .int .i64 to]) (by simp [results, Tryz.results117, go_sem]) rfl ⟨rfl, (by repeat (first | exact Ext.refl _ | assumption | refine Ext.alloc ?_ _ | refine Ext.drew ?_ | refine Ext.drewN ?_ _ | refine Ext.setCell ?_ (by first | (simp; done) | (simp; omega) | omega) _ | refine Ext.trans ?_ (by assumption)))⟩
set_option maxHeartbeats 1000000 in
theorem laws_eqMark (nm : ByteArray) (fr : Int) (to : Int) (w : World) : Calls Tryz.prog 129 #[.agg #[.string nm, .int .i64 fr, .int .i64 to], .agg #[.string nm, .int .i64 fr, .int .i64 to]] w (RetX (.bool true) w) := by
  have hs_nm := str_same nm
  go_enter Tryz.func129, Tryz.ntmps129
  go_wp2_with fail
  go_ret
  exact ⟨rfl, (by repeat (first | exact Ext.refl _ | assumption | refine Ext.alloc ?_ _ | refine Ext.drew ?_ | refine Ext.drewN ?_ _ | refine Ext.setCell ?_ (by first | (simp; done) | (simp; omega) | omega) _ | refine Ext.trans ?_ (by assumption)))⟩
set_option maxHeartbeats 1000000 in
theorem laws_szMark (nm : ByteArray) (fr : Int) (to : Int) (left : Int) (w : World) (hl : left ≤ 1048576) (h0 : 0 ≤ left) (hnm : nm.size ≤ 9223372036854775807) : Calls Tryz.prog 105 #[.agg #[.string nm, .int .i64 fr, .int .i64 to], .int .i64 left] w (SzPost left ((nm.size : Int) ≤ left) w) := by
  have W0 : IntKind.i64.wrap (left - (nm.size : Int)) = left - (nm.size : Int) := IntWalk.i64_in _ (by omega)
  by_cases c0 : left - (nm.size : Int) < 0
  case pos =>
    have d0 : decide (left - (nm.size : Int) < 0) = true := decide_eq_true c0
    go_enter Tryz.func105, Tryz.ntmps105
    go_wp2_with fail
    go_ret
    exact ⟨-1, rfl, (by repeat (first | exact Ext.refl _ | assumption | refine Ext.alloc ?_ _ | refine Ext.drew ?_ | refine Ext.drewN ?_ _ | refine Ext.setCell ?_ (by first | (simp; done) | (simp; omega) | omega) _ | refine Ext.trans ?_ (by assumption))), by omega, by omega, fun h => absurd h (by omega)⟩
  have d0 : decide (left - (nm.size : Int) < 0) = false := decide_eq_false c0
  go_enter Tryz.func105, Tryz.ntmps105
  go_wp2_with fail
  go_ret
  exact ⟨left - (nm.size : Int), rfl, (by repeat (first | exact Ext.refl _ | assumption | refine Ext.alloc ?_ _ | refine Ext.drew ?_ | refine Ext.drewN ?_ _ | refine Ext.setCell ?_ (by first | (simp; done) | (simp; omega) | omega) _ | refine Ext.trans ?_ (by assumption))), by omega, by omega, fun _ => by omega⟩
set_option maxRecDepth 100000 in
set_option maxHeartbeats 2000000 in
theorem laws_szMarkS (v : Value) (l : List Nsp) (left : Int) (w : World) (hl : left ≤ 1048576) (h0 : 0 ≤ left) (h : Nsps w 0 w.heap.size v l) (hz : ∀ i, i < l.length → (nspAt l i).nm.size ≤ 9223372036854775807) : Calls Tryz.prog 63 #[v, .int .i64 left] w (SzPost left ((l.length : Int) ≤ left ∧ ∀ i, i < l.length → ((nspAt l i).nm.size : Int) ≤ left) w) := by
  obtain ⟨A, c, rfl, hn, hc⟩ := h.len
  have H := Lib.hid h
  have Hz := Lib.hid hz
  clear h hz
  have W0 : IntKind.i64.wrap (left - (l.length : Int)) = left - (l.length : Int) := IntWalk.i64_in _ (by omega)
  go_enter Tryz.func63, Tryz.ntmps63
  by_cases c0 : left - (l.length : Int) < 0
  case pos =>
    have d0 : decide (left - (l.length : Int) < 0) = true := decide_eq_true c0
    go_wp2_with fail
    go_ret
    exact ⟨-1, rfl, (by repeat (first | exact Ext.refl _ | assumption | refine Ext.alloc ?_ _ | refine Ext.drew ?_ | refine Ext.drewN ?_ _ | refine Ext.setCell ?_ (by first | (simp; done) | (simp; omega) | omega) _ | refine Ext.trans ?_ (by assumption))), by omega, by omega, fun h => absurd h (by omega)⟩
  have d0 : decide (left - (l.length : Int) < 0) = false := decide_eq_false c0
  go_wp2_with fail
  go_loopg [1, 5] l.length (fun q t i wr => ∃ (j : Nat) (r : Int), j + q = l.length ∧ i = .int .i64 j ∧ t = .int .i64 r ∧ 0 ≤ r ∧ r ≤ left - (l.length : Int) ∧ Ext w wr ∧ ∀ i, i < j → ((nspAt l i).nm.size : Int) ≤ left)
  case atStart => exact ⟨0, _, by omega, rfl, rfl, by omega, by omega, (by repeat (first | exact Ext.refl _ | assumption | refine Ext.alloc ?_ _ | refine Ext.drew ?_ | refine Ext.drewN ?_ _ | refine Ext.setCell ?_ (by first | (simp; done) | (simp; omega) | omega) _ | refine Ext.trans ?_ (by assumption))), fun i hi => absurd hi (by omega)⟩
  case round =>
    obtain ⟨j, r, hj, rfl, rfl, hr0, hr1, hx, hok⟩ := hrel
    have Hok := Lib.hid hok
    clear hok
    by_cases hlt : j < l.length
    · obtain ⟨b, off, rfl, _, hb, h1, h2, h3⟩ := (H.out.ext hx (Nat.le_refl _)).at_ hlt
      have hbr : b < wr.heap.size := Nat.lt_of_lt_of_le hb hx.size
      have hsz := Hz.out j hlt
      go_wp2_with fail
      refine Calls.mono (laws_szMark _ _ _ r _ (by omega) hr0 hsz) ?_
      rintro e w1 ⟨r2, rfl, hx1, hra, hrb, hrc⟩
      have Hrc := Lib.hid hrc
      clear hrc
      by_cases cj : r2 < 0
      · have dj : decide (r2 < 0) = true := decide_eq_true cj
        go_wp2_with fail
        go_ret
        exact ⟨-1, rfl, (by repeat (first | exact Ext.refl _ | assumption | refine Ext.alloc ?_ _ | refine Ext.drew ?_ | refine Ext.drewN ?_ _ | refine Ext.setCell ?_ (by first | (simp; done) | (simp; omega) | omega) _ | refine Ext.trans ?_ (by assumption))), by omega, by omega, fun h => absurd h (by omega)⟩
      · have dj : decide (r2 < 0) = false := decide_eq_false cj
        go_wp2_with fail
        go_roundg (l.length - (j + 1))
        case measure => omega
        case rel =>
          refine ⟨j + 1, r2, by omega, by go_num, rfl, by omega, by omega, (by repeat (first | exact Ext.refl _ | assumption | refine Ext.alloc ?_ _ | refine Ext.drew ?_ | refine Ext.drewN ?_ _ | refine Ext.setCell ?_ (by first | (simp; done) | (simp; omega) | omega) _ | refine Ext.trans ?_ (by assumption))), fun i hi => ?_⟩
          by_cases e : i = j
          · subst e
            have := Hrc.out (by omega)
            omega
          · exact Hok.out i (by omega)
    · obtain rfl : j = l.length := by omega
      go_wp2_with fail
      go_ret
      exact ⟨r, rfl, (by repeat (first | exact Ext.refl _ | assumption | refine Ext.alloc ?_ _ | refine Ext.drew ?_ | refine Ext.drewN ?_ _ | refine Ext.setCell ?_ (by first | (simp; done) | (simp; omega) | omega) _ | refine Ext.trans ?_ (by assumption))), by omega, by omega, fun _ => ⟨by omega, Hok.out⟩⟩
set_option maxRecDepth 100000 in
set_option maxHeartbeats 2000000 in
theorem laws_toMarkS (v : Value) (l : List Nsp) (lo hi : Nat) (w : World) (h : Nsps w lo hi v l) (hh : hi ≤ w.heap.size) (hsm : l.length ≤ 1048576) :
    Calls Tryz.prog 71 #[v] w (NewRow 3 l.length (nspCell l) w) := by
  obtain ⟨A, c, rfl, hn, hc⟩ := h.len
  have H := Lib.hid h
  clear h
  go_enter Tryz.func71, Tryz.ntmps71
  go_wp2_with (at_make; refine wpList_make_blk _ rfl _ _ 24 rfl 88 3 32 Tryz.underlying24 (by kernel_rfl) l.length rfl rfl (by omega) (by unfold maxLen; omega) ?_; intro w0 f0 hx0 hb0)
  have Hb0 := Lib.hid hb0
  clear hb0
  go_wp2_with fail
  go_loopg [4] l.length (fun m i wr => ∃ (j : Nat) (f : Nat → Value), j + m = l.length ∧ i = .int .i64 j ∧ Ext w wr ∧ Blk wr w.heap.size (l.length * 3) f ∧ ∀ i, i < j * 3 → f i = nspCell l i)
  case atStart => exact ⟨0, f0, by omega, rfl, (by repeat (first | exact Ext.refl _ | assumption | refine Ext.alloc ?_ _ | refine Ext.drew ?_ | refine Ext.drewN ?_ _ | refine Ext.setCell ?_ (by first | (simp; done) | (simp; omega) | omega) _ | refine Ext.trans ?_ (by assumption))), Hb0.out, fun i hi => absurd hi (by omega)⟩
  case round =>
    obtain ⟨j, f, hj, rfl, hx, hbl, hok⟩ := hrel
    have Hok := Lib.hid hok
    clear hok
    have hbgr := hbl.1
    by_cases hlt : j < l.length
    · obtain ⟨b, off, rfl, _, hb, h1, h2, h3⟩ := (H.out.ext hx hh).at_ hlt
      have hbw : b < wr.heap.size := by have := hx.size; omega
      go_wp2_with fail
      refine (laws_toMark _ _ _ wr).mono ?_
      rintro e w1 ⟨rfl, hx1⟩
      have hc0 := (hbl.ext hx1).2 (j * 3) (by omega)
      have hc0a := hc0.1
      have hc0b := hc0.2
      have hc1 := (hbl.ext hx1).2 (j * 3 + 1) (by omega)
      have hc1a := hc1.1
      have hc1b := hc1.2
      have hc2 := (hbl.ext hx1).2 (j * 3 + 2) (by omega)
      have hc2a := hc2.1
      have hc2b := hc2.2
      have Hbl := Lib.hid (hbl.ext hx1)
      clear hbl
      have hbg := Hbl.out.1
      go_wp2_with fail
      go_roundg (l.length - (j + 1))
      case measure => omega
      case rel =>
        refine ⟨j + 1, _, by omega, by go_num, (by repeat (first | exact Ext.refl _ | assumption | refine Ext.alloc ?_ _ | refine Ext.drew ?_ | refine Ext.drewN ?_ _ | refine Ext.setCell ?_ (by first | (simp; done) | (simp; omega) | omega) _ | refine Ext.trans ?_ (by assumption))), (((Hbl.out.set (j * 3) (.string (nspAt l j).nm) (by omega)).set (j * 3 + 1) (.int .i64 (nspAt l j).fr) (by omega)).set (j * 3 + 2) (.int .i64 (nspAt l j).to) (by omega)), fun i hi => ?_⟩
        by_cases e2 : i = j * 3 + 2
        · subst e2; simp only [if_true]; exact (nspCell_2 l j).symm
        rw [if_neg e2]
        by_cases e1 : i = j * 3 + 1
        · subst e1; simp only [if_true]; exact (nspCell_1 l j).symm
        rw [if_neg e1]
        by_cases e0 : i = j * 3
        · subst e0; simp only [if_true]; exact (nspCell_0 l j).symm
        rw [if_neg e0]
        exact Hok.out i (by omega)
    · obtain rfl : j = l.length := by omega
      have Hbl := Lib.hid hbl
      clear hbl
      go_wp2_with fail
      go_ret
      exact ⟨_, w.heap.size, rfl, (by repeat (first | exact Ext.refl _ | assumption | refine Ext.alloc ?_ _ | refine Ext.drew ?_ | refine Ext.drewN ?_ _ | refine Ext.setCell ?_ (by first | (simp; done) | (simp; omega) | omega) _ | refine Ext.trans ?_ (by assumption))), fun _ => Nat.le_refl _, Hbl.out.own (Nat.le_refl _) (by unfold maxLen; omega) (Nat.le_refl _) Hok.out⟩
set_option maxHeartbeats 2000000 in
theorem laws_eqMarkS (v v' : Value) (l : List Nsp) (w : World) (h : Nsps w 0 w.heap.size v l) (h' : Nsps w 0 w.heap.size v' l) :
    Calls Tryz.prog 79 #[v, v'] w (RetX (.bool true) w) := by
  obtain ⟨A, c, rfl, hn, hc⟩ := h.len
  obtain ⟨A', c', rfl, _, hc'⟩ := h'.len
  have H := Lib.hid h
  have H' := Lib.hid h'
  clear h h'
  go_enter Tryz.func79, Tryz.ntmps79
  go_wp2_with fail
  go_loopg [5] l.length (fun k i wr => ∃ j : Nat, j + k = l.length ∧ i = .int .i64 j ∧ Ext w wr)
  case atStart => exact ⟨0, by omega, rfl, (by repeat (first | exact Ext.refl _ | assumption | refine Ext.alloc ?_ _ | refine Ext.drew ?_ | refine Ext.drewN ?_ _ | refine Ext.setCell ?_ (by first | (simp; done) | (simp; omega) | omega) _ | refine Ext.trans ?_ (by assumption)))⟩
  case round =>
    obtain ⟨j, hj, rfl, hx⟩ := hrel
    by_cases hlt : j < l.length
    · obtain ⟨b, off, rfl, _, hb, h1, h2, h3⟩ := (H.out.ext hx (Nat.le_refl _)).at_ hlt
      obtain ⟨b', off', rfl, _, hb', h1', h2', h3'⟩ := (H'.out.ext hx (Nat.le_refl _)).at_ hlt
      have hbr : b < wr.heap.size := Nat.lt_of_lt_of_le hb hx.size
      have hbr' : b' < wr.heap.size := Nat.lt_of_lt_of_le hb' hx.size
      go_wp2_with fail
      (refine wp_region_onto prog_mixed (by kernel_rfl) ?_; (repeat (go_big_quiet_step ((go_at_call 129; exact onto_callX (laws_eqMark _ _ _ _))))); refine onto_end ?_; intro w1 hx1)
      go_wp2_with fail
      go_roundg (l.length - (j + 1))
      case measure => omega
      case rel => exact ⟨j + 1, by omega, by go_num, (by repeat (first | exact Ext.refl _ | assumption | refine Ext.alloc ?_ _ | refine Ext.drew ?_ | refine Ext.drewN ?_ _ | refine Ext.setCell ?_ (by first | (simp; done) | (simp; omega) | omega) _ | refine Ext.trans ?_ (by assumption)))⟩
    · obtain rfl : j = l.length := by omega
      go_wp2_with fail
      go_ret
      exact ⟨rfl, (by repeat (first | exact Ext.refl _ | assumption | refine Ext.alloc ?_ _ | refine Ext.drew ?_ | refine Ext.drewN ?_ _ | refine Ext.setCell ?_ (by first | (simp; done) | (simp; omega) | omega) _ | refine Ext.trans ?_ (by assumption)))⟩
set_option maxHeartbeats 1000000 in
theorem laws_toReign (nm : ByteArray) (fr : Int) (to : Int) (w : World) : Calls Tryz.prog 166 #[.agg #[.string nm, .int .i64 fr, .int .i64 to]] w (RetX (.agg #[.string nm, .int .i64 fr, .int .i64 to]) w) := by
  go_enter Tryz.func166, Tryz.ntmps166
  go_wp2_with fail
  refine bodyPost_ret (v := .agg #[.string nm, .int .i64 fr, .int .i64 to]) (by simp [results, Tryz.results166, go_sem]) rfl ⟨rfl, (by repeat (first | exact Ext.refl _ | assumption | refine Ext.alloc ?_ _ | refine Ext.drew ?_ | refine Ext.drewN ?_ _ | refine Ext.setCell ?_ (by first | (simp; done) | (simp; omega) | omega) _ | refine Ext.trans ?_ (by assumption)))⟩
set_option maxHeartbeats 1000000 in
theorem laws_eqReign (nm : ByteArray) (fr : Int) (to : Int) (w : World) : Calls Tryz.prog 179 #[.agg #[.string nm, .int .i64 fr, .int .i64 to], .agg #[.string nm, .int .i64 fr, .int .i64 to]] w (RetX (.bool true) w) := by
  have hs_nm := str_same nm
  go_enter Tryz.func179, Tryz.ntmps179
  go_wp2_with fail
  go_ret
  exact ⟨rfl, (by repeat (first | exact Ext.refl _ | assumption | refine Ext.alloc ?_ _ | refine Ext.drew ?_ | refine Ext.drewN ?_ _ | refine Ext.setCell ?_ (by first | (simp; done) | (simp; omega) | omega) _ | refine Ext.trans ?_ (by assumption)))⟩
set_option maxHeartbeats 1000000 in
theorem laws_szReign (nm : ByteArray) (fr : Int) (to : Int) (left : Int) (w : World) (hl : left ≤ 1048576) (h0 : 0 ≤ left) (hnm : nm.size ≤ 9223372036854775807) : Calls Tryz.prog 161 #[.agg #[.string nm, .int .i64 fr, .int .i64 to], .int .i64 left] w (SzPost left ((nm.size : Int) ≤ left) w) := by
  have W0 : IntKind.i64.wrap (left - (nm.size : Int)) = left - (nm.size : Int) := IntWalk.i64_in _ (by omega)
  by_cases c0 : left - (nm.size : Int) < 0
  case pos =>
    have d0 : decide (left - (nm.size : Int) < 0) = true := decide_eq_true c0
    go_enter Tryz.func161, Tryz.ntmps161
    go_wp2_with fail
    go_ret
    exact ⟨-1, rfl, (by repeat (first | exact Ext.refl _ | assumption | refine Ext.alloc ?_ _ | refine Ext.drew ?_ | refine Ext.drewN ?_ _ | refine Ext.setCell ?_ (by first | (simp; done) | (simp; omega) | omega) _ | refine Ext.trans ?_ (by assumption))), by omega, by omega, fun h => absurd h (by omega)⟩
  have d0 : decide (left - (nm.size : Int) < 0) = false := decide_eq_false c0
  go_enter Tryz.func161, Tryz.ntmps161
  go_wp2_with fail
  go_ret
  exact ⟨left - (nm.size : Int), rfl, (by repeat (first | exact Ext.refl _ | assumption | refine Ext.alloc ?_ _ | refine Ext.drew ?_ | refine Ext.drewN ?_ _ | refine Ext.setCell ?_ (by first | (simp; done) | (simp; omega) | omega) _ | refine Ext.trans ?_ (by assumption))), by omega, by omega, fun _ => by omega⟩
set_option maxRecDepth 100000 in
set_option maxHeartbeats 2000000 in
theorem laws_szReignS (v : Value) (l : List Nsp) (left : Int) (w : World) (hl : left ≤ 1048576) (h0 : 0 ≤ left) (h : Nsps w 0 w.heap.size v l) (hz : ∀ i, i < l.length → (nspAt l i).nm.size ≤ 9223372036854775807) : Calls Tryz.prog 100 #[v, .int .i64 left] w (SzPost left ((l.length : Int) ≤ left ∧ ∀ i, i < l.length → ((nspAt l i).nm.size : Int) ≤ left) w) := by
  obtain ⟨A, c, rfl, hn, hc⟩ := h.len
  have H := Lib.hid h
  have Hz := Lib.hid hz
  clear h hz
  have W0 : IntKind.i64.wrap (left - (l.length : Int)) = left - (l.length : Int) := IntWalk.i64_in _ (by omega)
  go_enter Tryz.func100, Tryz.ntmps100
  by_cases c0 : left - (l.length : Int) < 0
  case pos =>
    have d0 : decide (left - (l.length : Int) < 0) = true := decide_eq_true c0
    go_wp2_with fail
    go_ret
    exact ⟨-1, rfl, (by repeat (first | exact Ext.refl _ | assumption | refine Ext.alloc ?_ _ | refine Ext.drew ?_ | refine Ext.drewN ?_ _ | refine Ext.setCell ?_ (by first | (simp; done) | (simp; omega) | omega) _ | refine Ext.trans ?_ (by assumption))), by omega, by omega, fun h => absurd h (by omega)⟩
  have d0 : decide (left - (l.length : Int) < 0) = false := decide_eq_false c0
  go_wp2_with fail
  go_loopg [1, 5] l.length (fun q t i wr => ∃ (j : Nat) (r : Int), j + q = l.length ∧ i = .int .i64 j ∧ t = .int .i64 r ∧ 0 ≤ r ∧ r ≤ left - (l.length : Int) ∧ Ext w wr ∧ ∀ i, i < j → ((nspAt l i).nm.size : Int) ≤ left)
  case atStart => exact ⟨0, _, by omega, rfl, rfl, by omega, by omega, (by repeat (first | exact Ext.refl _ | assumption | refine Ext.alloc ?_ _ | refine Ext.drew ?_ | refine Ext.drewN ?_ _ | refine Ext.setCell ?_ (by first | (simp; done) | (simp; omega) | omega) _ | refine Ext.trans ?_ (by assumption))), fun i hi => absurd hi (by omega)⟩
  case round =>
    obtain ⟨j, r, hj, rfl, rfl, hr0, hr1, hx, hok⟩ := hrel
    have Hok := Lib.hid hok
    clear hok
    by_cases hlt : j < l.length
    · obtain ⟨b, off, rfl, _, hb, h1, h2, h3⟩ := (H.out.ext hx (Nat.le_refl _)).at_ hlt
      have hbr : b < wr.heap.size := Nat.lt_of_lt_of_le hb hx.size
      have hsz := Hz.out j hlt
      go_wp2_with fail
      refine Calls.mono (laws_szReign _ _ _ r _ (by omega) hr0 hsz) ?_
      rintro e w1 ⟨r2, rfl, hx1, hra, hrb, hrc⟩
      have Hrc := Lib.hid hrc
      clear hrc
      by_cases cj : r2 < 0
      · have dj : decide (r2 < 0) = true := decide_eq_true cj
        go_wp2_with fail
        go_ret
        exact ⟨-1, rfl, (by repeat (first | exact Ext.refl _ | assumption | refine Ext.alloc ?_ _ | refine Ext.drew ?_ | refine Ext.drewN ?_ _ | refine Ext.setCell ?_ (by first | (simp; done) | (simp; omega) | omega) _ | refine Ext.trans ?_ (by assumption))), by omega, by omega, fun h => absurd h (by omega)⟩
      · have dj : decide (r2 < 0) = false := decide_eq_false cj
        go_wp2_with fail
        go_roundg (l.length - (j + 1))
        case measure => omega
        case rel =>
          refine ⟨j + 1, r2, by omega, by go_num, rfl, by omega, by omega, (by repeat (first | exact Ext.refl _ | assumption | refine Ext.alloc ?_ _ | refine Ext.drew ?_ | refine Ext.drewN ?_ _ | refine Ext.setCell ?_ (by first | (simp; done) | (simp; omega) | omega) _ | refine Ext.trans ?_ (by assumption))), fun i hi => ?_⟩
          by_cases e : i = j
          · subst e
            have := Hrc.out (by omega)
            omega
          · exact Hok.out i (by omega)
    · obtain rfl : j = l.length := by omega
      go_wp2_with fail
      go_ret
      exact ⟨r, rfl, (by repeat (first | exact Ext.refl _ | assumption | refine Ext.alloc ?_ _ | refine Ext.drew ?_ | refine Ext.drewN ?_ _ | refine Ext.setCell ?_ (by first | (simp; done) | (simp; omega) | omega) _ | refine Ext.trans ?_ (by assumption))), by omega, by omega, fun _ => ⟨by omega, Hok.out⟩⟩
set_option maxRecDepth 100000 in
set_option maxHeartbeats 2000000 in
theorem laws_toReignS (v : Value) (l : List Nsp) (lo hi : Nat) (w : World) (h : Nsps w lo hi v l) (hh : hi ≤ w.heap.size) (hsm : l.length ≤ 1048576) :
    Calls Tryz.prog 111 #[v] w (NewRow 3 l.length (nspCell l) w) := by
  obtain ⟨A, c, rfl, hn, hc⟩ := h.len
  have H := Lib.hid h
  clear h
  go_enter Tryz.func111, Tryz.ntmps111
  go_wp2_with (at_make; refine wpList_make_blk _ rfl _ _ 60 rfl 223 3 32 Tryz.underlying60 (by kernel_rfl) l.length rfl rfl (by omega) (by unfold maxLen; omega) ?_; intro w0 f0 hx0 hb0)
  have Hb0 := Lib.hid hb0
  clear hb0
  go_wp2_with fail
  go_loopg [4] l.length (fun m i wr => ∃ (j : Nat) (f : Nat → Value), j + m = l.length ∧ i = .int .i64 j ∧ Ext w wr ∧ Blk wr w.heap.size (l.length * 3) f ∧ ∀ i, i < j * 3 → f i = nspCell l i)
  case atStart => exact ⟨0, f0, by omega, rfl, (by repeat (first | exact Ext.refl _ | assumption | refine Ext.alloc ?_ _ | refine Ext.drew ?_ | refine Ext.drewN ?_ _ | refine Ext.setCell ?_ (by first | (simp; done) | (simp; omega) | omega) _ | refine Ext.trans ?_ (by assumption))), Hb0.out, fun i hi => absurd hi (by omega)⟩
  case round =>
    obtain ⟨j, f, hj, rfl, hx, hbl, hok⟩ := hrel
    have Hok := Lib.hid hok
    clear hok
    have hbgr := hbl.1
    by_cases hlt : j < l.length
    · obtain ⟨b, off, rfl, _, hb, h1, h2, h3⟩ := (H.out.ext hx hh).at_ hlt
      have hbw : b < wr.heap.size := by have := hx.size; omega
      go_wp2_with fail
      refine (laws_toReign _ _ _ wr).mono ?_
      rintro e w1 ⟨rfl, hx1⟩
      have hc0 := (hbl.ext hx1).2 (j * 3) (by omega)
      have hc0a := hc0.1
      have hc0b := hc0.2
      have hc1 := (hbl.ext hx1).2 (j * 3 + 1) (by omega)
      have hc1a := hc1.1
      have hc1b := hc1.2
      have hc2 := (hbl.ext hx1).2 (j * 3 + 2) (by omega)
      have hc2a := hc2.1
      have hc2b := hc2.2
      have Hbl := Lib.hid (hbl.ext hx1)
      clear hbl
      have hbg := Hbl.out.1
      go_wp2_with fail
      go_roundg (l.length - (j + 1))
      case measure => omega
      case rel =>
        refine ⟨j + 1, _, by omega, by go_num, (by repeat (first | exact Ext.refl _ | assumption | refine Ext.alloc ?_ _ | refine Ext.drew ?_ | refine Ext.drewN ?_ _ | refine Ext.setCell ?_ (by first | (simp; done) | (simp; omega) | omega) _ | refine Ext.trans ?_ (by assumption))), (((Hbl.out.set (j * 3) (.string (nspAt l j).nm) (by omega)).set (j * 3 + 1) (.int .i64 (nspAt l j).fr) (by omega)).set (j * 3 + 2) (.int .i64 (nspAt l j).to) (by omega)), fun i hi => ?_⟩
        by_cases e2 : i = j * 3 + 2
        · subst e2; simp only [if_true]; exact (nspCell_2 l j).symm
        rw [if_neg e2]
        by_cases e1 : i = j * 3 + 1
        · subst e1; simp only [if_true]; exact (nspCell_1 l j).symm
        rw [if_neg e1]
        by_cases e0 : i = j * 3
        · subst e0; simp only [if_true]; exact (nspCell_0 l j).symm
        rw [if_neg e0]
        exact Hok.out i (by omega)
    · obtain rfl : j = l.length := by omega
      have Hbl := Lib.hid hbl
      clear hbl
      go_wp2_with fail
      go_ret
      exact ⟨_, w.heap.size, rfl, (by repeat (first | exact Ext.refl _ | assumption | refine Ext.alloc ?_ _ | refine Ext.drew ?_ | refine Ext.drewN ?_ _ | refine Ext.setCell ?_ (by first | (simp; done) | (simp; omega) | omega) _ | refine Ext.trans ?_ (by assumption))), fun _ => Nat.le_refl _, Hbl.out.own (Nat.le_refl _) (by unfold maxLen; omega) (Nat.le_refl _) Hok.out⟩
set_option maxHeartbeats 2000000 in
theorem laws_eqReignS (v v' : Value) (l : List Nsp) (w : World) (h : Nsps w 0 w.heap.size v l) (h' : Nsps w 0 w.heap.size v' l) :
    Calls Tryz.prog 123 #[v, v'] w (RetX (.bool true) w) := by
  obtain ⟨A, c, rfl, hn, hc⟩ := h.len
  obtain ⟨A', c', rfl, _, hc'⟩ := h'.len
  have H := Lib.hid h
  have H' := Lib.hid h'
  clear h h'
  go_enter Tryz.func123, Tryz.ntmps123
  go_wp2_with fail
  go_loopg [5] l.length (fun k i wr => ∃ j : Nat, j + k = l.length ∧ i = .int .i64 j ∧ Ext w wr)
  case atStart => exact ⟨0, by omega, rfl, (by repeat (first | exact Ext.refl _ | assumption | refine Ext.alloc ?_ _ | refine Ext.drew ?_ | refine Ext.drewN ?_ _ | refine Ext.setCell ?_ (by first | (simp; done) | (simp; omega) | omega) _ | refine Ext.trans ?_ (by assumption)))⟩
  case round =>
    obtain ⟨j, hj, rfl, hx⟩ := hrel
    by_cases hlt : j < l.length
    · obtain ⟨b, off, rfl, _, hb, h1, h2, h3⟩ := (H.out.ext hx (Nat.le_refl _)).at_ hlt
      obtain ⟨b', off', rfl, _, hb', h1', h2', h3'⟩ := (H'.out.ext hx (Nat.le_refl _)).at_ hlt
      have hbr : b < wr.heap.size := Nat.lt_of_lt_of_le hb hx.size
      have hbr' : b' < wr.heap.size := Nat.lt_of_lt_of_le hb' hx.size
      go_wp2_with fail
      (refine wp_region_onto prog_mixed (by kernel_rfl) ?_; (repeat (go_big_quiet_step ((go_at_call 179; exact onto_callX (laws_eqReign _ _ _ _))))); refine onto_end ?_; intro w1 hx1)
      go_wp2_with fail
      go_roundg (l.length - (j + 1))
      case measure => omega
      case rel => exact ⟨j + 1, by omega, by go_num, (by repeat (first | exact Ext.refl _ | assumption | refine Ext.alloc ?_ _ | refine Ext.drew ?_ | refine Ext.drewN ?_ _ | refine Ext.setCell ?_ (by first | (simp; done) | (simp; omega) | omega) _ | refine Ext.trans ?_ (by assumption)))⟩
    · obtain rfl : j = l.length := by omega
      go_wp2_with fail
      go_ret
      exact ⟨rfl, (by repeat (first | exact Ext.refl _ | assumption | refine Ext.alloc ?_ _ | refine Ext.drew ?_ | refine Ext.drewN ?_ _ | refine Ext.setCell ?_ (by first | (simp; done) | (simp; omega) | omega) _ | refine Ext.trans ?_ (by assumption)))⟩
set_option maxHeartbeats 1000000 in
theorem laws_toPerson (nm : ByteArray) (fr : Int) (to : Int) (w : World) : Calls Tryz.prog 167 #[.agg #[.string nm, .int .i64 fr, .int .i64 to]] w (RetX (.agg #[.string nm, .int .i64 fr, .int .i64 to]) w) := by
  go_enter Tryz.func167, Tryz.ntmps167
  go_wp2_with fail
  refine bodyPost_ret (v := .agg #[.string nm, .int .i64 fr, .int .i64 to]) (by simp [results, Tryz.results167, go_sem]) rfl ⟨rfl, (by repeat (first | exact Ext.refl _ | assumption | refine Ext.alloc ?_ _ | refine Ext.drew ?_ | refine Ext.drewN ?_ _ | refine Ext.setCell ?_ (by first | (simp; done) | (simp; omega) | omega) _ | refine Ext.trans ?_ (by assumption)))⟩
set_option maxHeartbeats 1000000 in
theorem laws_eqPerson (nm : ByteArray) (fr : Int) (to : Int) (w : World) : Calls Tryz.prog 180 #[.agg #[.string nm, .int .i64 fr, .int .i64 to], .agg #[.string nm, .int .i64 fr, .int .i64 to]] w (RetX (.bool true) w) := by
  have hs_nm := str_same nm
  go_enter Tryz.func180, Tryz.ntmps180
  go_wp2_with fail
  go_ret
  exact ⟨rfl, (by repeat (first | exact Ext.refl _ | assumption | refine Ext.alloc ?_ _ | refine Ext.drew ?_ | refine Ext.drewN ?_ _ | refine Ext.setCell ?_ (by first | (simp; done) | (simp; omega) | omega) _ | refine Ext.trans ?_ (by assumption)))⟩
set_option maxHeartbeats 1000000 in
theorem laws_szPerson (nm : ByteArray) (fr : Int) (to : Int) (left : Int) (w : World) (hl : left ≤ 1048576) (h0 : 0 ≤ left) (hnm : nm.size ≤ 9223372036854775807) : Calls Tryz.prog 162 #[.agg #[.string nm, .int .i64 fr, .int .i64 to], .int .i64 left] w (SzPost left ((nm.size : Int) ≤ left) w) := by
  have W0 : IntKind.i64.wrap (left - (nm.size : Int)) = left - (nm.size : Int) := IntWalk.i64_in _ (by omega)
  by_cases c0 : left - (nm.size : Int) < 0
  case pos =>
    have d0 : decide (left - (nm.size : Int) < 0) = true := decide_eq_true c0
    go_enter Tryz.func162, Tryz.ntmps162
    go_wp2_with fail
    go_ret
    exact ⟨-1, rfl, (by repeat (first | exact Ext.refl _ | assumption | refine Ext.alloc ?_ _ | refine Ext.drew ?_ | refine Ext.drewN ?_ _ | refine Ext.setCell ?_ (by first | (simp; done) | (simp; omega) | omega) _ | refine Ext.trans ?_ (by assumption))), by omega, by omega, fun h => absurd h (by omega)⟩
  have d0 : decide (left - (nm.size : Int) < 0) = false := decide_eq_false c0
  go_enter Tryz.func162, Tryz.ntmps162
  go_wp2_with fail
  go_ret
  exact ⟨left - (nm.size : Int), rfl, (by repeat (first | exact Ext.refl _ | assumption | refine Ext.alloc ?_ _ | refine Ext.drew ?_ | refine Ext.drewN ?_ _ | refine Ext.setCell ?_ (by first | (simp; done) | (simp; omega) | omega) _ | refine Ext.trans ?_ (by assumption))), by omega, by omega, fun _ => by omega⟩
set_option maxRecDepth 100000 in
set_option maxHeartbeats 2000000 in
theorem laws_szPersonS (v : Value) (l : List Nsp) (left : Int) (w : World) (hl : left ≤ 1048576) (h0 : 0 ≤ left) (h : Nsps w 0 w.heap.size v l) (hz : ∀ i, i < l.length → (nspAt l i).nm.size ≤ 9223372036854775807) : Calls Tryz.prog 101 #[v, .int .i64 left] w (SzPost left ((l.length : Int) ≤ left ∧ ∀ i, i < l.length → ((nspAt l i).nm.size : Int) ≤ left) w) := by
  obtain ⟨A, c, rfl, hn, hc⟩ := h.len
  have H := Lib.hid h
  have Hz := Lib.hid hz
  clear h hz
  have W0 : IntKind.i64.wrap (left - (l.length : Int)) = left - (l.length : Int) := IntWalk.i64_in _ (by omega)
  go_enter Tryz.func101, Tryz.ntmps101
  by_cases c0 : left - (l.length : Int) < 0
  case pos =>
    have d0 : decide (left - (l.length : Int) < 0) = true := decide_eq_true c0
    go_wp2_with fail
    go_ret
    exact ⟨-1, rfl, (by repeat (first | exact Ext.refl _ | assumption | refine Ext.alloc ?_ _ | refine Ext.drew ?_ | refine Ext.drewN ?_ _ | refine Ext.setCell ?_ (by first | (simp; done) | (simp; omega) | omega) _ | refine Ext.trans ?_ (by assumption))), by omega, by omega, fun h => absurd h (by omega)⟩
  have d0 : decide (left - (l.length : Int) < 0) = false := decide_eq_false c0
  go_wp2_with fail
  go_loopg [1, 5] l.length (fun q t i wr => ∃ (j : Nat) (r : Int), j + q = l.length ∧ i = .int .i64 j ∧ t = .int .i64 r ∧ 0 ≤ r ∧ r ≤ left - (l.length : Int) ∧ Ext w wr ∧ ∀ i, i < j → ((nspAt l i).nm.size : Int) ≤ left)
  case atStart => exact ⟨0, _, by omega, rfl, rfl, by omega, by omega, (by repeat (first | exact Ext.refl _ | assumption | refine Ext.alloc ?_ _ | refine Ext.drew ?_ | refine Ext.drewN ?_ _ | refine Ext.setCell ?_ (by first | (simp; done) | (simp; omega) | omega) _ | refine Ext.trans ?_ (by assumption))), fun i hi => absurd hi (by omega)⟩
  case round =>
    obtain ⟨j, r, hj, rfl, rfl, hr0, hr1, hx, hok⟩ := hrel
    have Hok := Lib.hid hok
    clear hok
    by_cases hlt : j < l.length
    · obtain ⟨b, off, rfl, _, hb, h1, h2, h3⟩ := (H.out.ext hx (Nat.le_refl _)).at_ hlt
      have hbr : b < wr.heap.size := Nat.lt_of_lt_of_le hb hx.size
      have hsz := Hz.out j hlt
      go_wp2_with fail
      refine Calls.mono (laws_szPerson _ _ _ r _ (by omega) hr0 hsz) ?_
      rintro e w1 ⟨r2, rfl, hx1, hra, hrb, hrc⟩
      have Hrc := Lib.hid hrc
      clear hrc
      by_cases cj : r2 < 0
      · have dj : decide (r2 < 0) = true := decide_eq_true cj
        go_wp2_with fail
        go_ret
        exact ⟨-1, rfl, (by repeat (first | exact Ext.refl _ | assumption | refine Ext.alloc ?_ _ | refine Ext.drew ?_ | refine Ext.drewN ?_ _ | refine Ext.setCell ?_ (by first | (simp; done) | (simp; omega) | omega) _ | refine Ext.trans ?_ (by assumption))), by omega, by omega, fun h => absurd h (by omega)⟩
      · have dj : decide (r2 < 0) = false := decide_eq_false cj
        go_wp2_with fail
        go_roundg (l.length - (j + 1))
        case measure => omega
        case rel =>
          refine ⟨j + 1, r2, by omega, by go_num, rfl, by omega, by omega, (by repeat (first | exact Ext.refl _ | assumption | refine Ext.alloc ?_ _ | refine Ext.drew ?_ | refine Ext.drewN ?_ _ | refine Ext.setCell ?_ (by first | (simp; done) | (simp; omega) | omega) _ | refine Ext.trans ?_ (by assumption))), fun i hi => ?_⟩
          by_cases e : i = j
          · subst e
            have := Hrc.out (by omega)
            omega
          · exact Hok.out i (by omega)
    · obtain rfl : j = l.length := by omega
      go_wp2_with fail
      go_ret
      exact ⟨r, rfl, (by repeat (first | exact Ext.refl _ | assumption | refine Ext.alloc ?_ _ | refine Ext.drew ?_ | refine Ext.drewN ?_ _ | refine Ext.setCell ?_ (by first | (simp; done) | (simp; omega) | omega) _ | refine Ext.trans ?_ (by assumption))), by omega, by omega, fun _ => ⟨by omega, Hok.out⟩⟩
set_option maxRecDepth 100000 in
set_option maxHeartbeats 2000000 in
theorem laws_toPersonS (v : Value) (l : List Nsp) (lo hi : Nat) (w : World) (h : Nsps w lo hi v l) (hh : hi ≤ w.heap.size) (hsm : l.length ≤ 1048576) :
    Calls Tryz.prog 112 #[v] w (NewRow 3 l.length (nspCell l) w) := by
  obtain ⟨A, c, rfl, hn, hc⟩ := h.len
  have H := Lib.hid h
  clear h
  go_enter Tryz.func112, Tryz.ntmps112
  go_wp2_with (at_make; refine wpList_make_blk _ rfl _ _ 63 rfl 160 3 32 Tryz.underlying63 (by kernel_rfl) l.length rfl rfl (by omega) (by unfold maxLen; omega) ?_; intro w0 f0 hx0 hb0)
  have Hb0 := Lib.hid hb0
  clear hb0
  go_wp2_with fail
  go_loopg [4] l.length (fun m i wr => ∃ (j : Nat) (f : Nat → Value), j + m = l.length ∧ i = .int .i64 j ∧ Ext w wr ∧ Blk wr w.heap.size (l.length * 3) f ∧ ∀ i, i < j * 3 → f i = nspCell l i)
  case atStart => exact ⟨0, f0, by omega, rfl, (by repeat (first | exact Ext.refl _ | assumption | refine Ext.alloc ?_ _ | refine Ext.drew ?_ | refine Ext.drewN ?_ _ | refine Ext.setCell ?_ (by first | (simp; done) | (simp; omega) | omega) _ | refine Ext.trans ?_ (by assumption))), Hb0.out, fun i hi => absurd hi (by omega)⟩
  case round =>
    obtain ⟨j, f, hj, rfl, hx, hbl, hok⟩ := hrel
    have Hok := Lib.hid hok
    clear hok
    have hbgr := hbl.1
    by_cases hlt : j < l.length
    · obtain ⟨b, off, rfl, _, hb, h1, h2, h3⟩ := (H.out.ext hx hh).at_ hlt
      have hbw : b < wr.heap.size := by have := hx.size; omega
      go_wp2_with fail
      refine (laws_toPerson _ _ _ wr).mono ?_
      rintro e w1 ⟨rfl, hx1⟩
      have hc0 := (hbl.ext hx1).2 (j * 3) (by omega)
      have hc0a := hc0.1
      have hc0b := hc0.2
      have hc1 := (hbl.ext hx1).2 (j * 3 + 1) (by omega)
      have hc1a := hc1.1
      have hc1b := hc1.2
      have hc2 := (hbl.ext hx1).2 (j * 3 + 2) (by omega)
      have hc2a := hc2.1
      have hc2b := hc2.2
      have Hbl := Lib.hid (hbl.ext hx1)
      clear hbl
      have hbg := Hbl.out.1
      go_wp2_with fail
      go_roundg (l.length - (j + 1))
      case measure => omega
      case rel =>
        refine ⟨j + 1, _, by omega, by go_num, (by repeat (first | exact Ext.refl _ | assumption | refine Ext.alloc ?_ _ | refine Ext.drew ?_ | refine Ext.drewN ?_ _ | refine Ext.setCell ?_ (by first | (simp; done) | (simp; omega) | omega) _ | refine Ext.trans ?_ (by assumption))), (((Hbl.out.set (j * 3) (.string (nspAt l j).nm) (by omega)).set (j * 3 + 1) (.int .i64 (nspAt l j).fr) (by omega)).set (j * 3 + 2) (.int .i64 (nspAt l j).to) (by omega)), fun i hi => ?_⟩
        by_cases e2 : i = j * 3 + 2
        · subst e2; simp only [if_true]; exact (nspCell_2 l j).symm
        rw [if_neg e2]
        by_cases e1 : i = j * 3 + 1
        · subst e1; simp only [if_true]; exact (nspCell_1 l j).symm
        rw [if_neg e1]
        by_cases e0 : i = j * 3
        · subst e0; simp only [if_true]; exact (nspCell_0 l j).symm
        rw [if_neg e0]
        exact Hok.out i (by omega)
    · obtain rfl : j = l.length := by omega
      have Hbl := Lib.hid hbl
      clear hbl
      go_wp2_with fail
      go_ret
      exact ⟨_, w.heap.size, rfl, (by repeat (first | exact Ext.refl _ | assumption | refine Ext.alloc ?_ _ | refine Ext.drew ?_ | refine Ext.drewN ?_ _ | refine Ext.setCell ?_ (by first | (simp; done) | (simp; omega) | omega) _ | refine Ext.trans ?_ (by assumption))), fun _ => Nat.le_refl _, Hbl.out.own (Nat.le_refl _) (by unfold maxLen; omega) (Nat.le_refl _) Hok.out⟩
set_option maxHeartbeats 2000000 in
theorem laws_eqPersonS (v v' : Value) (l : List Nsp) (w : World) (h : Nsps w 0 w.heap.size v l) (h' : Nsps w 0 w.heap.size v' l) :
    Calls Tryz.prog 124 #[v, v'] w (RetX (.bool true) w) := by
  obtain ⟨A, c, rfl, hn, hc⟩ := h.len
  obtain ⟨A', c', rfl, _, hc'⟩ := h'.len
  have H := Lib.hid h
  have H' := Lib.hid h'
  clear h h'
  go_enter Tryz.func124, Tryz.ntmps124
  go_wp2_with fail
  go_loopg [5] l.length (fun k i wr => ∃ j : Nat, j + k = l.length ∧ i = .int .i64 j ∧ Ext w wr)
  case atStart => exact ⟨0, by omega, rfl, (by repeat (first | exact Ext.refl _ | assumption | refine Ext.alloc ?_ _ | refine Ext.drew ?_ | refine Ext.drewN ?_ _ | refine Ext.setCell ?_ (by first | (simp; done) | (simp; omega) | omega) _ | refine Ext.trans ?_ (by assumption)))⟩
  case round =>
    obtain ⟨j, hj, rfl, hx⟩ := hrel
    by_cases hlt : j < l.length
    · obtain ⟨b, off, rfl, _, hb, h1, h2, h3⟩ := (H.out.ext hx (Nat.le_refl _)).at_ hlt
      obtain ⟨b', off', rfl, _, hb', h1', h2', h3'⟩ := (H'.out.ext hx (Nat.le_refl _)).at_ hlt
      have hbr : b < wr.heap.size := Nat.lt_of_lt_of_le hb hx.size
      have hbr' : b' < wr.heap.size := Nat.lt_of_lt_of_le hb' hx.size
      go_wp2_with fail
      (refine wp_region_onto prog_mixed (by kernel_rfl) ?_; (repeat (go_big_quiet_step ((go_at_call 180; exact onto_callX (laws_eqPerson _ _ _ _))))); refine onto_end ?_; intro w1 hx1)
      go_wp2_with fail
      go_roundg (l.length - (j + 1))
      case measure => omega
      case rel => exact ⟨j + 1, by omega, by go_num, (by repeat (first | exact Ext.refl _ | assumption | refine Ext.alloc ?_ _ | refine Ext.drew ?_ | refine Ext.drewN ?_ _ | refine Ext.setCell ?_ (by first | (simp; done) | (simp; omega) | omega) _ | refine Ext.trans ?_ (by assumption)))⟩
    · obtain rfl : j = l.length := by omega
      go_wp2_with fail
      go_ret
      exact ⟨rfl, (by repeat (first | exact Ext.refl _ | assumption | refine Ext.alloc ?_ _ | refine Ext.drew ?_ | refine Ext.drewN ?_ _ | refine Ext.setCell ?_ (by first | (simp; done) | (simp; omega) | omega) _ | refine Ext.trans ?_ (by assumption)))⟩
set_option maxHeartbeats 1000000 in
theorem laws_toTerm (of : ByteArray) (pe : ByteArray) (fr : Int) (to : Int) (w : World) : Calls Tryz.prog 168 #[.agg #[.string of, .string pe, .int .i64 fr, .int .i64 to]] w (RetX (.agg #[.string of, .string pe, .int .i64 fr, .int .i64 to]) w) := by
  go_enter Tryz.func168, Tryz.ntmps168
  go_wp2_with fail
  refine bodyPost_ret (v := .agg #[.string of, .string pe, .int .i64 fr, .int .i64 to]) (by simp [results, Tryz.results168, go_sem]) rfl ⟨rfl, (by repeat (first | exact Ext.refl _ | assumption | refine Ext.alloc ?_ _ | refine Ext.drew ?_ | refine Ext.drewN ?_ _ | refine Ext.setCell ?_ (by first | (simp; done) | (simp; omega) | omega) _ | refine Ext.trans ?_ (by assumption)))⟩
set_option maxHeartbeats 1000000 in
theorem laws_eqTerm (of : ByteArray) (pe : ByteArray) (fr : Int) (to : Int) (w : World) : Calls Tryz.prog 181 #[.agg #[.string of, .string pe, .int .i64 fr, .int .i64 to], .agg #[.string of, .string pe, .int .i64 fr, .int .i64 to]] w (RetX (.bool true) w) := by
  have hs_of := str_same of
  have hs_pe := str_same pe
  go_enter Tryz.func181, Tryz.ntmps181
  go_wp2_with fail
  go_ret
  exact ⟨rfl, (by repeat (first | exact Ext.refl _ | assumption | refine Ext.alloc ?_ _ | refine Ext.drew ?_ | refine Ext.drewN ?_ _ | refine Ext.setCell ?_ (by first | (simp; done) | (simp; omega) | omega) _ | refine Ext.trans ?_ (by assumption)))⟩
set_option maxHeartbeats 1000000 in
theorem laws_szTerm (of : ByteArray) (pe : ByteArray) (fr : Int) (to : Int) (left : Int) (w : World) (hl : left ≤ 1048576) (h0 : 0 ≤ left) (hof : of.size ≤ 9223372036854775807) (hpe : pe.size ≤ 9223372036854775807) : Calls Tryz.prog 163 #[.agg #[.string of, .string pe, .int .i64 fr, .int .i64 to], .int .i64 left] w (SzPost left ((of.size : Int) ≤ left ∧ (pe.size : Int) ≤ left) w) := by
  have W0 : IntKind.i64.wrap (left - (of.size : Int)) = left - (of.size : Int) := IntWalk.i64_in _ (by omega)
  by_cases c0 : left - (of.size : Int) < 0
  case pos =>
    have d0 : decide (left - (of.size : Int) < 0) = true := decide_eq_true c0
    go_enter Tryz.func163, Tryz.ntmps163
    go_wp2_with fail
    go_ret
    exact ⟨-1, rfl, (by repeat (first | exact Ext.refl _ | assumption | refine Ext.alloc ?_ _ | refine Ext.drew ?_ | refine Ext.drewN ?_ _ | refine Ext.setCell ?_ (by first | (simp; done) | (simp; omega) | omega) _ | refine Ext.trans ?_ (by assumption))), by omega, by omega, fun h => absurd h (by omega)⟩
  have d0 : decide (left - (of.size : Int) < 0) = false := decide_eq_false c0
  have W1 : IntKind.i64.wrap (left - (of.size : Int) - (pe.size : Int)) = left - (of.size : Int) - (pe.size : Int) := IntWalk.i64_in _ (by omega)
  by_cases c1 : left - (of.size : Int) - (pe.size : Int) < 0
  case pos =>
    have d1 : decide (left - (of.size : Int) - (pe.size : Int) < 0) = true := decide_eq_true c1
    go_enter Tryz.func163, Tryz.ntmps163
    go_wp2_with fail
    go_ret
    exact ⟨-1, rfl, (by repeat (first | exact Ext.refl _ | assumption | refine Ext.alloc ?_ _ | refine Ext.drew ?_ | refine Ext.drewN ?_ _ | refine Ext.setCell ?_ (by first | (simp; done) | (simp; omega) | omega) _ | refine Ext.trans ?_ (by assumption))), by omega, by omega, fun h => absurd h (by omega)⟩
  have d1 : decide (left - (of.size : Int) - (pe.size : Int) < 0) = false := decide_eq_false c1
  go_enter Tryz.func163, Tryz.ntmps163
  go_wp2_with fail
  go_ret
  exact ⟨left - (of.size : Int) - (pe.size : Int), rfl, (by repeat (first | exact Ext.refl _ | assumption | refine Ext.alloc ?_ _ | refine Ext.drew ?_ | refine Ext.drewN ?_ _ | refine Ext.setCell ?_ (by first | (simp; done) | (simp; omega) | omega) _ | refine Ext.trans ?_ (by assumption))), by omega, by omega, fun _ => by omega⟩
set_option maxRecDepth 100000 in
set_option maxHeartbeats 2000000 in
theorem laws_szTermS (v : Value) (l : List Trm) (left : Int) (w : World) (hl : left ≤ 1048576) (h0 : 0 ≤ left) (h : Trms w 0 w.heap.size v l) (hz : ∀ i, i < l.length → (trmAt l i).of.size ≤ 9223372036854775807 ∧ (trmAt l i).pe.size ≤ 9223372036854775807) : Calls Tryz.prog 102 #[v, .int .i64 left] w (SzPost left ((l.length : Int) ≤ left ∧ ∀ i, i < l.length → ((trmAt l i).of.size : Int) ≤ left ∧ ((trmAt l i).pe.size : Int) ≤ left) w) := by
  obtain ⟨A, c, rfl, hn, hc⟩ := h.len
  have H := Lib.hid h
  have Hz := Lib.hid hz
  clear h hz
  have W0 : IntKind.i64.wrap (left - (l.length : Int)) = left - (l.length : Int) := IntWalk.i64_in _ (by omega)
  go_enter Tryz.func102, Tryz.ntmps102
  by_cases c0 : left - (l.length : Int) < 0
  case pos =>
    have d0 : decide (left - (l.length : Int) < 0) = true := decide_eq_true c0
    go_wp2_with fail
    go_ret
    exact ⟨-1, rfl, (by repeat (first | exact Ext.refl _ | assumption | refine Ext.alloc ?_ _ | refine Ext.drew ?_ | refine Ext.drewN ?_ _ | refine Ext.setCell ?_ (by first | (simp; done) | (simp; omega) | omega) _ | refine Ext.trans ?_ (by assumption))), by omega, by omega, fun h => absurd h (by omega)⟩
  have d0 : decide (left - (l.length : Int) < 0) = false := decide_eq_false c0
  go_wp2_with fail
  go_loopg [1, 5] l.length (fun q t i wr => ∃ (j : Nat) (r : Int), j + q = l.length ∧ i = .int .i64 j ∧ t = .int .i64 r ∧ 0 ≤ r ∧ r ≤ left - (l.length : Int) ∧ Ext w wr ∧ ∀ i, i < j → ((trmAt l i).of.size : Int) ≤ left ∧ ((trmAt l i).pe.size : Int) ≤ left)
  case atStart => exact ⟨0, _, by omega, rfl, rfl, by omega, by omega, (by repeat (first | exact Ext.refl _ | assumption | refine Ext.alloc ?_ _ | refine Ext.drew ?_ | refine Ext.drewN ?_ _ | refine Ext.setCell ?_ (by first | (simp; done) | (simp; omega) | omega) _ | refine Ext.trans ?_ (by assumption))), fun i hi => absurd hi (by omega)⟩
  case round =>
    obtain ⟨j, r, hj, rfl, rfl, hr0, hr1, hx, hok⟩ := hrel
    have Hok := Lib.hid hok
    clear hok
    by_cases hlt : j < l.length
    · obtain ⟨b, off, rfl, _, hb, h1, h2, h3, h4⟩ := (H.out.ext hx (Nat.le_refl _)).at_ hlt
      have hbr : b < wr.heap.size := Nat.lt_of_lt_of_le hb hx.size
      have hsz := Hz.out j hlt
      go_wp2_with fail
      refine Calls.mono (laws_szTerm _ _ _ _ r _ (by omega) hr0 hsz.1 hsz.2) ?_
      rintro e w1 ⟨r2, rfl, hx1, hra, hrb, hrc⟩
      have Hrc := Lib.hid hrc
      clear hrc
      by_cases cj : r2 < 0
      · have dj : decide (r2 < 0) = true := decide_eq_true cj
        go_wp2_with fail
        go_ret
        exact ⟨-1, rfl, (by repeat (first | exact Ext.refl _ | assumption | refine Ext.alloc ?_ _ | refine Ext.drew ?_ | refine Ext.drewN ?_ _ | refine Ext.setCell ?_ (by first | (simp; done) | (simp; omega) | omega) _ | refine Ext.trans ?_ (by assumption))), by omega, by omega, fun h => absurd h (by omega)⟩
      · have dj : decide (r2 < 0) = false := decide_eq_false cj
        go_wp2_with fail
        go_roundg (l.length - (j + 1))
        case measure => omega
        case rel =>
          refine ⟨j + 1, r2, by omega, by go_num, rfl, by omega, by omega, (by repeat (first | exact Ext.refl _ | assumption | refine Ext.alloc ?_ _ | refine Ext.drew ?_ | refine Ext.drewN ?_ _ | refine Ext.setCell ?_ (by first | (simp; done) | (simp; omega) | omega) _ | refine Ext.trans ?_ (by assumption))), fun i hi => ?_⟩
          by_cases e : i = j
          · subst e
            have := Hrc.out (by omega)
            omega
          · exact Hok.out i (by omega)
    · obtain rfl : j = l.length := by omega
      go_wp2_with fail
      go_ret
      exact ⟨r, rfl, (by repeat (first | exact Ext.refl _ | assumption | refine Ext.alloc ?_ _ | refine Ext.drew ?_ | refine Ext.drewN ?_ _ | refine Ext.setCell ?_ (by first | (simp; done) | (simp; omega) | omega) _ | refine Ext.trans ?_ (by assumption))), by omega, by omega, fun _ => ⟨by omega, Hok.out⟩⟩
set_option maxRecDepth 100000 in
set_option maxHeartbeats 2000000 in
theorem laws_toTermS (v : Value) (l : List Trm) (lo hi : Nat) (w : World) (h : Trms w lo hi v l) (hh : hi ≤ w.heap.size) (hsm : l.length ≤ 1048576) :
    Calls Tryz.prog 113 #[v] w (NewRow 4 l.length (trmCell l) w) := by
  obtain ⟨A, c, rfl, hn, hc⟩ := h.len
  have H := Lib.hid h
  clear h
  go_enter Tryz.func113, Tryz.ntmps113
  go_wp2_with (at_make; refine wpList_make_blk _ rfl _ _ 64 rfl 162 4 48 Tryz.underlying64 (by kernel_rfl) l.length rfl rfl (by omega) (by unfold maxLen; omega) ?_; intro w0 f0 hx0 hb0)
  have Hb0 := Lib.hid hb0
  clear hb0
  go_wp2_with fail
  go_loopg [4] l.length (fun m i wr => ∃ (j : Nat) (f : Nat → Value), j + m = l.length ∧ i = .int .i64 j ∧ Ext w wr ∧ Blk wr w.heap.size (l.length * 4) f ∧ ∀ i, i < j * 4 → f i = trmCell l i)
  case atStart => exact ⟨0, f0, by omega, rfl, (by repeat (first | exact Ext.refl _ | assumption | refine Ext.alloc ?_ _ | refine Ext.drew ?_ | refine Ext.drewN ?_ _ | refine Ext.setCell ?_ (by first | (simp; done) | (simp; omega) | omega) _ | refine Ext.trans ?_ (by assumption))), Hb0.out, fun i hi => absurd hi (by omega)⟩
  case round =>
    obtain ⟨j, f, hj, rfl, hx, hbl, hok⟩ := hrel
    have Hok := Lib.hid hok
    clear hok
    have hbgr := hbl.1
    by_cases hlt : j < l.length
    · obtain ⟨b, off, rfl, _, hb, h1, h2, h3, h4⟩ := (H.out.ext hx hh).at_ hlt
      have hbw : b < wr.heap.size := by have := hx.size; omega
      go_wp2_with fail
      refine (laws_toTerm _ _ _ _ wr).mono ?_
      rintro e w1 ⟨rfl, hx1⟩
      have hc0 := (hbl.ext hx1).2 (j * 4) (by omega)
      have hc0a := hc0.1
      have hc0b := hc0.2
      have hc1 := (hbl.ext hx1).2 (j * 4 + 1) (by omega)
      have hc1a := hc1.1
      have hc1b := hc1.2
      have hc2 := (hbl.ext hx1).2 (j * 4 + 2) (by omega)
      have hc2a := hc2.1
      have hc2b := hc2.2
      have hc3 := (hbl.ext hx1).2 (j * 4 + 3) (by omega)
      have hc3a := hc3.1
      have hc3b := hc3.2
      have Hbl := Lib.hid (hbl.ext hx1)
      clear hbl
      have hbg := Hbl.out.1
      go_wp2_with fail
      go_roundg (l.length - (j + 1))
      case measure => omega
      case rel =>
        refine ⟨j + 1, _, by omega, by go_num, (by repeat (first | exact Ext.refl _ | assumption | refine Ext.alloc ?_ _ | refine Ext.drew ?_ | refine Ext.drewN ?_ _ | refine Ext.setCell ?_ (by first | (simp; done) | (simp; omega) | omega) _ | refine Ext.trans ?_ (by assumption))), ((((Hbl.out.set (j * 4) (.string (trmAt l j).of) (by omega)).set (j * 4 + 1) (.string (trmAt l j).pe) (by omega)).set (j * 4 + 2) (.int .i64 (trmAt l j).fr) (by omega)).set (j * 4 + 3) (.int .i64 (trmAt l j).to) (by omega)), fun i hi => ?_⟩
        by_cases e3 : i = j * 4 + 3
        · subst e3; simp only [if_true]; exact (trmCell_3 l j).symm
        rw [if_neg e3]
        by_cases e2 : i = j * 4 + 2
        · subst e2; simp only [if_true]; exact (trmCell_2 l j).symm
        rw [if_neg e2]
        by_cases e1 : i = j * 4 + 1
        · subst e1; simp only [if_true]; exact (trmCell_1 l j).symm
        rw [if_neg e1]
        by_cases e0 : i = j * 4
        · subst e0; simp only [if_true]; exact (trmCell_0 l j).symm
        rw [if_neg e0]
        exact Hok.out i (by omega)
    · obtain rfl : j = l.length := by omega
      have Hbl := Lib.hid hbl
      clear hbl
      go_wp2_with fail
      go_ret
      exact ⟨_, w.heap.size, rfl, (by repeat (first | exact Ext.refl _ | assumption | refine Ext.alloc ?_ _ | refine Ext.drew ?_ | refine Ext.drewN ?_ _ | refine Ext.setCell ?_ (by first | (simp; done) | (simp; omega) | omega) _ | refine Ext.trans ?_ (by assumption))), fun _ => Nat.le_refl _, Hbl.out.own (Nat.le_refl _) (by unfold maxLen; omega) (Nat.le_refl _) Hok.out⟩
set_option maxHeartbeats 2000000 in
theorem laws_eqTermS (v v' : Value) (l : List Trm) (w : World) (h : Trms w 0 w.heap.size v l) (h' : Trms w 0 w.heap.size v' l) :
    Calls Tryz.prog 125 #[v, v'] w (RetX (.bool true) w) := by
  obtain ⟨A, c, rfl, hn, hc⟩ := h.len
  obtain ⟨A', c', rfl, _, hc'⟩ := h'.len
  have H := Lib.hid h
  have H' := Lib.hid h'
  clear h h'
  go_enter Tryz.func125, Tryz.ntmps125
  go_wp2_with fail
  go_loopg [5] l.length (fun k i wr => ∃ j : Nat, j + k = l.length ∧ i = .int .i64 j ∧ Ext w wr)
  case atStart => exact ⟨0, by omega, rfl, (by repeat (first | exact Ext.refl _ | assumption | refine Ext.alloc ?_ _ | refine Ext.drew ?_ | refine Ext.drewN ?_ _ | refine Ext.setCell ?_ (by first | (simp; done) | (simp; omega) | omega) _ | refine Ext.trans ?_ (by assumption)))⟩
  case round =>
    obtain ⟨j, hj, rfl, hx⟩ := hrel
    by_cases hlt : j < l.length
    · obtain ⟨b, off, rfl, _, hb, h1, h2, h3, h4⟩ := (H.out.ext hx (Nat.le_refl _)).at_ hlt
      obtain ⟨b', off', rfl, _, hb', h1', h2', h3', h4'⟩ := (H'.out.ext hx (Nat.le_refl _)).at_ hlt
      have hbr : b < wr.heap.size := Nat.lt_of_lt_of_le hb hx.size
      have hbr' : b' < wr.heap.size := Nat.lt_of_lt_of_le hb' hx.size
      go_wp2_with fail
      (refine wp_region_onto prog_mixed (by kernel_rfl) ?_; (repeat (go_big_quiet_step ((go_at_call 181; exact onto_callX (laws_eqTerm _ _ _ _ _))))); refine onto_end ?_; intro w1 hx1)
      go_wp2_with fail
      go_roundg (l.length - (j + 1))
      case measure => omega
      case rel => exact ⟨j + 1, by omega, by go_num, (by repeat (first | exact Ext.refl _ | assumption | refine Ext.alloc ?_ _ | refine Ext.drew ?_ | refine Ext.drewN ?_ _ | refine Ext.setCell ?_ (by first | (simp; done) | (simp; omega) | omega) _ | refine Ext.trans ?_ (by assumption)))⟩
    · obtain rfl : j = l.length := by omega
      go_wp2_with fail
      go_ret
      exact ⟨rfl, (by repeat (first | exact Ext.refl _ | assumption | refine Ext.alloc ?_ _ | refine Ext.drew ?_ | refine Ext.drewN ?_ _ | refine Ext.setCell ?_ (by first | (simp; done) | (simp; omega) | omega) _ | refine Ext.trans ?_ (by assumption)))⟩
set_option maxHeartbeats 1000000 in
theorem laws_toWay (a : Int) (b : Int) (d : Int) (w : World) : Calls Tryz.prog 169 #[.agg #[.int .i64 a, .int .i64 b, .int .i64 d]] w (RetX (.agg #[.int .i64 a, .int .i64 b, .int .i64 d]) w) := by
  go_enter Tryz.func169, Tryz.ntmps169
  go_wp2_with fail
  refine bodyPost_ret (v := .agg #[.int .i64 a, .int .i64 b, .int .i64 d]) (by simp [results, Tryz.results169, go_sem]) rfl ⟨rfl, (by repeat (first | exact Ext.refl _ | assumption | refine Ext.alloc ?_ _ | refine Ext.drew ?_ | refine Ext.drewN ?_ _ | refine Ext.setCell ?_ (by first | (simp; done) | (simp; omega) | omega) _ | refine Ext.trans ?_ (by assumption)))⟩
set_option maxHeartbeats 1000000 in
theorem laws_eqWay (a : Int) (b : Int) (d : Int) (w : World) : Calls Tryz.prog 182 #[.agg #[.int .i64 a, .int .i64 b, .int .i64 d], .agg #[.int .i64 a, .int .i64 b, .int .i64 d]] w (RetX (.bool true) w) := by
  go_enter Tryz.func182, Tryz.ntmps182
  go_wp2_with fail
  go_ret
  exact ⟨rfl, (by repeat (first | exact Ext.refl _ | assumption | refine Ext.alloc ?_ _ | refine Ext.drew ?_ | refine Ext.drewN ?_ _ | refine Ext.setCell ?_ (by first | (simp; done) | (simp; omega) | omega) _ | refine Ext.trans ?_ (by assumption)))⟩
set_option maxHeartbeats 400000 in
theorem laws_szWayS (v : Value) (l : List Wy) (left : Int) (w : World) (hl : left ≤ 1048576) (h0 : 0 ≤ left) (h : Wys w 0 w.heap.size v l) :
    Calls Tryz.prog 104 #[v, .int .i64 left] w (SzPost left ((l.length : Int) ≤ left) w) := by
  obtain ⟨A, c, rfl, hn, hc⟩ := h.len
  clear h
  go_enter Tryz.func104, Tryz.ntmps104
  go_wp2_with fail
  · go_ret
    exact ⟨-1, rfl, Ext.refl _, by omega, by omega, fun h => absurd h (by omega)⟩
  · go_ret
    exact ⟨left - (l.length : Int), rfl, Ext.refl _, by omega, by omega, fun _ => by omega⟩
set_option maxRecDepth 100000 in
set_option maxHeartbeats 2000000 in
theorem laws_toWayS (v : Value) (l : List Wy) (lo hi : Nat) (w : World) (h : Wys w lo hi v l) (hh : hi ≤ w.heap.size) (hsm : l.length ≤ 1048576) :
    Calls Tryz.prog 115 #[v] w (NewRow 3 l.length (wyCell l) w) := by
  obtain ⟨A, c, rfl, hn, hc⟩ := h.len
  have H := Lib.hid h
  clear h
  go_enter Tryz.func115, Tryz.ntmps115
  go_wp2_with (at_make; refine wpList_make_blk _ rfl _ _ 67 rfl 225 3 24 Tryz.underlying67 (by kernel_rfl) l.length rfl rfl (by omega) (by unfold maxLen; omega) ?_; intro w0 f0 hx0 hb0)
  have Hb0 := Lib.hid hb0
  clear hb0
  go_wp2_with fail
  go_loopg [4] l.length (fun m i wr => ∃ (j : Nat) (f : Nat → Value), j + m = l.length ∧ i = .int .i64 j ∧ Ext w wr ∧ Blk wr w.heap.size (l.length * 3) f ∧ ∀ i, i < j * 3 → f i = wyCell l i)
  case atStart => exact ⟨0, f0, by omega, rfl, (by repeat (first | exact Ext.refl _ | assumption | refine Ext.alloc ?_ _ | refine Ext.drew ?_ | refine Ext.drewN ?_ _ | refine Ext.setCell ?_ (by first | (simp; done) | (simp; omega) | omega) _ | refine Ext.trans ?_ (by assumption))), Hb0.out, fun i hi => absurd hi (by omega)⟩
  case round =>
    obtain ⟨j, f, hj, rfl, hx, hbl, hok⟩ := hrel
    have Hok := Lib.hid hok
    clear hok
    have hbgr := hbl.1
    by_cases hlt : j < l.length
    · obtain ⟨b, off, rfl, _, hb, h1, h2, h3⟩ := (H.out.ext hx hh).at_ hlt
      have hbw : b < wr.heap.size := by have := hx.size; omega
      go_wp2_with fail
      refine (laws_toWay _ _ _ wr).mono ?_
      rintro e w1 ⟨rfl, hx1⟩
      have hc0 := (hbl.ext hx1).2 (j * 3) (by omega)
      have hc0a := hc0.1
      have hc0b := hc0.2
      have hc1 := (hbl.ext hx1).2 (j * 3 + 1) (by omega)
      have hc1a := hc1.1
      have hc1b := hc1.2
      have hc2 := (hbl.ext hx1).2 (j * 3 + 2) (by omega)
      have hc2a := hc2.1
      have hc2b := hc2.2
      have Hbl := Lib.hid (hbl.ext hx1)
      clear hbl
      have hbg := Hbl.out.1
      go_wp2_with fail
      go_roundg (l.length - (j + 1))
      case measure => omega
      case rel =>
        refine ⟨j + 1, _, by omega, by go_num, (by repeat (first | exact Ext.refl _ | assumption | refine Ext.alloc ?_ _ | refine Ext.drew ?_ | refine Ext.drewN ?_ _ | refine Ext.setCell ?_ (by first | (simp; done) | (simp; omega) | omega) _ | refine Ext.trans ?_ (by assumption))), (((Hbl.out.set (j * 3) (.int .i64 (wyAt l j).a) (by omega)).set (j * 3 + 1) (.int .i64 (wyAt l j).b) (by omega)).set (j * 3 + 2) (.int .i64 (wyAt l j).d) (by omega)), fun i hi => ?_⟩
        by_cases e2 : i = j * 3 + 2
        · subst e2; simp only [if_true]; exact (wyCell_2 l j).symm
        rw [if_neg e2]
        by_cases e1 : i = j * 3 + 1
        · subst e1; simp only [if_true]; exact (wyCell_1 l j).symm
        rw [if_neg e1]
        by_cases e0 : i = j * 3
        · subst e0; simp only [if_true]; exact (wyCell_0 l j).symm
        rw [if_neg e0]
        exact Hok.out i (by omega)
    · obtain rfl : j = l.length := by omega
      have Hbl := Lib.hid hbl
      clear hbl
      go_wp2_with fail
      go_ret
      exact ⟨_, w.heap.size, rfl, (by repeat (first | exact Ext.refl _ | assumption | refine Ext.alloc ?_ _ | refine Ext.drew ?_ | refine Ext.drewN ?_ _ | refine Ext.setCell ?_ (by first | (simp; done) | (simp; omega) | omega) _ | refine Ext.trans ?_ (by assumption))), fun _ => Nat.le_refl _, Hbl.out.own (Nat.le_refl _) (by unfold maxLen; omega) (Nat.le_refl _) Hok.out⟩
set_option maxHeartbeats 2000000 in
theorem laws_eqWayS (v v' : Value) (l : List Wy) (w : World) (h : Wys w 0 w.heap.size v l) (h' : Wys w 0 w.heap.size v' l) :
    Calls Tryz.prog 127 #[v, v'] w (RetX (.bool true) w) := by
  obtain ⟨A, c, rfl, hn, hc⟩ := h.len
  obtain ⟨A', c', rfl, _, hc'⟩ := h'.len
  have H := Lib.hid h
  have H' := Lib.hid h'
  clear h h'
  go_enter Tryz.func127, Tryz.ntmps127
  go_wp2_with fail
  go_loopg [5] l.length (fun k i wr => ∃ j : Nat, j + k = l.length ∧ i = .int .i64 j ∧ Ext w wr)
  case atStart => exact ⟨0, by omega, rfl, (by repeat (first | exact Ext.refl _ | assumption | refine Ext.alloc ?_ _ | refine Ext.drew ?_ | refine Ext.drewN ?_ _ | refine Ext.setCell ?_ (by first | (simp; done) | (simp; omega) | omega) _ | refine Ext.trans ?_ (by assumption)))⟩
  case round =>
    obtain ⟨j, hj, rfl, hx⟩ := hrel
    by_cases hlt : j < l.length
    · obtain ⟨b, off, rfl, _, hb, h1, h2, h3⟩ := (H.out.ext hx (Nat.le_refl _)).at_ hlt
      obtain ⟨b', off', rfl, _, hb', h1', h2', h3'⟩ := (H'.out.ext hx (Nat.le_refl _)).at_ hlt
      have hbr : b < wr.heap.size := Nat.lt_of_lt_of_le hb hx.size
      have hbr' : b' < wr.heap.size := Nat.lt_of_lt_of_le hb' hx.size
      go_wp2_with fail
      (refine wp_region_onto prog_mixed (by kernel_rfl) ?_; (repeat (go_big_quiet_step ((go_at_call 182; exact onto_callX (laws_eqWay _ _ _ _))))); refine onto_end ?_; intro w1 hx1)
      go_wp2_with fail
      go_roundg (l.length - (j + 1))
      case measure => omega
      case rel => exact ⟨j + 1, by omega, by go_num, (by repeat (first | exact Ext.refl _ | assumption | refine Ext.alloc ?_ _ | refine Ext.drew ?_ | refine Ext.drewN ?_ _ | refine Ext.setCell ?_ (by first | (simp; done) | (simp; omega) | omega) _ | refine Ext.trans ?_ (by assumption)))⟩
    · obtain rfl : j = l.length := by omega
      go_wp2_with fail
      go_ret
      exact ⟨rfl, (by repeat (first | exact Ext.refl _ | assumption | refine Ext.alloc ?_ _ | refine Ext.drew ?_ | refine Ext.drewN ?_ _ | refine Ext.setCell ?_ (by first | (simp; done) | (simp; omega) | omega) _ | refine Ext.trans ?_ (by assumption)))⟩
set_option maxHeartbeats 1000000 in
theorem laws_toStay (a : Int) (b : Int) (d : Int) (w : World) : Calls Tryz.prog 116 #[.agg #[.int .i64 a, .int .i64 b, .int .i64 d]] w (RetX (.agg #[.int .i64 a, .int .i64 b, .int .i64 d]) w) := by
  go_enter Tryz.func116, Tryz.ntmps116
  go_wp2_with fail
  refine bodyPost_ret (v := .agg #[.int .i64 a, .int .i64 b, .int .i64 d]) (by simp [results, Tryz.results116, go_sem]) rfl ⟨rfl, (by repeat (first | exact Ext.refl _ | assumption | refine Ext.alloc ?_ _ | refine Ext.drew ?_ | refine Ext.drewN ?_ _ | refine Ext.setCell ?_ (by first | (simp; done) | (simp; omega) | omega) _ | refine Ext.trans ?_ (by assumption)))⟩
set_option maxHeartbeats 1000000 in
theorem laws_eqStay (a : Int) (b : Int) (d : Int) (w : World) : Calls Tryz.prog 128 #[.agg #[.int .i64 a, .int .i64 b, .int .i64 d], .agg #[.int .i64 a, .int .i64 b, .int .i64 d]] w (RetX (.bool true) w) := by
  go_enter Tryz.func128, Tryz.ntmps128
  go_wp2_with fail
  go_ret
  exact ⟨rfl, (by repeat (first | exact Ext.refl _ | assumption | refine Ext.alloc ?_ _ | refine Ext.drew ?_ | refine Ext.drewN ?_ _ | refine Ext.setCell ?_ (by first | (simp; done) | (simp; omega) | omega) _ | refine Ext.trans ?_ (by assumption)))⟩
set_option maxHeartbeats 400000 in
theorem laws_szStayS (v : Value) (l : List Wy) (left : Int) (w : World) (hl : left ≤ 1048576) (h0 : 0 ≤ left) (h : Wys w 0 w.heap.size v l) :
    Calls Tryz.prog 62 #[v, .int .i64 left] w (SzPost left ((l.length : Int) ≤ left) w) := by
  obtain ⟨A, c, rfl, hn, hc⟩ := h.len
  clear h
  go_enter Tryz.func62, Tryz.ntmps62
  go_wp2_with fail
  · go_ret
    exact ⟨-1, rfl, Ext.refl _, by omega, by omega, fun h => absurd h (by omega)⟩
  · go_ret
    exact ⟨left - (l.length : Int), rfl, Ext.refl _, by omega, by omega, fun _ => by omega⟩
set_option maxRecDepth 100000 in
set_option maxHeartbeats 2000000 in
theorem laws_toStayS (v : Value) (l : List Wy) (lo hi : Nat) (w : World) (h : Wys w lo hi v l) (hh : hi ≤ w.heap.size) (hsm : l.length ≤ 1048576) :
    Calls Tryz.prog 70 #[v] w (NewRow 3 l.length (wyCell l) w) := by
  obtain ⟨A, c, rfl, hn, hc⟩ := h.len
  have H := Lib.hid h
  clear h
  go_enter Tryz.func70, Tryz.ntmps70
  go_wp2_with (at_make; refine wpList_make_blk _ rfl _ _ 70 rfl 167 3 24 Tryz.underlying70 (by kernel_rfl) l.length rfl rfl (by omega) (by unfold maxLen; omega) ?_; intro w0 f0 hx0 hb0)
  have Hb0 := Lib.hid hb0
  clear hb0
  go_wp2_with fail
  go_loopg [4] l.length (fun m i wr => ∃ (j : Nat) (f : Nat → Value), j + m = l.length ∧ i = .int .i64 j ∧ Ext w wr ∧ Blk wr w.heap.size (l.length * 3) f ∧ ∀ i, i < j * 3 → f i = wyCell l i)
  case atStart => exact ⟨0, f0, by omega, rfl, (by repeat (first | exact Ext.refl _ | assumption | refine Ext.alloc ?_ _ | refine Ext.drew ?_ | refine Ext.drewN ?_ _ | refine Ext.setCell ?_ (by first | (simp; done) | (simp; omega) | omega) _ | refine Ext.trans ?_ (by assumption))), Hb0.out, fun i hi => absurd hi (by omega)⟩
  case round =>
    obtain ⟨j, f, hj, rfl, hx, hbl, hok⟩ := hrel
    have Hok := Lib.hid hok
    clear hok
    have hbgr := hbl.1
    by_cases hlt : j < l.length
    · obtain ⟨b, off, rfl, _, hb, h1, h2, h3⟩ := (H.out.ext hx hh).at_ hlt
      have hbw : b < wr.heap.size := by have := hx.size; omega
      go_wp2_with fail
      refine (laws_toStay _ _ _ wr).mono ?_
      rintro e w1 ⟨rfl, hx1⟩
      have hc0 := (hbl.ext hx1).2 (j * 3) (by omega)
      have hc0a := hc0.1
      have hc0b := hc0.2
      have hc1 := (hbl.ext hx1).2 (j * 3 + 1) (by omega)
      have hc1a := hc1.1
      have hc1b := hc1.2
      have hc2 := (hbl.ext hx1).2 (j * 3 + 2) (by omega)
      have hc2a := hc2.1
      have hc2b := hc2.2
      have Hbl := Lib.hid (hbl.ext hx1)
      clear hbl
      have hbg := Hbl.out.1
      go_wp2_with fail
      go_roundg (l.length - (j + 1))
      case measure => omega
      case rel =>
        refine ⟨j + 1, _, by omega, by go_num, (by repeat (first | exact Ext.refl _ | assumption | refine Ext.alloc ?_ _ | refine Ext.drew ?_ | refine Ext.drewN ?_ _ | refine Ext.setCell ?_ (by first | (simp; done) | (simp; omega) | omega) _ | refine Ext.trans ?_ (by assumption))), (((Hbl.out.set (j * 3) (.int .i64 (wyAt l j).a) (by omega)).set (j * 3 + 1) (.int .i64 (wyAt l j).b) (by omega)).set (j * 3 + 2) (.int .i64 (wyAt l j).d) (by omega)), fun i hi => ?_⟩
        by_cases e2 : i = j * 3 + 2
        · subst e2; simp only [if_true]; exact (wyCell_2 l j).symm
        rw [if_neg e2]
        by_cases e1 : i = j * 3 + 1
        · subst e1; simp only [if_true]; exact (wyCell_1 l j).symm
        rw [if_neg e1]
        by_cases e0 : i = j * 3
        · subst e0; simp only [if_true]; exact (wyCell_0 l j).symm
        rw [if_neg e0]
        exact Hok.out i (by omega)
    · obtain rfl : j = l.length := by omega
      have Hbl := Lib.hid hbl
      clear hbl
      go_wp2_with fail
      go_ret
      exact ⟨_, w.heap.size, rfl, (by repeat (first | exact Ext.refl _ | assumption | refine Ext.alloc ?_ _ | refine Ext.drew ?_ | refine Ext.drewN ?_ _ | refine Ext.setCell ?_ (by first | (simp; done) | (simp; omega) | omega) _ | refine Ext.trans ?_ (by assumption))), fun _ => Nat.le_refl _, Hbl.out.own (Nat.le_refl _) (by unfold maxLen; omega) (Nat.le_refl _) Hok.out⟩
set_option maxHeartbeats 2000000 in
theorem laws_eqStayS (v v' : Value) (l : List Wy) (w : World) (h : Wys w 0 w.heap.size v l) (h' : Wys w 0 w.heap.size v' l) :
    Calls Tryz.prog 78 #[v, v'] w (RetX (.bool true) w) := by
  obtain ⟨A, c, rfl, hn, hc⟩ := h.len
  obtain ⟨A', c', rfl, _, hc'⟩ := h'.len
  have H := Lib.hid h
  have H' := Lib.hid h'
  clear h h'
  go_enter Tryz.func78, Tryz.ntmps78
  go_wp2_with fail
  go_loopg [5] l.length (fun k i wr => ∃ j : Nat, j + k = l.length ∧ i = .int .i64 j ∧ Ext w wr)
  case atStart => exact ⟨0, by omega, rfl, (by repeat (first | exact Ext.refl _ | assumption | refine Ext.alloc ?_ _ | refine Ext.drew ?_ | refine Ext.drewN ?_ _ | refine Ext.setCell ?_ (by first | (simp; done) | (simp; omega) | omega) _ | refine Ext.trans ?_ (by assumption)))⟩
  case round =>
    obtain ⟨j, hj, rfl, hx⟩ := hrel
    by_cases hlt : j < l.length
    · obtain ⟨b, off, rfl, _, hb, h1, h2, h3⟩ := (H.out.ext hx (Nat.le_refl _)).at_ hlt
      obtain ⟨b', off', rfl, _, hb', h1', h2', h3'⟩ := (H'.out.ext hx (Nat.le_refl _)).at_ hlt
      have hbr : b < wr.heap.size := Nat.lt_of_lt_of_le hb hx.size
      have hbr' : b' < wr.heap.size := Nat.lt_of_lt_of_le hb' hx.size
      go_wp2_with fail
      (refine wp_region_onto prog_mixed (by kernel_rfl) ?_; (repeat (go_big_quiet_step ((go_at_call 128; exact onto_callX (laws_eqStay _ _ _ _))))); refine onto_end ?_; intro w1 hx1)
      go_wp2_with fail
      go_roundg (l.length - (j + 1))
      case measure => omega
      case rel => exact ⟨j + 1, by omega, by go_num, (by repeat (first | exact Ext.refl _ | assumption | refine Ext.alloc ?_ _ | refine Ext.drew ?_ | refine Ext.drewN ?_ _ | refine Ext.setCell ?_ (by first | (simp; done) | (simp; omega) | omega) _ | refine Ext.trans ?_ (by assumption)))⟩
    · obtain rfl : j = l.length := by omega
      go_wp2_with fail
      go_ret
      exact ⟨rfl, (by repeat (first | exact Ext.refl _ | assumption | refine Ext.alloc ?_ _ | refine Ext.drew ?_ | refine Ext.drewN ?_ _ | refine Ext.setCell ?_ (by first | (simp; done) | (simp; omega) | omega) _ | refine Ext.trans ?_ (by assumption)))⟩
set_option maxRecDepth 100000 in
set_option maxHeartbeats 2000000 in
theorem laws_szStringS (v : Value) (l : List ByteArray) (left : Int) (w : World) (hl : left ≤ 1048576) (h0 : 0 ≤ left) (h : Strs w 0 w.heap.size v l) (hz : ∀ i, i < l.length → (strAt l i).size ≤ 9223372036854775807) : Calls Tryz.prog 103 #[v, .int .i64 left] w (SzPost left ((l.length : Int) ≤ left ∧ ∀ i, i < l.length → ((strAt l i).size : Int) ≤ left) w) := by
  obtain ⟨A, c, rfl, hn, hc⟩ := h.len
  have H := Lib.hid h
  have Hz := Lib.hid hz
  clear h hz
  have W0 : IntKind.i64.wrap (left - (l.length : Int)) = left - (l.length : Int) := IntWalk.i64_in _ (by omega)
  go_enter Tryz.func103, Tryz.ntmps103
  by_cases c0 : left - (l.length : Int) < 0
  case pos =>
    have d0 : decide (left - (l.length : Int) < 0) = true := decide_eq_true c0
    go_wp2_with fail
    go_ret
    exact ⟨-1, rfl, (by repeat (first | exact Ext.refl _ | assumption | refine Ext.alloc ?_ _ | refine Ext.drew ?_ | refine Ext.drewN ?_ _ | refine Ext.setCell ?_ (by first | (simp; done) | (simp; omega) | omega) _ | refine Ext.trans ?_ (by assumption))), by omega, by omega, fun h => absurd h (by omega)⟩
  have d0 : decide (left - (l.length : Int) < 0) = false := decide_eq_false c0
  go_wp2_with fail
  go_loopg [1, 5] l.length (fun q t i wr => ∃ (j : Nat) (r : Int), j + q = l.length ∧ i = .int .i64 j ∧ t = .int .i64 r ∧ 0 ≤ r ∧ r ≤ left - (l.length : Int) ∧ Ext w wr ∧ ∀ i, i < j → ((strAt l i).size : Int) ≤ left)
  case atStart => exact ⟨0, _, by omega, rfl, rfl, by omega, by omega, (by repeat (first | exact Ext.refl _ | assumption | refine Ext.alloc ?_ _ | refine Ext.drew ?_ | refine Ext.drewN ?_ _ | refine Ext.setCell ?_ (by first | (simp; done) | (simp; omega) | omega) _ | refine Ext.trans ?_ (by assumption))), fun i hi => absurd hi (by omega)⟩
  case round =>
    obtain ⟨j, r, hj, rfl, rfl, hr0, hr1, hx, hok⟩ := hrel
    have Hok := Lib.hid hok
    clear hok
    by_cases hlt : j < l.length
    · obtain ⟨b, off, rfl, _, hb, h1⟩ := (H.out.ext hx (Nat.le_refl _)).at_ hlt
      have hbr : b < wr.heap.size := Nat.lt_of_lt_of_le hb hx.size
      have hsz := Hz.out j hlt
      have Wj : IntKind.i64.wrap (r - ((strAt l j).size : Int)) = r - ((strAt l j).size : Int) := IntWalk.i64_in _ (by omega)
      by_cases cj : r - ((strAt l j).size : Int) < 0
      · have dj : decide (r - ((strAt l j).size : Int) < 0) = true := decide_eq_true cj
        go_wp2_with fail
        go_ret
        exact ⟨-1, rfl, (by repeat (first | exact Ext.refl _ | assumption | refine Ext.alloc ?_ _ | refine Ext.drew ?_ | refine Ext.drewN ?_ _ | refine Ext.setCell ?_ (by first | (simp; done) | (simp; omega) | omega) _ | refine Ext.trans ?_ (by assumption))), by omega, by omega, fun h => absurd h (by omega)⟩
      · have dj : decide (r - ((strAt l j).size : Int) < 0) = false := decide_eq_false cj
        go_wp2_with fail
        go_roundg (l.length - (j + 1))
        case measure => omega
        case rel =>
          refine ⟨j + 1, r - ((strAt l j).size : Int), by omega, by go_num, rfl, by omega, by omega, (by repeat (first | exact Ext.refl _ | assumption | refine Ext.alloc ?_ _ | refine Ext.drew ?_ | refine Ext.drewN ?_ _ | refine Ext.setCell ?_ (by first | (simp; done) | (simp; omega) | omega) _ | refine Ext.trans ?_ (by assumption))), fun i hi => ?_⟩
          by_cases e : i = j
          · subst e; omega
          · exact Hok.out i (by omega)
    · obtain rfl : j = l.length := by omega
      go_wp2_with fail
      go_ret
      exact ⟨r, rfl, (by repeat (first | exact Ext.refl _ | assumption | refine Ext.alloc ?_ _ | refine Ext.drew ?_ | refine Ext.drewN ?_ _ | refine Ext.setCell ?_ (by first | (simp; done) | (simp; omega) | omega) _ | refine Ext.trans ?_ (by assumption))), by omega, by omega, fun _ => ⟨by omega, Hok.out⟩⟩
set_option maxHeartbeats 2000000 in
theorem laws_toStringS (v : Value) (l : List ByteArray) (lo hi : Nat) (w : World) (h : Strs w lo hi v l) (hh : hi ≤ w.heap.size) (hsm : l.length ≤ 1048576) :
    Calls Tryz.prog 114 #[v] w (NewRow 1 l.length (strCell l) w) := by
  obtain ⟨A, c, rfl, hn, hc⟩ := h.len
  have H := Lib.hid h
  clear h
  go_enter Tryz.func114, Tryz.ntmps114
  go_wp2_with (at_make; refine wpList_make_blk _ rfl _ _ 35 rfl 9 1 16 Tryz.underlying35 (by kernel_rfl) l.length rfl rfl (by omega) (by unfold maxLen; omega) ?_; intro w0 f0 hx0 hb0)
  have Hb0 := Lib.hid hb0
  clear hb0
  go_wp2_with fail
  go_loopg [4] l.length (fun m i wr => ∃ (j : Nat) (f : Nat → Value), j + m = l.length ∧ i = .int .i64 j ∧ Ext w wr ∧ Blk wr w.heap.size (l.length * 1) f ∧ ∀ i, i < j * 1 → f i = strCell l i)
  case atStart => exact ⟨0, f0, by omega, rfl, (by repeat (first | exact Ext.refl _ | assumption | refine Ext.alloc ?_ _ | refine Ext.drew ?_ | refine Ext.drewN ?_ _ | refine Ext.setCell ?_ (by first | (simp; done) | (simp; omega) | omega) _ | refine Ext.trans ?_ (by assumption))), Hb0.out, fun i hi => absurd hi (by omega)⟩
  case round =>
    obtain ⟨j, f, hj, rfl, hx, hbl, hok⟩ := hrel
    have Hok := Lib.hid hok
    clear hok
    have hbgr := hbl.1
    by_cases hlt : j < l.length
    · obtain ⟨b, off, rfl, _, hb, h1⟩ := (H.out.ext hx hh).at_ hlt
      have hbw : b < wr.heap.size := by have := hx.size; omega
      have hc0 := hbl.2 j (by omega)
      have hc0a := hc0.1
      have hc0b := hc0.2
      have Hbl := Lib.hid hbl
      clear hbl
      have hbg := Hbl.out.1
      go_wp2_with fail
      go_roundg (l.length - (j + 1))
      case measure => omega
      case rel =>
        refine ⟨j + 1, _, by omega, by go_num, (by repeat (first | exact Ext.refl _ | assumption | refine Ext.alloc ?_ _ | refine Ext.drew ?_ | refine Ext.drewN ?_ _ | refine Ext.setCell ?_ (by first | (simp; done) | (simp; omega) | omega) _ | refine Ext.trans ?_ (by assumption))), (Hbl.out.set j (.string (strAt l j)) (by omega)), fun i hi => ?_⟩
        by_cases e : i = j
        · subst e; simp [strCell]
        · rw [if_neg e]; exact Hok.out i (by omega)
    · obtain rfl : j = l.length := by omega
      have Hbl := Lib.hid hbl
      clear hbl
      go_wp2_with fail
      go_ret
      exact ⟨_, w.heap.size, rfl, (by repeat (first | exact Ext.refl _ | assumption | refine Ext.alloc ?_ _ | refine Ext.drew ?_ | refine Ext.drewN ?_ _ | refine Ext.setCell ?_ (by first | (simp; done) | (simp; omega) | omega) _ | refine Ext.trans ?_ (by assumption))), fun _ => Nat.le_refl _, Hbl.out.own (Nat.le_refl _) (by unfold maxLen; omega) (Nat.le_refl _) Hok.out⟩
set_option maxHeartbeats 2000000 in
theorem laws_eqStringS (v v' : Value) (l : List ByteArray) (w : World) (h : Strs w 0 w.heap.size v l) (h' : Strs w 0 w.heap.size v' l) :
    Calls Tryz.prog 126 #[v, v'] w (RetX (.bool true) w) := by
  obtain ⟨A, c, rfl, hn, hc⟩ := h.len
  obtain ⟨A', c', rfl, _, hc'⟩ := h'.len
  have H := Lib.hid h
  have H' := Lib.hid h'
  clear h h'
  go_enter Tryz.func126, Tryz.ntmps126
  go_wp2_with fail
  go_loopg [5] l.length (fun k i wr => ∃ j : Nat, j + k = l.length ∧ i = .int .i64 j ∧ Ext w wr)
  case atStart => exact ⟨0, by omega, rfl, (by repeat (first | exact Ext.refl _ | assumption | refine Ext.alloc ?_ _ | refine Ext.drew ?_ | refine Ext.drewN ?_ _ | refine Ext.setCell ?_ (by first | (simp; done) | (simp; omega) | omega) _ | refine Ext.trans ?_ (by assumption)))⟩
  case round =>
    obtain ⟨j, hj, rfl, hx⟩ := hrel
    by_cases hlt : j < l.length
    · obtain ⟨b, off, rfl, _, hb, h1⟩ := (H.out.ext hx (Nat.le_refl _)).at_ hlt
      obtain ⟨b', off', rfl, _, hb', h1'⟩ := (H'.out.ext hx (Nat.le_refl _)).at_ hlt
      have hbr : b < wr.heap.size := Nat.lt_of_lt_of_le hb hx.size
      have hbr' : b' < wr.heap.size := Nat.lt_of_lt_of_le hb' hx.size
      have hss := str_same (strAt l j)
      go_wp2_with fail
      (refine wp_region_onto prog_mixed (by kernel_rfl) ?_; (repeat (go_big_quiet_step ((fail)))); refine onto_end ?_; intro w1 hx1)
      go_wp2_with fail
      go_roundg (l.length - (j + 1))
      case measure => omega
      case rel => exact ⟨j + 1, by omega, by go_num, (by repeat (first | exact Ext.refl _ | assumption | refine Ext.alloc ?_ _ | refine Ext.drew ?_ | refine Ext.drewN ?_ _ | refine Ext.setCell ?_ (by first | (simp; done) | (simp; omega) | omega) _ | refine Ext.trans ?_ (by assumption)))⟩
    · obtain rfl : j = l.length := by omega
      go_wp2_with fail
      go_ret
      exact ⟨rfl, (by repeat (first | exact Ext.refl _ | assumption | refine Ext.alloc ?_ _ | refine Ext.drew ?_ | refine Ext.drewN ?_ _ | refine Ext.setCell ?_ (by first | (simp; done) | (simp; omega) | omega) _ | refine Ext.trans ?_ (by assumption)))⟩
end Go.Proofs.YtbddkmlfjghllaaGreatDoor
