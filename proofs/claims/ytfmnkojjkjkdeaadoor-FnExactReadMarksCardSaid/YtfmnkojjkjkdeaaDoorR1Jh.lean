/- The laws' own helpers for structs of strings and numbers, and for strings. (Printed by genK2.py.) -/
import Derived.Test.YtfmnkojjkjkdeaaDoorR1Jd
import Derived.Test.YtfmnkojjkjkdeaaDoorR1E
import Derived.IntWalk
namespace Go.Proofs.YtfmnkojjkjkdeaaDoor
set_option linter.unusedVariables false
set_option linter.unusedSimpArgs false
open Go.RowKit
attribute [local go_sem] cell_onto

set_option maxHeartbeats 1000000 in
theorem laws_toMark (nm : ByteArray) (fr : Int) (to : Int) (w : World) : Calls Tryd.prog 42 #[.agg #[.string nm, .int .i64 fr, .int .i64 to]] w (RetX (.agg #[.string nm, .int .i64 fr, .int .i64 to]) w) := by
  go_enter Tryd.func42, Tryd.ntmps42
  go_wp2_with fail
  refine bodyPost_ret (v := .agg #[.string nm, .int .i64 fr, .int .i64 to]) (by simp [results, Tryd.results42, go_sem]) rfl ⟨rfl, (by repeat (first | exact Ext.refl _ | assumption | refine Ext.alloc ?_ _ | refine Ext.drew ?_ | refine Ext.drewN ?_ _ | refine Ext.setCell ?_ (by first | (simp; done) | (simp; omega) | omega) _ | refine Ext.trans ?_ (by assumption)))⟩
set_option maxHeartbeats 1000000 in
theorem laws_eqMark (nm : ByteArray) (fr : Int) (to : Int) (w : World) : Calls Tryd.prog 46 #[.agg #[.string nm, .int .i64 fr, .int .i64 to], .agg #[.string nm, .int .i64 fr, .int .i64 to]] w (RetX (.bool true) w) := by
  have hs_nm := str_same nm
  go_enter Tryd.func46, Tryd.ntmps46
  go_wp2_with fail
  go_ret
  exact ⟨rfl, (by repeat (first | exact Ext.refl _ | assumption | refine Ext.alloc ?_ _ | refine Ext.drew ?_ | refine Ext.drewN ?_ _ | refine Ext.setCell ?_ (by first | (simp; done) | (simp; omega) | omega) _ | refine Ext.trans ?_ (by assumption)))⟩
set_option maxHeartbeats 1000000 in
theorem laws_szMark (nm : ByteArray) (fr : Int) (to : Int) (left : Int) (w : World) (hl : left ≤ 1048576) (h0 : 0 ≤ left) (hnm : nm.size ≤ 9223372036854775807) : Calls Tryd.prog 39 #[.agg #[.string nm, .int .i64 fr, .int .i64 to], .int .i64 left] w (SzPost left ((nm.size : Int) ≤ left) w) := by
  have W0 : IntKind.i64.wrap (left - (nm.size : Int)) = left - (nm.size : Int) := IntWalk.i64_in _ (by omega)
  by_cases c0 : left - (nm.size : Int) < 0
  case pos =>
    have d0 : decide (left - (nm.size : Int) < 0) = true := decide_eq_true c0
    go_enter Tryd.func39, Tryd.ntmps39
    go_wp2_with fail
    go_ret
    exact ⟨-1, rfl, (by repeat (first | exact Ext.refl _ | assumption | refine Ext.alloc ?_ _ | refine Ext.drew ?_ | refine Ext.drewN ?_ _ | refine Ext.setCell ?_ (by first | (simp; done) | (simp; omega) | omega) _ | refine Ext.trans ?_ (by assumption))), by omega, by omega, fun h => absurd h (by omega)⟩
  have d0 : decide (left - (nm.size : Int) < 0) = false := decide_eq_false c0
  go_enter Tryd.func39, Tryd.ntmps39
  go_wp2_with fail
  go_ret
  exact ⟨left - (nm.size : Int), rfl, (by repeat (first | exact Ext.refl _ | assumption | refine Ext.alloc ?_ _ | refine Ext.drew ?_ | refine Ext.drewN ?_ _ | refine Ext.setCell ?_ (by first | (simp; done) | (simp; omega) | omega) _ | refine Ext.trans ?_ (by assumption))), by omega, by omega, fun _ => by omega⟩
set_option maxRecDepth 100000 in
set_option maxHeartbeats 2000000 in
theorem laws_szMarkS (v : Value) (l : List Nsp) (left : Int) (w : World) (hl : left ≤ 1048576) (h0 : 0 ≤ left) (h : Nsps w 0 w.heap.size v l) (hz : ∀ i, i < l.length → (nspAt l i).nm.size ≤ 9223372036854775807) : Calls Tryd.prog 11 #[v, .int .i64 left] w (SzPost left ((l.length : Int) ≤ left ∧ ∀ i, i < l.length → ((nspAt l i).nm.size : Int) ≤ left) w) := by
  obtain ⟨A, c, rfl, hn, hc⟩ := h.len
  have H := Lib.hid h
  have Hz := Lib.hid hz
  clear h hz
  have W0 : IntKind.i64.wrap (left - (l.length : Int)) = left - (l.length : Int) := IntWalk.i64_in _ (by omega)
  go_enter Tryd.func11, Tryd.ntmps11
  by_cases c0 : left - (l.length : Int) < 0
  case pos =>
    have d0 : decide (left - (l.length : Int) < 0) = true := decide_eq_true c0
    go_wp2_with fail
    go_ret
    exact ⟨-1, rfl, (by repeat (first | exact Ext.refl _ | assumption | refine Ext.alloc ?_ _ | refine Ext.drew ?_ | refine Ext.drewN ?_ _ | refine Ext.setCell ?_ (by first | (simp; done) | (simp; omega) | omega) _ | refine Ext.trans ?_ (by assumption))), by omega, by omega, fun h => absurd h (by omega)⟩
  have d0 : decide (left - (l.length : Int) < 0) = false := decide_eq_false c0
  go_wp2_with fail
  go_loopg [1, 5] l.length (fun q t i wr => ∃ (j : Nat) (r : Int), j + q = l.length ∧ i = .int .i64 j ∧ t = .int .i64 r ∧ 0 ≤ r ∧ r ≤ left - (l.length : Int) ∧ Ext w wr ∧ ∀ i, i < j → ((nspAt l i).nm.size : Int) ≤ left)
  case atStart => exact ⟨0, _, by omega, rfl, rfl, by omega, by omega, (by repeat (first | exact Ext.refl _ | assumption | refine Ext.alloc ?_ _ | refine Ext.drew ?_ | refine Ext.drewN ?_ _ | refine Ext.setCell ?_ (by first | (simp; done) | (simp; omega) | omega) _ | refine Ext.trans ?_ (by assumption))), fun i hi => absurd hi (by omega)⟩
  case round =>
    obtain ⟨j, r, hj, rfl, rfl, hr0, hr1, hx, hok⟩ := hrel
    have Hok := Lib.hid hok
    clear hok
    by_cases hlt : j < l.length
    · obtain ⟨b, off, rfl, _, hb, h1, h2, h3⟩ := (H.out.ext hx (Nat.le_refl _)).at_ hlt
      have hbr : b < wr.heap.size := Nat.lt_of_lt_of_le hb hx.size
      have hsz := Hz.out j hlt
      go_wp2_with fail
      refine Calls.mono (laws_szMark _ _ _ r _ (by omega) hr0 hsz) ?_
      rintro e w1 ⟨r2, rfl, hx1, hra, hrb, hrc⟩
      have Hrc := Lib.hid hrc
      clear hrc
      by_cases cj : r2 < 0
      · have dj : decide (r2 < 0) = true := decide_eq_true cj
        go_wp2_with fail
        go_ret
        exact ⟨-1, rfl, (by repeat (first | exact Ext.refl _ | assumption | refine Ext.alloc ?_ _ | refine Ext.drew ?_ | refine Ext.drewN ?_ _ | refine Ext.setCell ?_ (by first | (simp; done) | (simp; omega) | omega) _ | refine Ext.trans ?_ (by assumption))), by omega, by omega, fun h => absurd h (by omega)⟩
      · have dj : decide (r2 < 0) = false := decide_eq_false cj
        go_wp2_with fail
        go_roundg (l.length - (j + 1))
        case measure => omega
        case rel =>
          refine ⟨j + 1, r2, by omega, by go_num, rfl, by omega, by omega, (by repeat (first | exact Ext.refl _ | assumption | refine Ext.alloc ?_ _ | refine Ext.drew ?_ | refine Ext.drewN ?_ _ | refine Ext.setCell ?_ (by first | (simp; done) | (simp; omega) | omega) _ | refine Ext.trans ?_ (by assumption))), fun i hi => ?_⟩
          by_cases e : i = j
          · subst e
            have := Hrc.out (by omega)
            omega
          · exact Hok.out i (by omega)
    · obtain rfl : j = l.length := by omega
      go_wp2_with fail
      go_ret
      exact ⟨r, rfl, (by repeat (first | exact Ext.refl _ | assumption | refine Ext.alloc ?_ _ | refine Ext.drew ?_ | refine Ext.drewN ?_ _ | refine Ext.setCell ?_ (by first | (simp; done) | (simp; omega) | omega) _ | refine Ext.trans ?_ (by assumption))), by omega, by omega, fun _ => ⟨by omega, Hok.out⟩⟩
set_option maxRecDepth 100000 in
set_option maxHeartbeats 2000000 in
theorem laws_toMarkS (v : Value) (l : List Nsp) (lo hi : Nat) (w : World) (h : Nsps w lo hi v l) (hh : hi ≤ w.heap.size) (hsm : l.length ≤ 1048576) :
    Calls Tryd.prog 13 #[v] w (NewRow 3 l.length (nspCell l) w) := by
  obtain ⟨A, c, rfl, hn, hc⟩ := h.len
  have H := Lib.hid h
  clear h
  go_enter Tryd.func13, Tryd.ntmps13
  go_wp2_with (at_make; refine wpList_make_blk _ rfl _ _ 41 rfl 70 3 32 Tryd.underlying41 (by kernel_rfl) l.length rfl rfl (by omega) (by unfold maxLen; omega) ?_; intro w0 f0 hx0 hb0)
  have Hb0 := Lib.hid hb0
  clear hb0
  go_wp2_with fail
  go_loopg [4] l.length (fun m i wr => ∃ (j : Nat) (f : Nat → Value), j + m = l.length ∧ i = .int .i64 j ∧ Ext w wr ∧ Blk wr w.heap.size (l.length * 3) f ∧ ∀ i, i < j * 3 → f i = nspCell l i)
  case atStart => exact ⟨0, f0, by omega, rfl, (by repeat (first | exact Ext.refl _ | assumption | refine Ext.alloc ?_ _ | refine Ext.drew ?_ | refine Ext.drewN ?_ _ | refine Ext.setCell ?_ (by first | (simp; done) | (simp; omega) | omega) _ | refine Ext.trans ?_ (by assumption))), Hb0.out, fun i hi => absurd hi (by omega)⟩
  case round =>
    obtain ⟨j, f, hj, rfl, hx, hbl, hok⟩ := hrel
    have Hok := Lib.hid hok
    clear hok
    have hbgr := hbl.1
    by_cases hlt : j < l.length
    · obtain ⟨b, off, rfl, _, hb, h1, h2, h3⟩ := (H.out.ext hx hh).at_ hlt
      have hbw : b < wr.heap.size := by have := hx.size; omega
      go_wp2_with fail
      refine (laws_toMark _ _ _ wr).mono ?_
      rintro e w1 ⟨rfl, hx1⟩
      have hc0 := (hbl.ext hx1).2 (j * 3) (by omega)
      have hc0a := hc0.1
      have hc0b := hc0.2
      have hc1 := (hbl.ext hx1).2 (j * 3 + 1) (by omega)
      have hc1a := hc1.1
      have hc1b := hc1.2
      have hc2 := (hbl.ext hx1).2 (j * 3 + 2) (by omega)
      have hc2a := hc2.1
      have hc2b := hc2.2
      have Hbl := Lib.hid (hbl.ext hx1)
      clear hbl
      have hbg := Hbl.out.1
      go_wp2_with fail
      go_roundg (l.length - (j + 1))
      case measure => omega
      case rel =>
        refine ⟨j + 1, _, by omega, by go_num, (by repeat (first | exact Ext.refl _ | assumption | refine Ext.alloc ?_ _ | refine Ext.drew ?_ | refine Ext.drewN ?_ _ | refine Ext.setCell ?_ (by first | (simp; done) | (simp; omega) | omega) _ | refine Ext.trans ?_ (by assumption))), (((Hbl.out.set (j * 3) (.string (nspAt l j).nm) (by omega)).set (j * 3 + 1) (.int .i64 (nspAt l j).fr) (by omega)).set (j * 3 + 2) (.int .i64 (nspAt l j).to) (by omega)), fun i hi => ?_⟩
        by_cases e2 : i = j * 3 + 2
        · subst e2; simp only [if_true]; exact (nspCell_2 l j).symm
        rw [if_neg e2]
        by_cases e1 : i = j * 3 + 1
        · subst e1; simp only [if_true]; exact (nspCell_1 l j).symm
        rw [if_neg e1]
        by_cases e0 : i = j * 3
        · subst e0; simp only [if_true]; exact (nspCell_0 l j).symm
        rw [if_neg e0]
        exact Hok.out i (by omega)
    · obtain rfl : j = l.length := by omega
      have Hbl := Lib.hid hbl
      clear hbl
      go_wp2_with fail
      go_ret
      exact ⟨_, w.heap.size, rfl, (by repeat (first | exact Ext.refl _ | assumption | refine Ext.alloc ?_ _ | refine Ext.drew ?_ | refine Ext.drewN ?_ _ | refine Ext.setCell ?_ (by first | (simp; done) | (simp; omega) | omega) _ | refine Ext.trans ?_ (by assumption))), fun _ => Nat.le_refl _, Hbl.out.own (Nat.le_refl _) (by unfold maxLen; omega) (Nat.le_refl _) Hok.out⟩
set_option maxHeartbeats 2000000 in
theorem laws_eqMarkS (v v' : Value) (l : List Nsp) (w : World) (h : Nsps w 0 w.heap.size v l) (h' : Nsps w 0 w.heap.size v' l) :
    Calls Tryd.prog 16 #[v, v'] w (RetX (.bool true) w) := by
  obtain ⟨A, c, rfl, hn, hc⟩ := h.len
  obtain ⟨A', c', rfl, _, hc'⟩ := h'.len
  have H := Lib.hid h
  have H' := Lib.hid h'
  clear h h'
  go_enter Tryd.func16, Tryd.ntmps16
  go_wp2_with fail
  go_loopg [5] l.length (fun k i wr => ∃ j : Nat, j + k = l.length ∧ i = .int .i64 j ∧ Ext w wr)
  case atStart => exact ⟨0, by omega, rfl, (by repeat (first | exact Ext.refl _ | assumption | refine Ext.alloc ?_ _ | refine Ext.drew ?_ | refine Ext.drewN ?_ _ | refine Ext.setCell ?_ (by first | (simp; done) | (simp; omega) | omega) _ | refine Ext.trans ?_ (by assumption)))⟩
  case round =>
    obtain ⟨j, hj, rfl, hx⟩ := hrel
    by_cases hlt : j < l.length
    · obtain ⟨b, off, rfl, _, hb, h1, h2, h3⟩ := (H.out.ext hx (Nat.le_refl _)).at_ hlt
      obtain ⟨b', off', rfl, _, hb', h1', h2', h3'⟩ := (H'.out.ext hx (Nat.le_refl _)).at_ hlt
      have hbr : b < wr.heap.size := Nat.lt_of_lt_of_le hb hx.size
      have hbr' : b' < wr.heap.size := Nat.lt_of_lt_of_le hb' hx.size
      go_wp2_with fail
      (refine wp_region_onto prog_mixed (by kernel_rfl) ?_; (repeat (go_big_quiet_step ((go_at_call 46; exact onto_callX (laws_eqMark _ _ _ _))))); refine onto_end ?_; intro w1 hx1)
      go_wp2_with fail
      go_roundg (l.length - (j + 1))
      case measure => omega
      case rel => exact ⟨j + 1, by omega, by go_num, (by repeat (first | exact Ext.refl _ | assumption | refine Ext.alloc ?_ _ | refine Ext.drew ?_ | refine Ext.drewN ?_ _ | refine Ext.setCell ?_ (by first | (simp; done) | (simp; omega) | omega) _ | refine Ext.trans ?_ (by assumption)))⟩
    · obtain rfl : j = l.length := by omega
      go_wp2_with fail
      go_ret
      exact ⟨rfl, (by repeat (first | exact Ext.refl _ | assumption | refine Ext.alloc ?_ _ | refine Ext.drew ?_ | refine Ext.drewN ?_ _ | refine Ext.setCell ?_ (by first | (simp; done) | (simp; omega) | omega) _ | refine Ext.trans ?_ (by assumption)))⟩
end Go.Proofs.YtfmnkojjkjkdeaaDoor
