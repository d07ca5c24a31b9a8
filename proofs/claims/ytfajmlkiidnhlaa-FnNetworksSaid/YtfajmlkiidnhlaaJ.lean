/- Contracts: days in sets; days for a network; links that are broken; DoSolve. -/
import Derived.Test.YtfajmlkiidnhlaaI
namespace Go.Proofs.Ytfajmlkiidnhlaa
set_option linter.unusedVariables false
set_option linter.unusedSimpArgs false
open Go.RowKit
attribute [local go_sem] cell_onto

theorem impl_within_b {n lo hi : Int} {b : Bool} (hb : B (lo ≤ n ∧ n ≤ hi) = b) (w : World) : Calls Try.prog 95 #[.int .i64 n, .int .i64 lo, .int .i64 hi] w (RetS (.bool b) w) := by
  subst hb; exact impl_within n lo hi w
theorem spec_l01In_b {n lo hi : Int} {b : Bool} (hb : B (lo ≤ n ∧ n ≤ hi) = b) (w : World) : Calls Try.prog 98 #[.int .i64 n, .int .i64 lo, .int .i64 hi] w (RetS (.bool b) w) := by
  subst hb; exact spec_l01In n lo hi w
def DayIn (l : List Sp) (d : Int) (i : Nat) : Prop := (spAt l i).fr ≤ d ∧ d ≤ (spAt l i).to
theorem hasDay_iff {l : List Sp} {d : Int} : HasDay l d ↔ Some_ l.length (DayIn l d) := Iff.rfl

set_option maxHeartbeats 400000 in
theorem impl_hasDay_1 (a b d : Int) (g : Nat) (w : World) (h : w.cell? ⟨g, 0, none⟩ = some (.int .i64 d)) (hg : g < w.heap.size) :
    Calls Try.prog 176 #[.agg #[.int .i64 a, .int .i64 b], .pointer (some ⟨g, 0, none⟩)] w (RetX (.bool (B (a ≤ d ∧ d ≤ b))) w) := by
  go_enter Try.func176, Try.ntmps176
  go_wp2_with (go_at_call 95; refine (impl_within _ _ _ _).mono ?_; rintro e w1 ⟨rfl, rfl⟩)
  go_ret
  exact ⟨rfl, (by repeat (first | exact Ext.refl _ | assumption | refine Ext.alloc ?_ _ | refine Ext.drew ?_ | refine Ext.drewN ?_ _ | refine Ext.setCell ?_ (by first | (simp; done) | (simp; omega) | omega) _ | refine Ext.trans ?_ (by assumption)))⟩
set_option maxHeartbeats 400000 in
theorem impl_hasDay (v : Value) (l : List Sp) (d : Int) (w : World) (h : Spans w 0 w.heap.size v l) : Calls Try.prog 90 #[v, .int .i64 d] w (RetX (.bool (B (HasDay l d))) w) := by
  have H := Lib.hid h
  clear h
  go_enter Try.func90, Try.ntmps90
  go_wp2_with fail
  have hb := Boxed.new w [.int .i64 d] 2
  refine Calls.mono (containsFunc_spans v l 176 #[.pointer (some ⟨w.heap.size, 0, none⟩)] (DayIn l d) _ (H.out.up (by repeat (first | exact Ext.refl _ | assumption | refine Ext.alloc ?_ _ | refine Ext.drew ?_ | refine Ext.drewN ?_ _ | refine Ext.setCell ?_ (by first | (simp; done) | (simp; omega) | omega) _ | refine Ext.trans ?_ (by assumption)))) Try.call176
    (fun i w' _ hx => impl_hasDay_1 _ _ d _ w' (hb.ext hx).at0 (hb.ext hx).1)) ?_
  rintro e w1 ⟨rfl, hx1⟩
  clear hb
  go_wp2_with fail
  go_ret
  exact ⟨rfl, (by repeat (first | exact Ext.refl _ | assumption | refine Ext.alloc ?_ _ | refine Ext.drew ?_ | refine Ext.drewN ?_ _ | refine Ext.setCell ?_ (by first | (simp; done) | (simp; omega) | omega) _ | refine Ext.trans ?_ (by assumption)))⟩
set_option maxHeartbeats 1000000 in
theorem spec_l02Has (v : Value) (l : List Sp) (d : Int) (w : World) (h : Spans w 0 w.heap.size v l) : Calls Try.prog 178 #[v, .int .i64 d] w (RetX (.bool (B (HasDay l d))) w) := by
  obtain ⟨A, c, rfl, hn, hc⟩ := h.len
  have H := Lib.hid h
  clear h
  go_enter Try.func178, Try.ntmps178
  go_wp2_with fail
  go_loopg [5] l.length (fun k i wr => ∃ j : Nat, j + k = l.length ∧ i = .int .i64 j ∧ Ext w wr ∧ ∀ i, i < j → ¬ DayIn l d i)
  case atStart => exact ⟨0, by omega, rfl, (by repeat (first | exact Ext.refl _ | assumption | refine Ext.alloc ?_ _ | refine Ext.drew ?_ | refine Ext.drewN ?_ _ | refine Ext.setCell ?_ (by first | (simp; done) | (simp; omega) | omega) _ | refine Ext.trans ?_ (by assumption))), fun i hi => absurd hi (by omega)⟩
  case round =>
    obtain ⟨j, hj, rfl, hx, hok⟩ := hrel
    have Hok := Lib.hid hok
    clear hok
    by_cases hlt : j < l.length
    · obtain ⟨b, off, rfl, _, hb, h1, h2⟩ := (H.out.ext hx (Nat.le_refl _)).at_ hlt
      have hbr : b < wr.heap.size := Nat.lt_of_lt_of_le hb hx.size
      by_cases hd : (spAt l j).fr ≤ d ∧ d ≤ (spAt l j).to
      · have Hd := Lib.hid hd
        have Hdb := Lib.hid (B_true hd)
        clear hd
        go_wp2_with fail
        (refine wp_region_onto prog_mixed (by kernel_rfl) ?_; (repeat (go_big_quiet_step ((go_at_call 98; exact onto_callS (spec_l01In_b Hdb.out _))))); refine onto_end ?_; intro w1 hx1)
        go_wp2_with fail
        go_ret
        exact ⟨ret_bool (B_true ⟨j, hlt, Hd.out⟩).symm, (by repeat (first | exact Ext.refl _ | assumption | refine Ext.alloc ?_ _ | refine Ext.drew ?_ | refine Ext.drewN ?_ _ | refine Ext.setCell ?_ (by first | (simp; done) | (simp; omega) | omega) _ | refine Ext.trans ?_ (by assumption)))⟩
      · have Hd := Lib.hid hd
        have Hdb := Lib.hid (B_false hd)
        clear hd
        go_wp2_with fail
        (refine wp_region_onto prog_mixed (by kernel_rfl) ?_; (repeat (go_big_quiet_step ((go_at_call 98; exact onto_callS (spec_l01In_b Hdb.out _))))); refine onto_end ?_; intro w1 hx1)
        go_wp2_with fail
        go_roundg (l.length - (j + 1))
        case measure => omega
        case rel => exact ⟨j + 1, by omega, by go_num, (by repeat (first | exact Ext.refl _ | assumption | refine Ext.alloc ?_ _ | refine Ext.drew ?_ | refine Ext.drewN ?_ _ | refine Ext.setCell ?_ (by first | (simp; done) | (simp; omega) | omega) _ | refine Ext.trans ?_ (by assumption))), netOk_step (P := fun i => ¬ DayIn l d i) Hok.out Hd.out⟩
    · obtain rfl : j = l.length := by omega
      go_wp2_with fail
      go_ret
      exact ⟨ret_bool (B_false (fun ⟨i, hi, hd⟩ => Hok.out i hi hd)).symm, (by repeat (first | exact Ext.refl _ | assumption | refine Ext.alloc ?_ _ | refine Ext.drew ?_ | refine Ext.drewN ?_ _ | refine Ext.setCell ?_ (by first | (simp; done) | (simp; omega) | omega) _ | refine Ext.trans ?_ (by assumption)))⟩
theorem daysOk_iff {l : List Int} : ¬ Some_ l.length (fun i => ¬ DayOk (inAt l i)) ↔ DaysOk l := by
  unfold Some_ DaysOk
  constructor
  · intro h i hi
    exact Classical.byContradiction fun hn => h ⟨i, hi, hn⟩
  · rintro h ⟨i, hi, hn⟩
    exact hn (h i hi)
set_option maxHeartbeats 400000 in
theorem impl_checkDays_1 (d : Int) (w : World) : Calls Try.prog 174 #[.int .i64 d] w (RetX (.bool (B (¬ DayOk d))) w) := by
  go_enter Try.func174, Try.ntmps174
  go_wp2_with (go_at_call 105; refine (impl_isDay _ _).mono ?_; rintro e w1 ⟨rfl, rfl⟩)
  (go_ret; exact ⟨ret_bool (B_eq (by simp [B_not])), (by repeat (first | exact Ext.refl _ | assumption | refine Ext.alloc ?_ _ | refine Ext.drew ?_ | refine Ext.drewN ?_ _ | refine Ext.setCell ?_ (by first | (simp; done) | (simp; omega) | omega) _ | refine Ext.trans ?_ (by assumption)))⟩)
set_option maxHeartbeats 1000000 in
theorem impl_checkDays (s k v : Value) (n : Net) (ds : List Int) (w : World) (h : NetIn w s k n) (hd : Ints w 0 w.heap.size v ds) :
    Calls Try.prog 89 #[.agg #[s, k], v] w (RetX (.int .i64 (dayE n ds)) w) := by
  obtain ⟨A, c, rfl, hn, hc⟩ := h.1.len
  obtain ⟨A', c', rfl, hn', hc'⟩ := hd.len
  have H := Lib.hid h
  have Hd := Lib.hid hd
  clear h hd
  go_enter Try.func89, Try.ntmps89
  go_wp2_with fail
  refine Calls.mono (impl_IsNetwork _ k n _ (H.out.up (by repeat (first | exact Ext.refl _ | assumption | refine Ext.alloc ?_ _ | refine Ext.drew ?_ | refine Ext.drewN ?_ _ | refine Ext.setCell ?_ (by first | (simp; done) | (simp; omega) | omega) _ | refine Ext.trans ?_ (by assumption))))) ?_
  rintro e w1 ⟨rfl, hx1⟩
  have hb := (Boxed.new w [.slice A n.sets.length c, k] 27).ext hx1; have hb0 := hb.at0; have hb1 := hb.at1; have hbg := hb.1; have Hhb := Lib.hid hb; clear hb
  have hx : Ext w w1 := (by repeat (first | exact Ext.refl _ | assumption | refine Ext.alloc ?_ _ | refine Ext.drew ?_ | refine Ext.drewN ?_ _ | refine Ext.setCell ?_ (by first | (simp; done) | (simp; omega) | omega) _ | refine Ext.trans ?_ (by assumption)))
  clear hx1
  by_cases hok : NetOk n
  · have Hok := Lib.hid hok
    clear hok
    rw [B_true Hok.out]
    by_cases hl : ds.length = n.sets.length
    · have hd : ((ds.length : Int) != (n.sets.length : Int)) = false := by simp; omega
      have Hl := Lib.hid hl
      clear hl
      go_wp2_with fail
      refine Calls.mono (containsFunc_ints _ ds 174 #[] (fun i => ¬ DayOk (inAt ds i)) w1 (Hd.out.up hx) Try.call174 (fun i w' _ _ => impl_checkDays_1 _ w')) ?_
      rintro e w2 ⟨rfl, hx2⟩
      by_cases hq : DaysOk ds
      · have Hq := Lib.hid hq
        rw [B_false (fun hh => daysOk_iff.2 hq hh)]
        clear hq
        go_wp2_with fail
        go_ret
        exact ⟨by rw [dayE_ok Hok.out ⟨Hl.out, Hq.out⟩]; rfl, (by repeat (first | exact Ext.refl _ | assumption | refine Ext.alloc ?_ _ | refine Ext.drew ?_ | refine Ext.drewN ?_ _ | refine Ext.setCell ?_ (by first | (simp; done) | (simp; omega) | omega) _ | refine Ext.trans ?_ (by assumption)))⟩
      · have Hq := Lib.hid hq
        rw [B_true (Classical.byContradiction fun hh => hq (daysOk_iff.1 hh))]
        clear hq
        go_wp2_with fail
        go_ret
        exact ⟨by rw [dayE_bad Hok.out (fun hh => Hq.out hh.2)]; rfl, (by repeat (first | exact Ext.refl _ | assumption | refine Ext.alloc ?_ _ | refine Ext.drew ?_ | refine Ext.drewN ?_ _ | refine Ext.setCell ?_ (by first | (simp; done) | (simp; omega) | omega) _ | refine Ext.trans ?_ (by assumption)))⟩
    · have hd : ((ds.length : Int) != (n.sets.length : Int)) = true := by simp; omega
      have Hl := Lib.hid hl
      clear hl
      go_wp2_with fail
      go_ret
      exact ⟨by rw [dayE_bad Hok.out (fun hh => Hl.out hh.1)]; rfl, (by repeat (first | exact Ext.refl _ | assumption | refine Ext.alloc ?_ _ | refine Ext.drew ?_ | refine Ext.drewN ?_ _ | refine Ext.setCell ?_ (by first | (simp; done) | (simp; omega) | omega) _ | refine Ext.trans ?_ (by assumption)))⟩
  · have Hok := Lib.hid hok
    clear hok
    rw [B_false Hok.out]
    go_wp2_with fail
    go_ret
    exact ⟨by rw [dayE_net Hok.out]; rfl, (by repeat (first | exact Ext.refl _ | assumption | refine Ext.alloc ?_ _ | refine Ext.drew ?_ | refine Ext.drewN ?_ _ | refine Ext.setCell ?_ (by first | (simp; done) | (simp; omega) | omega) _ | refine Ext.trans ?_ (by assumption)))⟩
set_option maxHeartbeats 1000000 in
theorem spec_l18Code (s k v : Value) (n : Net) (ds : List Int) (w : World) (h : NetIn w s k n) (hd : Ints w 0 w.heap.size v ds) :
    Calls Try.prog 92 #[.agg #[s, k], v] w (RetX (.int .i64 (dayE n ds)) w) := by
  obtain ⟨A, c, rfl, hn, hc⟩ := h.1.len
  obtain ⟨A', c', rfl, hn', hc'⟩ := hd.len
  have H := Lib.hid h
  have Hd := Lib.hid hd
  clear h hd
  go_enter Try.func92, Try.ntmps92
  go_wp2_with fail
  refine Calls.mono (spec_IsNetwork _ k n _ (H.out.up (by repeat (first | exact Ext.refl _ | assumption | refine Ext.alloc ?_ _ | refine Ext.drew ?_ | refine Ext.drewN ?_ _ | refine Ext.setCell ?_ (by first | (simp; done) | (simp; omega) | omega) _ | refine Ext.trans ?_ (by assumption))))) ?_
  rintro e w1 ⟨rfl, hx1⟩
  have hb := (Boxed.new w [.slice A n.sets.length c, k] 27).ext hx1; have hb0 := hb.at0; have hb1 := hb.at1; have hbg := hb.1; have Hhb := Lib.hid hb; clear hb
  have hx : Ext w w1 := (by repeat (first | exact Ext.refl _ | assumption | refine Ext.alloc ?_ _ | refine Ext.drew ?_ | refine Ext.drewN ?_ _ | refine Ext.setCell ?_ (by first | (simp; done) | (simp; omega) | omega) _ | refine Ext.trans ?_ (by assumption)))
  clear hx1
  by_cases hok : NetOk n
  · have Hok := Lib.hid hok
    clear hok
    rw [B_true Hok.out]
    go_wp2_with fail
    go_loopg [5] ds.length (fun q i wr => ∃ j : Nat, j + q = ds.length ∧ i = .int .i64 j ∧ Ext w1 wr ∧ ∀ i, i < j → DayOk (inAt ds i))
    case atStart => exact ⟨0, by omega, rfl, (by repeat (first | exact Ext.refl _ | assumption | refine Ext.alloc ?_ _ | refine Ext.drew ?_ | refine Ext.drewN ?_ _ | refine Ext.setCell ?_ (by first | (simp; done) | (simp; omega) | omega) _ | refine Ext.trans ?_ (by assumption))), fun i hi => absurd hi (by omega)⟩
    case round =>
      obtain ⟨j, hj, rfl, hxr, hds⟩ := hrel
      have hb := (Hhb.out.ext hxr); have hb0 := hb.at0; have hb1 := hb.at1; have hbg := hb.1; have Hhb := Lib.hid hb; clear hb
      have Hds := Lib.hid hds
      clear hds
      by_cases hlt : j < ds.length
      · obtain ⟨b, off, rfl, _, hbl, h1⟩ := (Hd.out.ext (hx.trans hxr) (Nat.le_refl _)).at_ hlt
        by_cases hq : DayOk (inAt ds j)
        · have Hq := Lib.hid hq
          go_wp2_with fail
          refine Calls.mono (spec_l01Day _ _) ?_
          rintro e w2 ⟨rfl, rfl⟩
          rw [B_true hq]
          clear hq
          go_wp2_with fail
          go_roundg (ds.length - (j + 1))
          case measure => omega
          case rel => exact ⟨j + 1, by omega, by go_num, (by repeat (first | exact Ext.refl _ | assumption | refine Ext.alloc ?_ _ | refine Ext.drew ?_ | refine Ext.drewN ?_ _ | refine Ext.setCell ?_ (by first | (simp; done) | (simp; omega) | omega) _ | refine Ext.trans ?_ (by assumption))), netOk_step Hds.out Hq.out⟩
        · have Hq := Lib.hid hq
          go_wp2_with fail
          refine Calls.mono (spec_l01Day _ _) ?_
          rintro e w2 ⟨rfl, rfl⟩
          rw [B_false hq]
          clear hq
          go_wp2_with fail
          go_ret
          exact ⟨by rw [dayE_bad Hok.out (fun hh => Hq.out (hh.2 j hlt))]; rfl, (by repeat (first | exact Ext.refl _ | assumption | refine Ext.alloc ?_ _ | refine Ext.drew ?_ | refine Ext.drewN ?_ _ | refine Ext.setCell ?_ (by first | (simp; done) | (simp; omega) | omega) _ | refine Ext.trans ?_ (by assumption)))⟩
      · obtain rfl : j = ds.length := by omega
        by_cases hl : ds.length = n.sets.length
        · have hdd : ((ds.length : Int) != (n.sets.length : Int)) = false := by simp; omega
          have Hl := Lib.hid hl
          clear hl
          go_wp2_with fail
          go_ret
          exact ⟨by rw [dayE_ok Hok.out ⟨Hl.out, Hds.out⟩]; rfl, (by repeat (first | exact Ext.refl _ | assumption | refine Ext.alloc ?_ _ | refine Ext.drew ?_ | refine Ext.drewN ?_ _ | refine Ext.setCell ?_ (by first | (simp; done) | (simp; omega) | omega) _ | refine Ext.trans ?_ (by assumption)))⟩
        · have hdd : ((ds.length : Int) != (n.sets.length : Int)) = true := by simp; omega
          have Hl := Lib.hid hl
          clear hl
          go_wp2_with fail
          go_ret
          exact ⟨by rw [dayE_bad Hok.out (fun hh => Hl.out hh.1)]; rfl, (by repeat (first | exact Ext.refl _ | assumption | refine Ext.alloc ?_ _ | refine Ext.drew ?_ | refine Ext.drewN ?_ _ | refine Ext.setCell ?_ (by first | (simp; done) | (simp; omega) | omega) _ | refine Ext.trans ?_ (by assumption)))⟩
  · have Hok := Lib.hid hok
    clear hok
    rw [B_false Hok.out]
    go_wp2_with fail
    go_ret
    exact ⟨by rw [dayE_net Hok.out]; rfl, (by repeat (first | exact Ext.refl _ | assumption | refine Ext.alloc ?_ _ | refine Ext.drew ?_ | refine Ext.drewN ?_ _ | refine Ext.setCell ?_ (by first | (simp; done) | (simp; omega) | omega) _ | refine Ext.trans ?_ (by assumption)))⟩
end Go.Proofs.Ytfajmlkiidnhlaa
