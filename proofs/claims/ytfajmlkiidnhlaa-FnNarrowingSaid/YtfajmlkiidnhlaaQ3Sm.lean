/- Contracts: slices.Equal over spans, slices.EqualFunc over sets, sameSets; days counted of sets that may be long. -/
import Derived.Test.YtfajmlkiidnhlaaQ3Na
import Derived.Test.YtfajmlkiidnhlaaQ3H
namespace Go.Proofs.Ytfajmlkiidnhlaa
set_option linter.unusedVariables false
set_option linter.unusedSimpArgs false
open Go.RowKit
attribute [local go_sem] cell_onto

theorem sp_ext {a b : List Sp} (hl : a.length = b.length) (h : ∀ i, i < a.length → spAt a i = spAt b i) : a = b := by
  refine List.ext_getElem hl (fun i h1 h2 => ?_)
  have := h i h1
  unfold spAt at this
  rw [List.getD_eq_getElem?_getD, List.getD_eq_getElem?_getD, List.getElem?_eq_getElem h1, List.getElem?_eq_getElem h2] at this
  exact this
theorem Sp.eta_eq {a b : Sp} : a = b ↔ a.fr = b.fr ∧ a.to = b.to := by
  cases a; cases b; simp
set_option maxHeartbeats 1000000 in
theorem slices_Equal_spans (v u : Value) (l m : List Sp) (w : World) (h : Spans w 0 w.heap.size v l) (h2 : Spans w 0 w.heap.size u m) :
    Calls Try.prog 204 #[v, u] w (RetX (.bool (B (l = m))) w) := by
  obtain ⟨A, c, rfl, hn, hc⟩ := h.len
  obtain ⟨A', c', rfl, hn', hc'⟩ := h2.len
  have H := Lib.hid h
  have H2 := Lib.hid h2
  clear h h2
  by_cases hl : l.length = m.length
  · have hd : ((l.length : Int) != (m.length : Int)) = false := by rw [hl]; exact bne_self_eq_false _
    have Hl := Lib.hid hl
    go_enter Try.func204, Try.ntmps204
    go_wp2_with fail
    go_loopg [5, 13] l.length (fun q x i wr => ∃ j : Nat, j + q = l.length ∧ i = .int .i64 j ∧ Ext w wr ∧ Hid (∀ i, i < j → spAt l i = spAt m i))
    case atStart => exact ⟨0, by omega, rfl, (by repeat (first | exact Ext.refl _ | assumption | refine Ext.alloc ?_ _ | refine Ext.drew ?_ | refine Ext.drewN ?_ _ | refine Ext.setCell ?_ (by first | (simp; done) | (simp; omega) | omega) _ | refine Ext.trans ?_ (by assumption))), Lib.hid (fun i hi => absurd hi (by omega))⟩
    case round =>
      obtain ⟨j, hj, rfl, hx, He⟩ := hrel
      by_cases hlt : j < l.length
      · have hlt' : j < m.length := by omega
        obtain ⟨b, off, rfl, _, hb, c1, c2⟩ := (H.out.ext hx (Nat.le_refl _)).at_ hlt
        obtain ⟨b', off', rfl, _, hb', c3, c4⟩ := (H2.out.ext hx (Nat.le_refl _)).at_ hlt'
        have hbr : b < wr.heap.size := Nat.lt_of_lt_of_le hb hx.size
        have hbr' : b' < wr.heap.size := Nat.lt_of_lt_of_le hb' hx.size
        by_cases he : spAt l j = spAt m j
        · have He' := Lib.hid he
          rw [he] at c1 c2
          clear he
          go_wp2_with fail
          (refine wp_region_onto prog_mixed (by kernel_rfl) ?_; (repeat (go_big_quiet_step ((fail)))); refine onto_end ?_; intro w1 hx1)
          go_wp2_with fail
          go_roundg (l.length - (j + 1))
          case measure => omega
          case rel =>
            refine ⟨j + 1, by omega, by go_num, (by repeat (first | exact Ext.refl _ | assumption | refine Ext.alloc ?_ _ | refine Ext.drew ?_ | refine Ext.drewN ?_ _ | refine Ext.setCell ?_ (by first | (simp; done) | (simp; omega) | omega) _ | refine Ext.trans ?_ (by assumption))), Lib.hid (fun i hi => ?_)⟩
            by_cases e : i = j
            · subst e; exact He'.out
            · exact He.out i (by omega)
        · have He' := Lib.hid he
          by_cases he1 : (spAt l j).fr = (spAt m j).fr
          · have he2 : ((spAt l j).to == (spAt m j).to) = false := by
              rw [beq_eq_false_iff_ne]
              exact fun hh => He'.out (Sp.eta_eq.2 ⟨he1, hh⟩)
            go_wp2_with fail
            (refine wp_region_onto prog_mixed (by kernel_rfl) ?_; (repeat (go_big_quiet_step ((fail)))); refine onto_end ?_; intro w1 hx1)
            go_wp2_with fail
            go_ret
            exact ⟨ret_bool (B_false (fun hh => He'.out (by rw [hh]))).symm, (by repeat (first | exact Ext.refl _ | assumption | refine Ext.alloc ?_ _ | refine Ext.drew ?_ | refine Ext.drewN ?_ _ | refine Ext.setCell ?_ (by first | (simp; done) | (simp; omega) | omega) _ | refine Ext.trans ?_ (by assumption)))⟩
          · have he2 : ((spAt l j).fr == (spAt m j).fr) = false := by
              rw [beq_eq_false_iff_ne]
              exact he1
            go_wp2_with fail
            (refine wp_region_onto prog_mixed (by kernel_rfl) ?_; (repeat (go_big_quiet_step ((fail)))); refine onto_end ?_; intro w1 hx1)
            go_wp2_with fail
            go_ret
            exact ⟨ret_bool (B_false (fun hh => He'.out (by rw [hh]))).symm, (by repeat (first | exact Ext.refl _ | assumption | refine Ext.alloc ?_ _ | refine Ext.drew ?_ | refine Ext.drewN ?_ _ | refine Ext.setCell ?_ (by first | (simp; done) | (simp; omega) | omega) _ | refine Ext.trans ?_ (by assumption)))⟩
      · obtain rfl : j = l.length := by omega
        go_wp2_with fail
        go_ret
        exact ⟨ret_bool (B_true (sp_ext Hl.out He.out)).symm, (by repeat (first | exact Ext.refl _ | assumption | refine Ext.alloc ?_ _ | refine Ext.drew ?_ | refine Ext.drewN ?_ _ | refine Ext.setCell ?_ (by first | (simp; done) | (simp; omega) | omega) _ | refine Ext.trans ?_ (by assumption)))⟩
  · have hd : ((l.length : Int) != (m.length : Int)) = true := by rw [bne_iff_ne]; omega
    have Hl := Lib.hid hl
    clear hl
    go_enter Try.func204, Try.ntmps204
    go_wp2_with fail
    go_ret
    exact ⟨ret_bool (B_false (fun hh => Hl.out (by rw [hh]))).symm, (by repeat (first | exact Ext.refl _ | assumption | refine Ext.alloc ?_ _ | refine Ext.drew ?_ | refine Ext.drewN ?_ _ | refine Ext.setCell ?_ (by first | (simp; done) | (simp; omega) | omega) _ | refine Ext.trans ?_ (by assumption)))⟩
set_option maxHeartbeats 1000000 in
theorem slices_EqualFunc_sets (v u : Value) (l m : List (List Sp)) (w : World) (h : Sets w 0 w.heap.size v l) (h2 : Sets w 0 w.heap.size u m) :
    Calls Try.prog 203 #[v, u, .func (.func 204) #[] #[]] w (RetX (.bool (B (l = m))) w) := by
  obtain ⟨A, c, rfl, hn, hc⟩ := h.len
  obtain ⟨A', c', rfl, hn', hc'⟩ := h2.len
  have H := Lib.hid h
  have H2 := Lib.hid h2
  clear h h2
  by_cases hl : l.length = m.length
  · have hd : ((l.length : Int) != (m.length : Int)) = false := by rw [hl]; exact bne_self_eq_false _
    have Hl := Lib.hid hl
    clear hl
    go_enter Try.func203, Try.ntmps203
    go_wp2_with fail
    go_loopg [7, 8, 9, 17] l.length (fun q x7 x8 x9 i wr => ∃ j : Nat, j + q = l.length ∧ i = .int .i64 j ∧ Ext w wr ∧ Hid (∀ i, i < j → setAt l i = setAt m i))
    case atStart => exact ⟨0, by omega, rfl, (by repeat (first | exact Ext.refl _ | assumption | refine Ext.alloc ?_ _ | refine Ext.drew ?_ | refine Ext.drewN ?_ _ | refine Ext.setCell ?_ (by first | (simp; done) | (simp; omega) | omega) _ | refine Ext.trans ?_ (by assumption))), Lib.hid (fun i hi => absurd hi (by omega))⟩
    case round =>
      obtain ⟨j, hj, rfl, hx, He⟩ := hrel
      by_cases hlt : j < l.length
      · have hlt' : j < m.length := by have := Hl.out; omega
        obtain ⟨b, off, a1, rfl, _, hb, c1, s1⟩ := (H.out.ext hx (Nat.le_refl _)).at_ hlt
        obtain ⟨b', off', a2, rfl, _, hb', c3, s2⟩ := (H2.out.ext hx (Nat.le_refl _)).at_ hlt'
        have S1 := Lib.hid (s1.mono (Nat.le_refl 0) hx.size)
        have S2 := Lib.hid (s2.mono (Nat.le_refl 0) hx.size)
        clear s1 s2
        go_wp2_with fail
        refine Calls.mono (slices_Equal_spans a1 a2 _ _ _ (S1.out.ext (by repeat (first | exact Ext.refl _ | assumption | refine Ext.alloc ?_ _ | refine Ext.drew ?_ | refine Ext.drewN ?_ _ | refine Ext.setCell ?_ (by first | (simp; done) | (simp; omega) | omega) _ | refine Ext.trans ?_ (by assumption))) (Nat.le_refl _)) (S2.out.ext (by repeat (first | exact Ext.refl _ | assumption | refine Ext.alloc ?_ _ | refine Ext.drew ?_ | refine Ext.drewN ?_ _ | refine Ext.setCell ?_ (by first | (simp; done) | (simp; omega) | omega) _ | refine Ext.trans ?_ (by assumption))) (Nat.le_refl _))) ?_
        rintro e w1 ⟨rfl, hx1⟩
        by_cases he : setAt l j = setAt m j
        · have He' := Lib.hid he
          rw [B_true he]
          clear he
          go_wp2_with fail
          go_roundg (l.length - (j + 1))
          case measure => omega
          case rel =>
            refine ⟨j + 1, by omega, by go_num, (by repeat (first | exact Ext.refl _ | assumption | refine Ext.alloc ?_ _ | refine Ext.drew ?_ | refine Ext.drewN ?_ _ | refine Ext.setCell ?_ (by first | (simp; done) | (simp; omega) | omega) _ | refine Ext.trans ?_ (by assumption))), Lib.hid (fun i hi => ?_)⟩
            by_cases e : i = j
            · subst e; exact He'.out
            · exact He.out i (by omega)
        · have He' := Lib.hid he
          rw [B_false he]
          clear he
          go_wp2_with fail
          go_ret
          exact ⟨ret_bool (B_false (fun hh => He'.out (by rw [hh]))).symm, (by repeat (first | exact Ext.refl _ | assumption | refine Ext.alloc ?_ _ | refine Ext.drew ?_ | refine Ext.drewN ?_ _ | refine Ext.setCell ?_ (by first | (simp; done) | (simp; omega) | omega) _ | refine Ext.trans ?_ (by assumption)))⟩
      · obtain rfl : j = l.length := by omega
        go_wp2_with fail
        go_ret
        exact ⟨ret_bool (B_true (setAt_ext Hl.out He.out)).symm, (by repeat (first | exact Ext.refl _ | assumption | refine Ext.alloc ?_ _ | refine Ext.drew ?_ | refine Ext.drewN ?_ _ | refine Ext.setCell ?_ (by first | (simp; done) | (simp; omega) | omega) _ | refine Ext.trans ?_ (by assumption)))⟩
  · have hd : ((l.length : Int) != (m.length : Int)) = true := by rw [bne_iff_ne]; omega
    have Hl := Lib.hid hl
    clear hl
    go_enter Try.func203, Try.ntmps203
    go_wp2_with fail
    go_ret
    exact ⟨ret_bool (B_false (fun hh => Hl.out (by rw [hh]))).symm, (by repeat (first | exact Ext.refl _ | assumption | refine Ext.alloc ?_ _ | refine Ext.drew ?_ | refine Ext.drewN ?_ _ | refine Ext.setCell ?_ (by first | (simp; done) | (simp; omega) | omega) _ | refine Ext.trans ?_ (by assumption)))⟩
set_option maxHeartbeats 1000000 in
theorem impl_sameSets (s k s' k' : Value) (n m : Net) (w : World) (h : NetIn w s k n) (h2 : NetIn w s' k' m) :
    Calls Try.prog 152 #[.agg #[s, k], .agg #[s', k']] w (RetX (.bool (B (n.sets = m.sets))) w) := by
  have H := Lib.hid h
  have H2 := Lib.hid h2
  clear h h2
  go_enter Try.func152, Try.ntmps152
  go_wp2_with (go_at_call 203; refine Calls.mono (slices_EqualFunc_sets s s' n.sets m.sets _ (H.out.up (by repeat (first | exact Ext.refl _ | assumption | refine Ext.alloc ?_ _ | refine Ext.drew ?_ | refine Ext.drewN ?_ _ | refine Ext.setCell ?_ (by first | (simp; done) | (simp; omega) | omega) _ | refine Ext.trans ?_ (by assumption)))).1 (H2.out.up (by repeat (first | exact Ext.refl _ | assumption | refine Ext.alloc ?_ _ | refine Ext.drew ?_ | refine Ext.drewN ?_ _ | refine Ext.setCell ?_ (by first | (simp; done) | (simp; omega) | omega) _ | refine Ext.trans ?_ (by assumption)))).1) ?_; rintro e w1 ⟨rfl, hx1⟩)
  go_ret
  exact ⟨rfl, (by repeat (first | exact Ext.refl _ | assumption | refine Ext.alloc ?_ _ | refine Ext.drew ?_ | refine Ext.drewN ?_ _ | refine Ext.setCell ?_ (by first | (simp; done) | (simp; omega) | omega) _ | refine Ext.trans ?_ (by assumption)))⟩
set_option maxHeartbeats 1000000 in
theorem spec_l02Count_d (v : Value) (l : List Sp) (w : World) (h : Spans w 0 w.heap.size v l) (hok : SetD l) : Calls Try.prog 205 #[v] w (RetX (.int .i64 (days l)) w) := by
  obtain ⟨A, c, rfl, hn, hc⟩ := h.len
  have H := Lib.hid h
  have Hok := Lib.hid hok
  have hlen := hok.len
  clear h hok
  go_enter Try.func205, Try.ntmps205
  go_wp2_with fail
  go_loopg [3, 4] l.length (fun k t i wr => ∃ j : Nat, j + k = l.length ∧ i = .int .i64 j ∧ t = .int .i64 (daysTo l j) ∧ Ext w wr)
  case atStart => exact ⟨0, by omega, rfl, rfl, (by repeat (first | exact Ext.refl _ | assumption | refine Ext.alloc ?_ _ | refine Ext.drew ?_ | refine Ext.drewN ?_ _ | refine Ext.setCell ?_ (by first | (simp; done) | (simp; omega) | omega) _ | refine Ext.trans ?_ (by assumption)))⟩
  case round =>
    obtain ⟨j, hj, rfl, rfl, hx⟩ := hrel
    have hbd := daysTo_d Hok.out j (by omega)
    by_cases hlt : j < l.length
    · obtain ⟨b, off, rfl, _, hb, h1, h2⟩ := (H.out.ext hx (Nat.le_refl _)).at_ hlt
      have hbr : b < wr.heap.size := Nat.lt_of_lt_of_le hb hx.size
      obtain ⟨⟨a1, a2⟩, ⟨a3, a4⟩⟩ := Hok.out.2 j hlt
      go_wp2_with fail
      (refine wp_region_onto prog_mixed (by kernel_rfl) ?_; (repeat (go_big_quiet_step ((fail)))); refine onto_end ?_; intro w1 hx1)
      go_wp2_with fail
      go_roundg (l.length - (j + 1))
      case measure => omega
      case rel => exact ⟨j + 1, by omega, by go_num, by simp only [daysTo]; congr 1; omega, (by repeat (first | exact Ext.refl _ | assumption | refine Ext.alloc ?_ _ | refine Ext.drew ?_ | refine Ext.drewN ?_ _ | refine Ext.setCell ?_ (by first | (simp; done) | (simp; omega) | omega) _ | refine Ext.trans ?_ (by assumption)))⟩
    · obtain rfl : j = l.length := by omega
      go_wp2_with fail
      go_ret
      exact ⟨rfl, (by repeat (first | exact Ext.refl _ | assumption | refine Ext.alloc ?_ _ | refine Ext.drew ?_ | refine Ext.drewN ?_ _ | refine Ext.setCell ?_ (by first | (simp; done) | (simp; omega) | omega) _ | refine Ext.trans ?_ (by assumption)))⟩
set_option maxHeartbeats 1000000 in
theorem spec_l19Count_d (s k : Value) (n : Net) (w : World) (h : NetIn w s k n) (hok : NetD n) : Calls Try.prog 155 #[.agg #[s, k]] w (RetX (.int .i64 (netDays n.sets)) w) := by
  obtain ⟨A, c, rfl, hn, hc⟩ := h.1.len
  have H := Lib.hid h
  have Hok := Lib.hid hok
  have h8 := hok.1
  clear h hok
  go_enter Try.func155, Try.ntmps155
  go_wp2_with fail
  go_loopg [3, 4] n.sets.length (fun m t i wr => ∃ j : Nat, j + m = n.sets.length ∧ i = .int .i64 j ∧ t = .int .i64 (netDaysTo n.sets j) ∧ Ext w wr ∧ Boxed wr w.heap.size [.slice A n.sets.length c, k])
  case atStart => exact ⟨0, by omega, rfl, rfl, (by repeat (first | exact Ext.refl _ | assumption | refine Ext.alloc ?_ _ | refine Ext.drew ?_ | refine Ext.drewN ?_ _ | refine Ext.setCell ?_ (by first | (simp; done) | (simp; omega) | omega) _ | refine Ext.trans ?_ (by assumption))), Boxed.new w _ _⟩
  case round =>
    obtain ⟨j, hj, rfl, rfl, hx, hbb⟩ := hrel
    have hb := hbb; have hb0 := hb.at0; have hb1 := hb.at1; have hbg := hb.1; have Hhb := Lib.hid hb; clear hb
    clear hbb
    have hbd := netDaysTo_d Hok.out.sets j (by omega)
    by_cases hlt : j < n.sets.length
    · obtain ⟨b, off, u, rfl, _, hbl, h1, h2⟩ := (H.out.1.ext hx (Nat.le_refl _)).at_ hlt
      have H2 := Lib.hid (h2.mono (Nat.le_refl 0) hx.size)
      have hday : 0 ≤ days (setAt n.sets j) ∧ days (setAt n.sets j) ≤ 730500 := daysTo_d (Hok.out.sets j hlt) _ (Nat.le_refl _)
      clear h2
      go_wp2_with fail
      refine Calls.mono (spec_l02Count_d u _ wr H2.out (Hok.out.sets j hlt)) ?_
      rintro e w1 ⟨rfl, hx1⟩
      go_wp2_with fail
      go_roundg (n.sets.length - (j + 1))
      case measure => omega
      case rel => exact ⟨j + 1, by omega, by go_num, by simp only [netDaysTo], (by repeat (first | exact Ext.refl _ | assumption | refine Ext.alloc ?_ _ | refine Ext.drew ?_ | refine Ext.drewN ?_ _ | refine Ext.setCell ?_ (by first | (simp; done) | (simp; omega) | omega) _ | refine Ext.trans ?_ (by assumption))), Hhb.out.ext hx1⟩
    · obtain rfl : j = n.sets.length := by omega
      go_wp2_with fail
      go_ret
      exact ⟨rfl, (by repeat (first | exact Ext.refl _ | assumption | refine Ext.alloc ?_ _ | refine Ext.drew ?_ | refine Ext.drewN ?_ _ | refine Ext.setCell ?_ (by first | (simp; done) | (simp; omega) | omega) _ | refine Ext.trans ?_ (by assumption)))⟩
end Go.Proofs.Ytfajmlkiidnhlaa
