/- Texts merged (a claim holds at most sixty files): G, H, I, J. -/
import Derived.Test.YtfajmlkiidnhlaaQ4E
import Derived.Test.YtfajmlkiidnhlaaQ4Lib
/- Contracts: counts of statements, of days, of choices. -/
namespace Go.Proofs.Ytfajmlkiidnhlaa
set_option linter.unusedVariables false
set_option linter.unusedSimpArgs false
open Go.RowKit
attribute [local go_sem] cell_onto

set_option maxHeartbeats 400000 in
theorem impl_statementsOf (s k : Value) (n : Net) (w : World) (h : NetIn w s k n) (hok : n.sets.length ≤ 1048576 ∧ n.links.length ≤ 1048576) :
    Calls Try.prog 124 #[.agg #[s, k]] w (RetX (.int .i64 ((n.sets.length : Int) + n.links.length)) w) := by
  obtain ⟨A, c, rfl, hn, hc⟩ := h.1.len
  obtain ⟨A', c', rfl, hn', hc'⟩ := h.2.len
  obtain ⟨h1, h2⟩ := hok
  clear h
  go_enter Try.func124, Try.ntmps124
  go_wp2_with fail
  go_ret
  exact ⟨rfl, (by repeat (first | exact Ext.refl _ | assumption | refine Ext.alloc ?_ _ | refine Ext.drew ?_ | refine Ext.drewN ?_ _ | refine Ext.setCell ?_ (by first | (simp; done) | (simp; omega) | omega) _ | refine Ext.trans ?_ (by assumption)))⟩
set_option maxHeartbeats 400000 in
theorem spec_l21Count (s k : Value) (n : Net) (w : World) (h : NetIn w s k n) (hok : n.sets.length ≤ 1048576 ∧ n.links.length ≤ 1048576) :
    Calls Try.prog 136 #[.agg #[s, k]] w (RetX (.int .i64 ((n.sets.length : Int) + n.links.length)) w) := by
  obtain ⟨A, c, rfl, hn, hc⟩ := h.1.len
  obtain ⟨A', c', rfl, hn', hc'⟩ := h.2.len
  obtain ⟨h1, h2⟩ := hok
  clear h
  go_enter Try.func136, Try.ntmps136
  go_wp2_with fail
  go_ret
  exact ⟨rfl, (by repeat (first | exact Ext.refl _ | assumption | refine Ext.alloc ?_ _ | refine Ext.drew ?_ | refine Ext.drewN ?_ _ | refine Ext.setCell ?_ (by first | (simp; done) | (simp; omega) | omega) _ | refine Ext.trans ?_ (by assumption)))⟩
set_option maxHeartbeats 400000 in
theorem impl_CountStatements (s k : Value) (n : Net) (w : World) (h : NetIn w s k n) :
    Calls Try.prog 42 #[.agg #[s, k]] w (RetX (.tuple #[.int .i64 (stmV n), .int .i64 (netE n)]) w) := by
  have H := Lib.hid h
  clear h
  go_enter Try.func42, Try.ntmps42
  go_wp2_with fail
  refine Calls.mono (impl_IsNetwork s k n _ (H.out.up (by repeat (first | exact Ext.refl _ | assumption | refine Ext.alloc ?_ _ | refine Ext.drew ?_ | refine Ext.drewN ?_ _ | refine Ext.setCell ?_ (by first | (simp; done) | (simp; omega) | omega) _ | refine Ext.trans ?_ (by assumption))))) ?_
  rintro e w1 ⟨rfl, hx1⟩
  have hb := (Boxed.new w [s, k] 27).ext hx1; have hb0 := hb.at0; have hb1 := hb.at1; have hbg := hb.1; have Hhb := Lib.hid hb; clear hb
  have hx : Ext w w1 := (by repeat (first | exact Ext.refl _ | assumption | refine Ext.alloc ?_ _ | refine Ext.drew ?_ | refine Ext.drewN ?_ _ | refine Ext.setCell ?_ (by first | (simp; done) | (simp; omega) | omega) _ | refine Ext.trans ?_ (by assumption)))
  clear hx1
  by_cases hok : NetOk n
  · have Hok := Lib.hid hok
    clear hok
    rw [B_true Hok.out]
    go_wp2_with fail
    refine Calls.mono (impl_statementsOf s k n _ (H.out.up hx) ⟨by have := Hok.out.1; omega, by have := Hok.out.2.1; omega⟩) ?_
    rintro e w2 ⟨rfl, hx2⟩
    go_wp2_with fail
    go_ret2
    exact ⟨by rw [stmV_ok Hok.out, netE_ok Hok.out]; rfl, (by repeat (first | exact Ext.refl _ | assumption | refine Ext.alloc ?_ _ | refine Ext.drew ?_ | refine Ext.drewN ?_ _ | refine Ext.setCell ?_ (by first | (simp; done) | (simp; omega) | omega) _ | refine Ext.trans ?_ (by assumption)))⟩
  · have Hok := Lib.hid hok
    clear hok
    rw [B_false Hok.out]
    go_wp2_with fail
    go_ret2
    exact ⟨by rw [stmV_no Hok.out, netE_no Hok.out]; rfl, (by repeat (first | exact Ext.refl _ | assumption | refine Ext.alloc ?_ _ | refine Ext.drew ?_ | refine Ext.drewN ?_ _ | refine Ext.setCell ?_ (by first | (simp; done) | (simp; omega) | omega) _ | refine Ext.trans ?_ (by assumption)))⟩
set_option maxHeartbeats 400000 in
theorem spec_CountStatements (s k : Value) (n : Net) (w : World) (h : NetIn w s k n) :
    Calls Try.prog 43 #[.agg #[s, k]] w (RetX (.tuple #[.int .i64 (stmV n), .int .i64 (netE n)]) w) := by
  have H := Lib.hid h
  clear h
  go_enter Try.func43, Try.ntmps43
  go_wp2_with fail
  refine Calls.mono (spec_IsNetwork s k n _ (H.out.up (by repeat (first | exact Ext.refl _ | assumption | refine Ext.alloc ?_ _ | refine Ext.drew ?_ | refine Ext.drewN ?_ _ | refine Ext.setCell ?_ (by first | (simp; done) | (simp; omega) | omega) _ | refine Ext.trans ?_ (by assumption))))) ?_
  rintro e w1 ⟨rfl, hx1⟩
  have hb := (Boxed.new w [s, k] 27).ext hx1; have hb0 := hb.at0; have hb1 := hb.at1; have hbg := hb.1; have Hhb := Lib.hid hb; clear hb
  have hx : Ext w w1 := (by repeat (first | exact Ext.refl _ | assumption | refine Ext.alloc ?_ _ | refine Ext.drew ?_ | refine Ext.drewN ?_ _ | refine Ext.setCell ?_ (by first | (simp; done) | (simp; omega) | omega) _ | refine Ext.trans ?_ (by assumption)))
  clear hx1
  by_cases hok : NetOk n
  · have Hok := Lib.hid hok
    clear hok
    rw [B_true Hok.out]
    go_wp2_with fail
    refine Calls.mono (spec_l21Count s k n _ (H.out.up hx) ⟨by have := Hok.out.1; omega, by have := Hok.out.2.1; omega⟩) ?_
    rintro e w2 ⟨rfl, hx2⟩
    go_wp2_with fail
    go_ret2
    exact ⟨by rw [stmV_ok Hok.out, netE_ok Hok.out]; rfl, (by repeat (first | exact Ext.refl _ | assumption | refine Ext.alloc ?_ _ | refine Ext.drew ?_ | refine Ext.drewN ?_ _ | refine Ext.setCell ?_ (by first | (simp; done) | (simp; omega) | omega) _ | refine Ext.trans ?_ (by assumption)))⟩
  · have Hok := Lib.hid hok
    clear hok
    rw [B_false Hok.out]
    go_wp2_with fail
    go_ret2
    exact ⟨by rw [stmV_no Hok.out, netE_no Hok.out]; rfl, (by repeat (first | exact Ext.refl _ | assumption | refine Ext.alloc ?_ _ | refine Ext.drew ?_ | refine Ext.drewN ?_ _ | refine Ext.setCell ?_ (by first | (simp; done) | (simp; omega) | omega) _ | refine Ext.trans ?_ (by assumption)))⟩

set_option maxHeartbeats 1000000 in
theorem impl_countDays (v : Value) (l : List Sp) (w : World) (h : Spans w 0 w.heap.size v l) (hok : SetOk l) : Calls Try.prog 150 #[v] w (RetX (.int .i64 (days l)) w) := by
  obtain ⟨A, c, rfl, hn, hc⟩ := h.len
  have H := Lib.hid h
  have Hok := Lib.hid hok
  have h300 := hok.1
  clear h hok
  go_enter Try.func150, Try.ntmps150
  go_wp2_with fail
  go_loopg [3, 8] l.length (fun k t i wr => ∃ j : Nat, j + k = l.length ∧ i = .int .i64 j ∧ t = .int .i64 (daysTo l j) ∧ Ext w wr)
  case atStart => exact ⟨0, by omega, rfl, rfl, (by repeat (first | exact Ext.refl _ | assumption | refine Ext.alloc ?_ _ | refine Ext.drew ?_ | refine Ext.drewN ?_ _ | refine Ext.setCell ?_ (by first | (simp; done) | (simp; omega) | omega) _ | refine Ext.trans ?_ (by assumption)))⟩
  case round =>
    obtain ⟨j, hj, rfl, rfl, hx⟩ := hrel
    have hbd := daysTo_bd Hok.out j (by omega)
    by_cases hlt : j < l.length
    · obtain ⟨b, off, rfl, _, hb, h1, h2⟩ := (H.out.ext hx (Nat.le_refl _)).at_ hlt
      have hbr : b < wr.heap.size := Nat.lt_of_lt_of_le hb hx.size
      have hsp := (Hok.out.2 j hlt).1
      unfold SpOk DayOk at hsp
      obtain ⟨⟨a1, a2⟩, ⟨a3, a4⟩, a5⟩ := hsp
      go_wp2_with fail
      go_roundg (l.length - (j + 1))
      case measure => omega
      case rel => exact ⟨j + 1, by omega, by go_num, by simp only [daysTo], (by repeat (first | exact Ext.refl _ | assumption | refine Ext.alloc ?_ _ | refine Ext.drew ?_ | refine Ext.drewN ?_ _ | refine Ext.setCell ?_ (by first | (simp; done) | (simp; omega) | omega) _ | refine Ext.trans ?_ (by assumption)))⟩
    · obtain rfl : j = l.length := by omega
      go_wp2_with fail
      go_ret
      exact ⟨rfl, (by repeat (first | exact Ext.refl _ | assumption | refine Ext.alloc ?_ _ | refine Ext.drew ?_ | refine Ext.drewN ?_ _ | refine Ext.setCell ?_ (by first | (simp; done) | (simp; omega) | omega) _ | refine Ext.trans ?_ (by assumption)))⟩
set_option maxHeartbeats 1000000 in
theorem spec_l02Count (v : Value) (l : List Sp) (w : World) (h : Spans w 0 w.heap.size v l) (hok : SetOk l) : Calls Try.prog 205 #[v] w (RetX (.int .i64 (days l)) w) := by
  obtain ⟨A, c, rfl, hn, hc⟩ := h.len
  have H := Lib.hid h
  have Hok := Lib.hid hok
  have h300 := hok.1
  clear h hok
  go_enter Try.func205, Try.ntmps205
  go_wp2_with fail
  go_loopg [3, 4] l.length (fun k t i wr => ∃ j : Nat, j + k = l.length ∧ i = .int .i64 j ∧ t = .int .i64 (daysTo l j) ∧ Ext w wr)
  case atStart => exact ⟨0, by omega, rfl, rfl, (by repeat (first | exact Ext.refl _ | assumption | refine Ext.alloc ?_ _ | refine Ext.drew ?_ | refine Ext.drewN ?_ _ | refine Ext.setCell ?_ (by first | (simp; done) | (simp; omega) | omega) _ | refine Ext.trans ?_ (by assumption)))⟩
  case round =>
    obtain ⟨j, hj, rfl, rfl, hx⟩ := hrel
    have hbd := daysTo_bd Hok.out j (by omega)
    by_cases hlt : j < l.length
    · obtain ⟨b, off, rfl, _, hb, h1, h2⟩ := (H.out.ext hx (Nat.le_refl _)).at_ hlt
      have hbr : b < wr.heap.size := Nat.lt_of_lt_of_le hb hx.size
      have hsp := (Hok.out.2 j hlt).1
      unfold SpOk DayOk at hsp
      obtain ⟨⟨a1, a2⟩, ⟨a3, a4⟩, a5⟩ := hsp
      go_wp2_with fail
      (refine wp_region_onto prog_mixed (by kernel_rfl) ?_; (repeat (go_big_quiet_step ((fail)))); refine onto_end ?_; intro w1 hx1)
      go_wp2_with fail
      go_roundg (l.length - (j + 1))
      case measure => omega
      case rel => exact ⟨j + 1, by omega, by go_num, by simp only [daysTo]; congr 1; omega, (by repeat (first | exact Ext.refl _ | assumption | refine Ext.alloc ?_ _ | refine Ext.drew ?_ | refine Ext.drewN ?_ _ | refine Ext.setCell ?_ (by first | (simp; done) | (simp; omega) | omega) _ | refine Ext.trans ?_ (by assumption)))⟩
    · obtain rfl : j = l.length := by omega
      go_wp2_with fail
      go_ret
      exact ⟨rfl, (by repeat (first | exact Ext.refl _ | assumption | refine Ext.alloc ?_ _ | refine Ext.drew ?_ | refine Ext.drewN ?_ _ | refine Ext.setCell ?_ (by first | (simp; done) | (simp; omega) | omega) _ | refine Ext.trans ?_ (by assumption)))⟩
end Go.Proofs.Ytfajmlkiidnhlaa

/- Contracts: lost days, choices. -/
namespace Go.Proofs.Ytfajmlkiidnhlaa
set_option linter.unusedVariables false
set_option linter.unusedSimpArgs false
open Go.RowKit
attribute [local go_sem] cell_onto

set_option maxHeartbeats 1000000 in
theorem spec_l19Count (s k : Value) (n : Net) (w : World) (h : NetIn w s k n) (hok : NetOk n) : Calls Try.prog 155 #[.agg #[s, k]] w (RetX (.int .i64 (netDays n.sets)) w) := by
  obtain ⟨A, c, rfl, hn, hc⟩ := h.1.len
  have H := Lib.hid h
  have Hok := Lib.hid hok
  have h8 := hok.1
  clear h hok
  go_enter Try.func155, Try.ntmps155
  go_wp2_with fail
  go_loopg [3, 4] n.sets.length (fun m t i wr => ∃ j : Nat, j + m = n.sets.length ∧ i = .int .i64 j ∧ t = .int .i64 (netDaysTo n.sets j) ∧ Ext w wr ∧ Boxed wr w.heap.size [.slice A n.sets.length c, k])
  case atStart => exact ⟨0, by omega, rfl, rfl, (by repeat (first | exact Ext.refl _ | assumption | refine Ext.alloc ?_ _ | refine Ext.drew ?_ | refine Ext.drewN ?_ _ | refine Ext.setCell ?_ (by first | (simp; done) | (simp; omega) | omega) _ | refine Ext.trans ?_ (by assumption))), Boxed.new w _ _⟩
  case round =>
    obtain ⟨j, hj, rfl, rfl, hx, hbb⟩ := hrel
    have hb := hbb; have hb0 := hb.at0; have hb1 := hb.at1; have hbg := hb.1; have Hhb := Lib.hid hb; clear hb
    clear hbb
    have hbd := netDaysTo_bd Hok.out j (by omega)
    by_cases hlt : j < n.sets.length
    · obtain ⟨b, off, u, rfl, _, hbl, h1, h2⟩ := (H.out.1.ext hx (Nat.le_refl _)).at_ hlt
      have H2 := Lib.hid (h2.mono (Nat.le_refl 0) hx.size)
      have hday := days_bd (Hok.out.2.2.1 j hlt)
      clear h2
      go_wp2_with fail
      refine Calls.mono (spec_l02Count u _ wr H2.out (Hok.out.2.2.1 j hlt)) ?_
      rintro e w1 ⟨rfl, hx1⟩
      go_wp2_with fail
      go_roundg (n.sets.length - (j + 1))
      case measure => omega
      case rel => exact ⟨j + 1, by omega, by go_num, by simp only [netDaysTo], (by repeat (first | exact Ext.refl _ | assumption | refine Ext.alloc ?_ _ | refine Ext.drew ?_ | refine Ext.drewN ?_ _ | refine Ext.setCell ?_ (by first | (simp; done) | (simp; omega) | omega) _ | refine Ext.trans ?_ (by assumption))), Hhb.out.ext hx1⟩
    · obtain rfl : j = n.sets.length := by omega
      go_wp2_with fail
      go_ret
      exact ⟨rfl, (by repeat (first | exact Ext.refl _ | assumption | refine Ext.alloc ?_ _ | refine Ext.drew ?_ | refine Ext.drewN ?_ _ | refine Ext.setCell ?_ (by first | (simp; done) | (simp; omega) | omega) _ | refine Ext.trans ?_ (by assumption)))⟩
set_option maxHeartbeats 1000000 in
theorem spec_LostDays (s k s' k' : Value) (n m : Net) (w : World) (h : NetIn w s k n) (h' : NetIn w s' k' m) :
    Calls Try.prog 71 #[.agg #[s, k], .agg #[s', k']] w (RetX (.tuple #[.int .i64 (lostV n m), .int .i64 (lostE n m)]) w) := by
  obtain ⟨A, c, rfl, hn, hc⟩ := h.1.len
  obtain ⟨A', c', rfl, hn', hc'⟩ := h'.1.len
  have H := Lib.hid h
  have H' := Lib.hid h'
  clear h h'
  go_enter Try.func71, Try.ntmps71
  go_wp2_with fail
  refine Calls.mono (spec_IsNetwork _ k n _ (H.out.up (by repeat (first | exact Ext.refl _ | assumption | refine Ext.alloc ?_ _ | refine Ext.drew ?_ | refine Ext.drewN ?_ _ | refine Ext.setCell ?_ (by first | (simp; done) | (simp; omega) | omega) _ | refine Ext.trans ?_ (by assumption))))) ?_
  rintro e w1 ⟨rfl, hx1⟩
  have ha := (((Boxed.new w [.slice A n.sets.length c, k] 27).ext ((Ext.refl _).alloc _)).ext hx1); have ha0 := ha.at0; have ha1 := ha.at1; have hag := ha.1; have Hha := Lib.hid ha; clear ha
  have hb := (show Boxed w1 (w.heap.size + 1) [.slice A' m.sets.length c', k'] from by have := (Boxed.new (w.alloc _) [.slice A' m.sets.length c', k'] 27).ext hx1; rwa [World.size_alloc] at this); have hb0 := hb.at0; have hb1 := hb.at1; have hbg := hb.1; have Hhb := Lib.hid hb; clear hb
  have hx : Ext w w1 := (by repeat (first | exact Ext.refl _ | assumption | refine Ext.alloc ?_ _ | refine Ext.drew ?_ | refine Ext.drewN ?_ _ | refine Ext.setCell ?_ (by first | (simp; done) | (simp; omega) | omega) _ | refine Ext.trans ?_ (by assumption)))
  clear hx1
  by_cases h1 : NetOk n
  · have H1 := Lib.hid h1
    clear h1
    rw [B_true H1.out]
    go_wp2_with fail
    refine Calls.mono (spec_IsNetwork _ k' m _ (H'.out.up (by repeat (first | exact Ext.refl _ | assumption | refine Ext.alloc ?_ _ | refine Ext.drew ?_ | refine Ext.drewN ?_ _ | refine Ext.setCell ?_ (by first | (simp; done) | (simp; omega) | omega) _ | refine Ext.trans ?_ (by assumption))))) ?_
    rintro e w2 ⟨rfl, hx2⟩
    have ha := (Hha.out.ext hx2); have ha0 := ha.at0; have ha1 := ha.at1; have hag := ha.1; have Hha := Lib.hid ha; clear ha
    have hb := (Hhb.out.ext hx2); have hb0 := hb.at0; have hb1 := hb.at1; have hbg := hb.1; have Hhb := Lib.hid hb; clear hb
    have hx' : Ext w w2 := (by repeat (first | exact Ext.refl _ | assumption | refine Ext.alloc ?_ _ | refine Ext.drew ?_ | refine Ext.drewN ?_ _ | refine Ext.setCell ?_ (by first | (simp; done) | (simp; omega) | omega) _ | refine Ext.trans ?_ (by assumption)))
    clear hx2
    by_cases h2 : NetOk m
    · have H2 := Lib.hid h2
      clear h2
      rw [B_true H2.out]
      by_cases hl : n.sets.length = m.sets.length
      · have hd : ((n.sets.length : Int) != (m.sets.length : Int)) = false := by simp; omega
        have Hl := Lib.hid (lost_ok ⟨H1.out, H2.out⟩ hl)
        have hb1 := netDays_bd H1.out
        have hb2 := netDays_bd H2.out
        clear hl
        go_wp2_with fail
        (refine wp_region_onto prog_mixed (by kernel_rfl) ?_; (repeat (go_big_quiet_step ((first | (go_at_call 155; with_reducible exact onto_callX (spec_l19Count _ k n _ (H.out.up (hx'.trans (onto_ext _ _))) H1.out)) | (go_at_call 155; with_reducible exact onto_callX (spec_l19Count _ k' m _ (H'.out.up (hx'.trans (onto_ext _ _))) H2.out)))))); refine onto_end ?_; intro w3 hx3)
        go_wp2_with fail
        go_ret2
        exact ⟨by rw [Hl.out.1, Hl.out.2]; rfl, (by repeat (first | exact Ext.refl _ | assumption | refine Ext.alloc ?_ _ | refine Ext.drew ?_ | refine Ext.drewN ?_ _ | refine Ext.setCell ?_ (by first | (simp; done) | (simp; omega) | omega) _ | refine Ext.trans ?_ (by assumption)))⟩
      · have hd : ((n.sets.length : Int) != (m.sets.length : Int)) = true := by simp; omega
        have Hl := Lib.hid (lost_len ⟨H1.out, H2.out⟩ hl)
        clear hl
        go_wp2_with fail
        go_ret2
        exact ⟨by rw [Hl.out.1, Hl.out.2]; rfl, (by repeat (first | exact Ext.refl _ | assumption | refine Ext.alloc ?_ _ | refine Ext.drew ?_ | refine Ext.drewN ?_ _ | refine Ext.setCell ?_ (by first | (simp; done) | (simp; omega) | omega) _ | refine Ext.trans ?_ (by assumption)))⟩
    · have H2 := Lib.hid h2
      clear h2
      rw [B_false H2.out]
      go_wp2_with fail
      go_ret2
      have hl := lost_bad (n := n) (m := m) (fun h => H2.out h.2)
      exact ⟨by rw [hl.1, hl.2]; rfl, (by repeat (first | exact Ext.refl _ | assumption | refine Ext.alloc ?_ _ | refine Ext.drew ?_ | refine Ext.drewN ?_ _ | refine Ext.setCell ?_ (by first | (simp; done) | (simp; omega) | omega) _ | refine Ext.trans ?_ (by assumption)))⟩
  · have H1 := Lib.hid h1
    clear h1
    rw [B_false H1.out]
    go_wp2_with fail
    go_ret2
    have hl := lost_bad (n := n) (m := m) (fun h => H1.out h.1)
    exact ⟨by rw [hl.1, hl.2]; rfl, (by repeat (first | exact Ext.refl _ | assumption | refine Ext.alloc ?_ _ | refine Ext.drew ?_ | refine Ext.drewN ?_ _ | refine Ext.setCell ?_ (by first | (simp; done) | (simp; omega) | omega) _ | refine Ext.trans ?_ (by assumption)))⟩
theorem lostTo_bd {n m : Net} (hn : NetOk n) (hm : NetOk m) (j : Nat) (h1 : j ≤ n.sets.length) (h2 : j ≤ m.sets.length) :
    -1753200000 ≤ netDaysTo n.sets j - netDaysTo m.sets j ∧ netDaysTo n.sets j - netDaysTo m.sets j ≤ 1753200000 := by
  have a := netDaysTo_bd hn j h1
  have b := netDaysTo_bd hm j h2
  have c := hn.1
  omega
set_option maxHeartbeats 1000000 in
theorem impl_LostDays (s k s' k' : Value) (n m : Net) (w : World) (h : NetIn w s k n) (h' : NetIn w s' k' m) :
    Calls Try.prog 70 #[.agg #[s, k], .agg #[s', k']] w (RetX (.tuple #[.int .i64 (lostV n m), .int .i64 (lostE n m)]) w) := by
  obtain ⟨A, c, rfl, hn, hc⟩ := h.1.len
  obtain ⟨A', c', rfl, hn', hc'⟩ := h'.1.len
  have H := Lib.hid h
  have H' := Lib.hid h'
  clear h h'
  go_enter Try.func70, Try.ntmps70
  go_wp2_with fail
  refine Calls.mono (impl_IsNetwork _ k n _ (H.out.up (by repeat (first | exact Ext.refl _ | assumption | refine Ext.alloc ?_ _ | refine Ext.drew ?_ | refine Ext.drewN ?_ _ | refine Ext.setCell ?_ (by first | (simp; done) | (simp; omega) | omega) _ | refine Ext.trans ?_ (by assumption))))) ?_
  rintro e w1 ⟨rfl, hx1⟩
  have ha := (((Boxed.new w [.slice A n.sets.length c, k] 27).ext ((Ext.refl _).alloc _)).ext hx1); have ha0 := ha.at0; have ha1 := ha.at1; have hag := ha.1; have Hha := Lib.hid ha; clear ha
  have hb := (show Boxed w1 (w.heap.size + 1) [.slice A' m.sets.length c', k'] from by have := (Boxed.new (w.alloc _) [.slice A' m.sets.length c', k'] 27).ext hx1; rwa [World.size_alloc] at this); have hb0 := hb.at0; have hb1 := hb.at1; have hbg := hb.1; have Hhb := Lib.hid hb; clear hb
  have hx : Ext w w1 := (by repeat (first | exact Ext.refl _ | assumption | refine Ext.alloc ?_ _ | refine Ext.drew ?_ | refine Ext.drewN ?_ _ | refine Ext.setCell ?_ (by first | (simp; done) | (simp; omega) | omega) _ | refine Ext.trans ?_ (by assumption)))
  clear hx1
  by_cases h1 : NetOk n
  · have H1 := Lib.hid h1
    clear h1
    rw [B_true H1.out]
    go_wp2_with fail
    refine Calls.mono (impl_IsNetwork _ k' m _ (H'.out.up (by repeat (first | exact Ext.refl _ | assumption | refine Ext.alloc ?_ _ | refine Ext.drew ?_ | refine Ext.drewN ?_ _ | refine Ext.setCell ?_ (by first | (simp; done) | (simp; omega) | omega) _ | refine Ext.trans ?_ (by assumption))))) ?_
    rintro e w2 ⟨rfl, hx2⟩
    have ha := (Hha.out.ext hx2); have ha0 := ha.at0; have ha1 := ha.at1; have hag := ha.1; have Hha := Lib.hid ha; clear ha
    have hb := (Hhb.out.ext hx2); have hb0 := hb.at0; have hb1 := hb.at1; have hbg := hb.1; have Hhb := Lib.hid hb; clear hb
    have hx' : Ext w w2 := (by repeat (first | exact Ext.refl _ | assumption | refine Ext.alloc ?_ _ | refine Ext.drew ?_ | refine Ext.drewN ?_ _ | refine Ext.setCell ?_ (by first | (simp; done) | (simp; omega) | omega) _ | refine Ext.trans ?_ (by assumption)))
    clear hx2
    by_cases h2 : NetOk m
    · have H2 := Lib.hid h2
      clear h2
      rw [B_true H2.out]
      by_cases hl : n.sets.length = m.sets.length
      · have hd : ((n.sets.length : Int) != (m.sets.length : Int)) = false := by simp; omega
        have Hl := Lib.hid (lost_ok ⟨H1.out, H2.out⟩ hl)
        have hle : n.sets.length ≤ m.sets.length := by omega
        have hle' : m.sets.length ≤ n.sets.length := by omega
        have Hll := Lib.hid hl
        clear hl
        go_wp2_with fail
        go_loopg [6, 28] n.sets.length (fun q t i wr => ∃ j : Nat, j + q = n.sets.length ∧ i = .int .i64 j ∧ t = .int .i64 (netDaysTo n.sets j - netDaysTo m.sets j) ∧ Ext w wr ∧
          Boxed wr w.heap.size [.slice A n.sets.length c, k] ∧ Boxed wr (w.heap.size + 1) [.slice A' m.sets.length c', k'])
        case atStart => exact ⟨0, by omega, rfl, by simp [netDaysTo], (by repeat (first | exact Ext.refl _ | assumption | refine Ext.alloc ?_ _ | refine Ext.drew ?_ | refine Ext.drewN ?_ _ | refine Ext.setCell ?_ (by first | (simp; done) | (simp; omega) | omega) _ | refine Ext.trans ?_ (by assumption))), Hha.out, Hhb.out⟩
        case round =>
          obtain ⟨j, hj, rfl, rfl, hxr, hba, hbb⟩ := hrel
          have ha := hba; have ha0 := ha.at0; have ha1 := ha.at1; have hag := ha.1; have Hha := Lib.hid ha; clear ha
          have hb := hbb; have hb0 := hb.at0; have hb1 := hb.at1; have hbg := hb.1; have Hhb := Lib.hid hb; clear hb
          clear hba hbb
          have hbd := lostTo_bd H1.out H2.out j (by omega) (by omega)
          by_cases hlt : j < n.sets.length
          · obtain ⟨b, off, u, rfl, _, hbl, h1, h2⟩ := (H.out.1.ext hxr (Nat.le_refl _)).at_ hlt
            obtain ⟨b', off', u', rfl, _, hbl', h1', h2'⟩ := (H'.out.1.ext hxr (Nat.le_refl _)).at_ (i := j) (by omega)
            have hbr : b < wr.heap.size := Nat.lt_of_lt_of_le hbl hxr.size
            have hbr' : b' < wr.heap.size := Nat.lt_of_lt_of_le hbl' hxr.size
            have Hu := Lib.hid (h2.mono (Nat.le_refl 0) hxr.size)
            have Hu' := Lib.hid (h2'.mono (Nat.le_refl 0) hxr.size)
            have hday := days_bd (H1.out.2.2.1 j hlt)
            have hday' := days_bd (H2.out.2.2.1 j (by omega))
            have hltm : j < m.sets.length := by omega
            have Hd := Lib.hid (H1.out.2.2.1 j hlt)
            have Hd' := Lib.hid (H2.out.2.2.1 j hltm)
            clear h2 h2'
            go_wp2_with fail
            (refine wp_region_onto prog_mixed (by kernel_rfl) ?_; (repeat (go_big_quiet_step ((first | (go_at_call 150; with_reducible exact onto_callX (impl_countDays u (setAt n.sets j) _ (Hu.out.up (onto_ext _ _)) Hd.out)) | (go_at_call 150; with_reducible exact onto_callX (impl_countDays u' (setAt m.sets j) _ (Hu'.out.up (onto_ext _ _)) Hd'.out)))))); refine onto_end ?_; intro w3 hx3)
            go_wp2_with fail
            go_roundg (n.sets.length - (j + 1))
            case measure => omega
            case rel => exact ⟨j + 1, by omega, by go_num, by simp only [netDaysTo]; congr 1; omega, (by repeat (first | exact Ext.refl _ | assumption | refine Ext.alloc ?_ _ | refine Ext.drew ?_ | refine Ext.drewN ?_ _ | refine Ext.setCell ?_ (by first | (simp; done) | (simp; omega) | omega) _ | refine Ext.trans ?_ (by assumption))), Hha.out.ext hx3, Hhb.out.ext hx3⟩
          · obtain rfl : j = n.sets.length := by omega
            go_wp2_with fail
            go_ret2
            refine ⟨?_, (by repeat (first | exact Ext.refl _ | assumption | refine Ext.alloc ?_ _ | refine Ext.drew ?_ | refine Ext.drewN ?_ _ | refine Ext.setCell ?_ (by first | (simp; done) | (simp; omega) | omega) _ | refine Ext.trans ?_ (by assumption)))⟩
            rw [Hl.out.1, Hl.out.2]
            unfold netDays
            rw [← Hll.out]
            rfl
      · have hd : ((n.sets.length : Int) != (m.sets.length : Int)) = true := by simp; omega
        have Hl := Lib.hid (lost_len ⟨H1.out, H2.out⟩ hl)
        clear hl
        go_wp2_with fail
        go_ret2
        exact ⟨by rw [Hl.out.1, Hl.out.2]; rfl, (by repeat (first | exact Ext.refl _ | assumption | refine Ext.alloc ?_ _ | refine Ext.drew ?_ | refine Ext.drewN ?_ _ | refine Ext.setCell ?_ (by first | (simp; done) | (simp; omega) | omega) _ | refine Ext.trans ?_ (by assumption)))⟩
    · have H2 := Lib.hid h2
      clear h2
      rw [B_false H2.out]
      go_wp2_with fail
      go_ret2
      have hl := lost_bad (n := n) (m := m) (fun h => H2.out h.2)
      exact ⟨by rw [hl.1, hl.2]; rfl, (by repeat (first | exact Ext.refl _ | assumption | refine Ext.alloc ?_ _ | refine Ext.drew ?_ | refine Ext.drewN ?_ _ | refine Ext.setCell ?_ (by first | (simp; done) | (simp; omega) | omega) _ | refine Ext.trans ?_ (by assumption)))⟩
  · have H1 := Lib.hid h1
    clear h1
    rw [B_false H1.out]
    go_wp2_with fail
    go_ret2
    have hl := lost_bad (n := n) (m := m) (fun h => H1.out h.1)
    exact ⟨by rw [hl.1, hl.2]; rfl, (by repeat (first | exact Ext.refl _ | assumption | refine Ext.alloc ?_ _ | refine Ext.drew ?_ | refine Ext.drewN ?_ _ | refine Ext.setCell ?_ (by first | (simp; done) | (simp; omega) | omega) _ | refine Ext.trans ?_ (by assumption)))⟩
end Go.Proofs.Ytfajmlkiidnhlaa

/- Contracts: the number of choices; days in sets; days for a network. -/
namespace Go.Proofs.Ytfajmlkiidnhlaa
set_option linter.unusedVariables false
set_option linter.unusedSimpArgs false
open Go.RowKit
attribute [local go_sem] cell_onto

def SetsFit (l : List (List Sp)) : Prop := ∀ i, i < l.length → (setAt l i).length ≤ 300
theorem SetsFit.of {n : Net} (h : NetOk n) : SetsFit n.sets := fun i hi => (h.2.2.1 i hi).1
theorem prod_fit {m : Int} (hm0 : 0 ≤ m) (hm : m ≤ 4096) {l : List (List Sp)} (hf : SetsFit l) {j : Nat} (hj : j < l.length) (h : ∀ i, i < j → (setAt l i).length ≠ 0) :
    0 ≤ prodTo m l j * ((setAt l j).length : Int) ∧ prodTo m l j * ((setAt l j).length : Int) ≤ 1229100 ∧ 1 ≤ prodTo m l j ∧ prodTo m l j ≤ 4097 := by
  have h1 := prodTo_bd hm0 j h
  have h2 : ((setAt l j).length : Int) ≤ 300 := by have := hf j hj; omega
  refine ⟨Int.mul_nonneg (by omega) (by omega), ?_, by omega, by omega⟩
  have := Int.mul_le_mul (a := prodTo m l j) (b := ((setAt l j).length : Int)) (c := 4097) (d := 300) (by omega) h2 (by omega) (by omega)
  omega

set_option maxHeartbeats 1000000 in
theorem spec_l20Count (s k : Value) (n : Net) (w : World) (h : NetIn w s k n) (hf : SetsFit n.sets) : Calls Try.prog 112 #[.agg #[s, k]] w (RetX (.int .i64 (choN 4096 n.sets)) w) := by
  obtain ⟨A, c, rfl, hn, hc⟩ := h.1.len
  have H := Lib.hid h
  have Hf := Lib.hid hf
  clear h hf
  go_enter Try.func112, Try.ntmps112
  go_wp2_with fail
  go_loopg [3, 4] n.sets.length (fun m t i wr => ∃ j : Nat, j + m = n.sets.length ∧ i = .int .i64 j ∧ t = .int .i64 (prodTo 4096 n.sets j) ∧ Ext w wr ∧ Boxed wr w.heap.size [.slice A n.sets.length c, k] ∧ ∀ i, i < j → (setAt n.sets i).length ≠ 0)
  case atStart => exact ⟨0, by omega, rfl, rfl, (by repeat (first | exact Ext.refl _ | assumption | refine Ext.alloc ?_ _ | refine Ext.drew ?_ | refine Ext.drewN ?_ _ | refine Ext.setCell ?_ (by first | (simp; done) | (simp; omega) | omega) _ | refine Ext.trans ?_ (by assumption))), Boxed.new w _ _, fun i hi => absurd hi (by omega)⟩
  case round =>
    obtain ⟨j, hj, rfl, rfl, hx, hbb, hne⟩ := hrel
    have hb := hbb; have hb0 := hb.at0; have hb1 := hb.at1; have hbg := hb.1; have Hhb := Lib.hid hb; clear hb
    have Hne := Lib.hid hne
    clear hbb hne
    by_cases hlt : j < n.sets.length
    · obtain ⟨b, off, u, rfl, _, hbl, h1, h2⟩ := (H.out.1.ext hx (Nat.le_refl _)).at_ hlt
      obtain ⟨A2, c2, rfl, hn2, hc2⟩ := h2.len
      obtain ⟨p1, p2, p3, p4⟩ := prod_fit (m := 4096) (by omega) (by omega) Hf.out hlt Hne.out
      clear h2
      by_cases h0 : (setAt n.sets j).length = 0
      · have hd : (((setAt n.sets j).length : Int) == 0) = true := by rw [beq_iff_eq]; omega
        have H0 := Lib.hid h0
        clear h0
        go_wp2_with fail
        go_ret
        exact ⟨by rw [choN_zero hlt H0.out]; rfl, (by repeat (first | exact Ext.refl _ | assumption | refine Ext.alloc ?_ _ | refine Ext.drew ?_ | refine Ext.drewN ?_ _ | refine Ext.setCell ?_ (by first | (simp; done) | (simp; omega) | omega) _ | refine Ext.trans ?_ (by assumption)))⟩
      · have hd : (((setAt n.sets j).length : Int) == 0) = false := beq_eq_false_iff_ne.2 (by omega)
        have H0 := Lib.hid h0
        clear h0
        go_wp2_with fail
        all_goals
          go_roundg (n.sets.length - (j + 1))
          case measure => omega
          case rel => exact ⟨j + 1, by omega, by go_num, by simp only [prodTo]; congr 1; omega, (by repeat (first | exact Ext.refl _ | assumption | refine Ext.alloc ?_ _ | refine Ext.drew ?_ | refine Ext.drewN ?_ _ | refine Ext.setCell ?_ (by first | (simp; done) | (simp; omega) | omega) _ | refine Ext.trans ?_ (by assumption))), Hhb.out, netOk_step (P := fun i => (setAt n.sets i).length ≠ 0) Hne.out H0.out⟩
    · obtain rfl : j = n.sets.length := by omega
      go_wp2_with fail
      go_ret
      exact ⟨by rw [choN_prod Hne.out]; rfl, (by repeat (first | exact Ext.refl _ | assumption | refine Ext.alloc ?_ _ | refine Ext.drew ?_ | refine Ext.drewN ?_ _ | refine Ext.setCell ?_ (by first | (simp; done) | (simp; omega) | omega) _ | refine Ext.trans ?_ (by assumption)))⟩
set_option maxHeartbeats 1000000 in
theorem impl_countChoices (s k : Value) (n : Net) (w : World) (h : NetIn w s k n) (m : Int) (hm0 : 0 ≤ m) (hm : m ≤ 4096) (hf : SetsFit n.sets) : Calls Try.prog 118 #[.agg #[s, k], .int .i64 m] w (RetX (.int .i64 (choN m n.sets)) w) := by
  obtain ⟨A, c, rfl, hn, hc⟩ := h.1.len
  have H := Lib.hid h
  have Hf := Lib.hid hf
  clear h hf
  go_enter Try.func118, Try.ntmps118
  go_wp2_with fail
  go_loopg [5, 11] n.sets.length (fun q t i wr => ∃ j : Nat, j + q = n.sets.length ∧ i = .int .i64 j ∧ t = .int .i64 (prodTo m n.sets j) ∧ Ext w wr ∧ Boxed wr w.heap.size [.slice A n.sets.length c, k] ∧ ∀ i, i < j → (setAt n.sets i).length ≠ 0)
  case atStart => exact ⟨0, by omega, rfl, rfl, (by repeat (first | exact Ext.refl _ | assumption | refine Ext.alloc ?_ _ | refine Ext.drew ?_ | refine Ext.drewN ?_ _ | refine Ext.setCell ?_ (by first | (simp; done) | (simp; omega) | omega) _ | refine Ext.trans ?_ (by assumption))), Boxed.new w _ _, fun i hi => absurd hi (by omega)⟩
  case round =>
    obtain ⟨j, hj, rfl, rfl, hx, hbb, hne⟩ := hrel
    have hb := hbb; have hb0 := hb.at0; have hb1 := hb.at1; have hbg := hb.1; have Hhb := Lib.hid hb; clear hb
    have Hne := Lib.hid hne
    clear hbb hne
    by_cases hlt : j < n.sets.length
    · obtain ⟨b, off, u, rfl, _, hbl, h1, h2⟩ := (H.out.1.ext hx (Nat.le_refl _)).at_ hlt
      obtain ⟨A2, c2, rfl, hn2, hc2⟩ := h2.len
      obtain ⟨p1, p2, p3, p4⟩ := prod_fit hm0 hm Hf.out hlt Hne.out
      clear h2
      by_cases h0 : (setAt n.sets j).length = 0
      · have hd : (((setAt n.sets j).length : Int) == 0) = true := by rw [beq_iff_eq]; omega
        have H0 := Lib.hid h0
        clear h0
        go_wp2_with fail
        go_ret
        exact ⟨by rw [choN_zero hlt H0.out]; rfl, (by repeat (first | exact Ext.refl _ | assumption | refine Ext.alloc ?_ _ | refine Ext.drew ?_ | refine Ext.drewN ?_ _ | refine Ext.setCell ?_ (by first | (simp; done) | (simp; omega) | omega) _ | refine Ext.trans ?_ (by assumption)))⟩
      · have hd : (((setAt n.sets j).length : Int) == 0) = false := beq_eq_false_iff_ne.2 (by omega)
        have H0 := Lib.hid h0
        clear h0
        go_wp2_with fail
        all_goals
          go_roundg (n.sets.length - (j + 1))
          case measure => omega
          case rel => exact ⟨j + 1, by omega, by go_num, by simp only [prodTo]; congr 1; omega, (by repeat (first | exact Ext.refl _ | assumption | refine Ext.alloc ?_ _ | refine Ext.drew ?_ | refine Ext.drewN ?_ _ | refine Ext.setCell ?_ (by first | (simp; done) | (simp; omega) | omega) _ | refine Ext.trans ?_ (by assumption))), Hhb.out, netOk_step (P := fun i => (setAt n.sets i).length ≠ 0) Hne.out H0.out⟩
    · obtain rfl : j = n.sets.length := by omega
      go_wp2_with fail
      go_ret
      exact ⟨by rw [choN_prod Hne.out]; rfl, (by repeat (first | exact Ext.refl _ | assumption | refine Ext.alloc ?_ _ | refine Ext.drew ?_ | refine Ext.drewN ?_ _ | refine Ext.setCell ?_ (by first | (simp; done) | (simp; omega) | omega) _ | refine Ext.trans ?_ (by assumption)))⟩
set_option maxHeartbeats 400000 in
theorem impl_CountChoices (s k : Value) (n : Net) (w : World) (h : NetIn w s k n) :
    Calls Try.prog 27 #[.agg #[s, k]] w (RetX (.tuple #[.int .i64 (chV n), .int .i64 (chE n)]) w) := by
  have H := Lib.hid h
  clear h
  go_enter Try.func27, Try.ntmps27
  go_wp2_with fail
  refine Calls.mono (impl_IsNetwork s k n _ (H.out.up (by repeat (first | exact Ext.refl _ | assumption | refine Ext.alloc ?_ _ | refine Ext.drew ?_ | refine Ext.drewN ?_ _ | refine Ext.setCell ?_ (by first | (simp; done) | (simp; omega) | omega) _ | refine Ext.trans ?_ (by assumption))))) ?_
  rintro e w1 ⟨rfl, hx1⟩
  have hb := (Boxed.new w [s, k] 27).ext hx1; have hb0 := hb.at0; have hb1 := hb.at1; have hbg := hb.1; have Hhb := Lib.hid hb; clear hb
  have hx : Ext w w1 := (by repeat (first | exact Ext.refl _ | assumption | refine Ext.alloc ?_ _ | refine Ext.drew ?_ | refine Ext.drewN ?_ _ | refine Ext.setCell ?_ (by first | (simp; done) | (simp; omega) | omega) _ | refine Ext.trans ?_ (by assumption)))
  clear hx1
  by_cases hok : NetOk n
  · have Hok := Lib.hid hok
    have hbd := choN_bd n.sets
    clear hok
    rw [B_true Hok.out]
    go_wp2_with fail
    refine Calls.mono (impl_countChoices s k n w1 (H.out.up hx) 4096 (by omega) (by omega) (SetsFit.of Hok.out)) ?_
    rintro e w2 ⟨rfl, hx2⟩
    by_cases hl : choN 4096 n.sets ≤ 4096
    · have Hl := Lib.hid (ch_ok Hok.out hl)
      go_wp2_with fail
      go_ret2
      exact ⟨by rw [Hl.out.1, Hl.out.2]; rfl, (by repeat (first | exact Ext.refl _ | assumption | refine Ext.alloc ?_ _ | refine Ext.drew ?_ | refine Ext.drewN ?_ _ | refine Ext.setCell ?_ (by first | (simp; done) | (simp; omega) | omega) _ | refine Ext.trans ?_ (by assumption)))⟩
    · have Hl := Lib.hid (ch_big Hok.out hl)
      go_wp2_with fail
      go_ret2
      exact ⟨by rw [Hl.out.1, Hl.out.2]; rfl, (by repeat (first | exact Ext.refl _ | assumption | refine Ext.alloc ?_ _ | refine Ext.drew ?_ | refine Ext.drewN ?_ _ | refine Ext.setCell ?_ (by first | (simp; done) | (simp; omega) | omega) _ | refine Ext.trans ?_ (by assumption)))⟩
  · have Hok := Lib.hid hok
    clear hok
    rw [B_false Hok.out]
    go_wp2_with fail
    go_ret2
    exact ⟨by rw [(ch_bad Hok.out).1, (ch_bad Hok.out).2]; rfl, (by repeat (first | exact Ext.refl _ | assumption | refine Ext.alloc ?_ _ | refine Ext.drew ?_ | refine Ext.drewN ?_ _ | refine Ext.setCell ?_ (by first | (simp; done) | (simp; omega) | omega) _ | refine Ext.trans ?_ (by assumption)))⟩
/-- the reference's code: b, whether the variables are in range -/
noncomputable def codeE (n : Net) (b : Bool) : Int := bif B (NetOk n) then (bif b then (bif B (choN 4096 n.sets ≤ 4096) then 0 else 3) else 2) else 1
set_option maxHeartbeats 400000 in
theorem spec_l20Code (s k : Value) (n : Net) (b : Bool) (w : World) (h : NetIn w s k n) :
    Calls Try.prog 111 #[.agg #[s, k], .bool b] w (RetX (.int .i64 (codeE n b)) w) := by
  have H := Lib.hid h
  clear h
  go_enter Try.func111, Try.ntmps111
  go_wp2_with fail
  refine Calls.mono (spec_IsNetwork s k n _ (H.out.up (by repeat (first | exact Ext.refl _ | assumption | refine Ext.alloc ?_ _ | refine Ext.drew ?_ | refine Ext.drewN ?_ _ | refine Ext.setCell ?_ (by first | (simp; done) | (simp; omega) | omega) _ | refine Ext.trans ?_ (by assumption))))) ?_
  rintro e w1 ⟨rfl, hx1⟩
  have hb := (Boxed.new w [s, k] 27).ext hx1; have hb0 := hb.at0; have hb1 := hb.at1; have hbg := hb.1; have Hhb := Lib.hid hb; clear hb
  have hx : Ext w w1 := (by repeat (first | exact Ext.refl _ | assumption | refine Ext.alloc ?_ _ | refine Ext.drew ?_ | refine Ext.drewN ?_ _ | refine Ext.setCell ?_ (by first | (simp; done) | (simp; omega) | omega) _ | refine Ext.trans ?_ (by assumption)))
  clear hx1
  by_cases hok : NetOk n
  · have Hok := Lib.hid hok
    clear hok
    rw [B_true Hok.out]
    cases b
    · go_wp2_with fail
      go_ret
      exact ⟨by unfold codeE; rw [B_true Hok.out]; rfl, (by repeat (first | exact Ext.refl _ | assumption | refine Ext.alloc ?_ _ | refine Ext.drew ?_ | refine Ext.drewN ?_ _ | refine Ext.setCell ?_ (by first | (simp; done) | (simp; omega) | omega) _ | refine Ext.trans ?_ (by assumption)))⟩
    · go_wp2_with fail
      refine Calls.mono (spec_l20Count s k n w1 (H.out.up hx) (SetsFit.of Hok.out)) ?_
      rintro e w2 ⟨rfl, hx2⟩
      by_cases hl : choN 4096 n.sets ≤ 4096
      · go_wp2_with fail
        go_ret
        exact ⟨by unfold codeE; rw [B_true Hok.out, B_true hl]; rfl, (by repeat (first | exact Ext.refl _ | assumption | refine Ext.alloc ?_ _ | refine Ext.drew ?_ | refine Ext.drewN ?_ _ | refine Ext.setCell ?_ (by first | (simp; done) | (simp; omega) | omega) _ | refine Ext.trans ?_ (by assumption)))⟩
      · have Hl := Lib.hid hl
        go_wp2_with fail
        go_ret
        exact ⟨by unfold codeE; rw [B_true Hok.out, B_false (show ¬ choN 4096 n.sets ≤ 4096 by omega)]; rfl, (by repeat (first | exact Ext.refl _ | assumption | refine Ext.alloc ?_ _ | refine Ext.drew ?_ | refine Ext.drewN ?_ _ | refine Ext.setCell ?_ (by first | (simp; done) | (simp; omega) | omega) _ | refine Ext.trans ?_ (by assumption)))⟩
  · have Hok := Lib.hid hok
    clear hok
    rw [B_false Hok.out]
    go_wp2_with fail
    go_ret
    exact ⟨by unfold codeE; rw [B_false Hok.out]; rfl, (by repeat (first | exact Ext.refl _ | assumption | refine Ext.alloc ?_ _ | refine Ext.drew ?_ | refine Ext.drewN ?_ _ | refine Ext.setCell ?_ (by first | (simp; done) | (simp; omega) | omega) _ | refine Ext.trans ?_ (by assumption)))⟩
set_option maxHeartbeats 400000 in
theorem spec_CountChoices (s k : Value) (n : Net) (w : World) (h : NetIn w s k n) :
    Calls Try.prog 28 #[.agg #[s, k]] w (RetX (.tuple #[.int .i64 (chV n), .int .i64 (chE n)]) w) := by
  have H := Lib.hid h
  clear h
  go_enter Try.func28, Try.ntmps28
  go_wp2_with fail
  refine Calls.mono (spec_l20Code s k n true _ (H.out.up (by repeat (first | exact Ext.refl _ | assumption | refine Ext.alloc ?_ _ | refine Ext.drew ?_ | refine Ext.drewN ?_ _ | refine Ext.setCell ?_ (by first | (simp; done) | (simp; omega) | omega) _ | refine Ext.trans ?_ (by assumption))))) ?_
  rintro e w1 ⟨rfl, hx1⟩
  have hb := (Boxed.new w [s, k] 27).ext hx1; have hb0 := hb.at0; have hb1 := hb.at1; have hbg := hb.1; have Hhb := Lib.hid hb; clear hb
  have hx : Ext w w1 := (by repeat (first | exact Ext.refl _ | assumption | refine Ext.alloc ?_ _ | refine Ext.drew ?_ | refine Ext.drewN ?_ _ | refine Ext.setCell ?_ (by first | (simp; done) | (simp; omega) | omega) _ | refine Ext.trans ?_ (by assumption)))
  clear hx1
  by_cases hok : NetOk n
  · have Hok := Lib.hid hok
    clear hok
    by_cases hl : choN 4096 n.sets ≤ 4096
    · have Hl := Lib.hid (ch_ok Hok.out hl)
      rw [show codeE n true = 0 from by unfold codeE; rw [B_true Hok.out, B_true hl]; rfl]
      clear hl
      go_wp2_with fail
      refine Calls.mono (spec_l20Count s k n w1 (H.out.up hx) (SetsFit.of Hok.out)) ?_
      rintro e w2 ⟨rfl, hx2⟩
      go_wp2_with fail
      go_ret2
      exact ⟨by rw [Hl.out.1, Hl.out.2]; rfl, (by repeat (first | exact Ext.refl _ | assumption | refine Ext.alloc ?_ _ | refine Ext.drew ?_ | refine Ext.drewN ?_ _ | refine Ext.setCell ?_ (by first | (simp; done) | (simp; omega) | omega) _ | refine Ext.trans ?_ (by assumption)))⟩
    · have Hl := Lib.hid (ch_big Hok.out hl)
      rw [show codeE n true = 3 from by unfold codeE; rw [B_true Hok.out, B_false hl]; rfl]
      clear hl
      go_wp2_with fail
      go_ret2
      exact ⟨by rw [Hl.out.1, Hl.out.2]; rfl, (by repeat (first | exact Ext.refl _ | assumption | refine Ext.alloc ?_ _ | refine Ext.drew ?_ | refine Ext.drewN ?_ _ | refine Ext.setCell ?_ (by first | (simp; done) | (simp; omega) | omega) _ | refine Ext.trans ?_ (by assumption)))⟩
  · have Hok := Lib.hid hok
    clear hok
    rw [show codeE n true = 1 from by unfold codeE; rw [B_false Hok.out]; rfl]
    go_wp2_with fail
    go_ret2
    exact ⟨by rw [(ch_bad Hok.out).1, (ch_bad Hok.out).2]; rfl, (by repeat (first | exact Ext.refl _ | assumption | refine Ext.alloc ?_ _ | refine Ext.drew ?_ | refine Ext.drewN ?_ _ | refine Ext.setCell ?_ (by first | (simp; done) | (simp; omega) | omega) _ | refine Ext.trans ?_ (by assumption)))⟩
end Go.Proofs.Ytfajmlkiidnhlaa

/- Contracts: days in sets; days for a network; links that are broken; DoSolve. -/
namespace Go.Proofs.Ytfajmlkiidnhlaa
set_option linter.unusedVariables false
set_option linter.unusedSimpArgs false
open Go.RowKit
attribute [local go_sem] cell_onto

theorem impl_within_b {n lo hi : Int} {b : Bool} (hb : B (lo ≤ n ∧ n ≤ hi) = b) (w : World) : Calls Try.prog 95 #[.int .i64 n, .int .i64 lo, .int .i64 hi] w (RetS (.bool b) w) := by
  subst hb; exact impl_within n lo hi w
theorem spec_l01In_b {n lo hi : Int} {b : Bool} (hb : B (lo ≤ n ∧ n ≤ hi) = b) (w : World) : Calls Try.prog 98 #[.int .i64 n, .int .i64 lo, .int .i64 hi] w (RetS (.bool b) w) := by
  subst hb; exact spec_l01In n lo hi w
def DayIn (l : List Sp) (d : Int) (i : Nat) : Prop := (spAt l i).fr ≤ d ∧ d ≤ (spAt l i).to
theorem hasDay_iff {l : List Sp} {d : Int} : HasDay l d ↔ Some_ l.length (DayIn l d) := Iff.rfl

set_option maxHeartbeats 400000 in
theorem impl_hasDay_1 (a b d : Int) (g : Nat) (w : World) (h : w.cell? ⟨g, 0, none⟩ = some (.int .i64 d)) (hg : g < w.heap.size) :
    Calls Try.prog 176 #[.agg #[.int .i64 a, .int .i64 b], .pointer (some ⟨g, 0, none⟩)] w (RetX (.bool (B (a ≤ d ∧ d ≤ b))) w) := by
  go_enter Try.func176, Try.ntmps176
  go_wp2_with (go_at_call 95; refine (impl_within _ _ _ _).mono ?_; rintro e w1 ⟨rfl, rfl⟩)
  go_ret
  exact ⟨rfl, (by repeat (first | exact Ext.refl _ | assumption | refine Ext.alloc ?_ _ | refine Ext.drew ?_ | refine Ext.drewN ?_ _ | refine Ext.setCell ?_ (by first | (simp; done) | (simp; omega) | omega) _ | refine Ext.trans ?_ (by assumption)))⟩
set_option maxHeartbeats 400000 in
theorem impl_hasDay (v : Value) (l : List Sp) (d : Int) (w : World) (h : Spans w 0 w.heap.size v l) : Calls Try.prog 90 #[v, .int .i64 d] w (RetX (.bool (B (HasDay l d))) w) := by
  have H := Lib.hid h
  clear h
  go_enter Try.func90, Try.ntmps90
  go_wp2_with fail
  have hb := Boxed.new w [.int .i64 d] 2
  refine Calls.mono (containsFunc_spans v l 176 #[.pointer (some ⟨w.heap.size, 0, none⟩)] (DayIn l d) _ (H.out.up (by repeat (first | exact Ext.refl _ | assumption | refine Ext.alloc ?_ _ | refine Ext.drew ?_ | refine Ext.drewN ?_ _ | refine Ext.setCell ?_ (by first | (simp; done) | (simp; omega) | omega) _ | refine Ext.trans ?_ (by assumption)))) Try.call176
    (fun i w' _ hx => impl_hasDay_1 _ _ d _ w' (hb.ext hx).at0 (hb.ext hx).1)) ?_
  rintro e w1 ⟨rfl, hx1⟩
  clear hb
  go_wp2_with fail
  go_ret
  exact ⟨rfl, (by repeat (first | exact Ext.refl _ | assumption | refine Ext.alloc ?_ _ | refine Ext.drew ?_ | refine Ext.drewN ?_ _ | refine Ext.setCell ?_ (by first | (simp; done) | (simp; omega) | omega) _ | refine Ext.trans ?_ (by assumption)))⟩
set_option maxHeartbeats 1000000 in
theorem spec_l02Has (v : Value) (l : List Sp) (d : Int) (w : World) (h : Spans w 0 w.heap.size v l) : Calls Try.prog 178 #[v, .int .i64 d] w (RetX (.bool (B (HasDay l d))) w) := by
  obtain ⟨A, c, rfl, hn, hc⟩ := h.len
  have H := Lib.hid h
  clear h
  go_enter Try.func178, Try.ntmps178
  go_wp2_with fail
  go_loopg [5] l.length (fun k i wr => ∃ j : Nat, j + k = l.length ∧ i = .int .i64 j ∧ Ext w wr ∧ ∀ i, i < j → ¬ DayIn l d i)
  case atStart => exact ⟨0, by omega, rfl, (by repeat (first | exact Ext.refl _ | assumption | refine Ext.alloc ?_ _ | refine Ext.drew ?_ | refine Ext.drewN ?_ _ | refine Ext.setCell ?_ (by first | (simp; done) | (simp; omega) | omega) _ | refine Ext.trans ?_ (by assumption))), fun i hi => absurd hi (by omega)⟩
  case round =>
    obtain ⟨j, hj, rfl, hx, hok⟩ := hrel
    have Hok := Lib.hid hok
    clear hok
    by_cases hlt : j < l.length
    · obtain ⟨b, off, rfl, _, hb, h1, h2⟩ := (H.out.ext hx (Nat.le_refl _)).at_ hlt
      have hbr : b < wr.heap.size := Nat.lt_of_lt_of_le hb hx.size
      by_cases hd : (spAt l j).fr ≤ d ∧ d ≤ (spAt l j).to
      · have Hd := Lib.hid hd
        have Hdb := Lib.hid (B_true hd)
        clear hd
        go_wp2_with fail
        (refine wp_region_onto prog_mixed (by kernel_rfl) ?_; (repeat (go_big_quiet_step ((go_at_call 98; exact onto_callS (spec_l01In_b Hdb.out _))))); refine onto_end ?_; intro w1 hx1)
        go_wp2_with fail
        go_ret
        exact ⟨ret_bool (B_true ⟨j, hlt, Hd.out⟩).symm, (by repeat (first | exact Ext.refl _ | assumption | refine Ext.alloc ?_ _ | refine Ext.drew ?_ | refine Ext.drewN ?_ _ | refine Ext.setCell ?_ (by first | (simp; done) | (simp; omega) | omega) _ | refine Ext.trans ?_ (by assumption)))⟩
      · have Hd := Lib.hid hd
        have Hdb := Lib.hid (B_false hd)
        clear hd
        go_wp2_with fail
        (refine wp_region_onto prog_mixed (by kernel_rfl) ?_; (repeat (go_big_quiet_step ((go_at_call 98; exact onto_callS (spec_l01In_b Hdb.out _))))); refine onto_end ?_; intro w1 hx1)
        go_wp2_with fail
        go_roundg (l.length - (j + 1))
        case measure => omega
        case rel => exact ⟨j + 1, by omega, by go_num, (by repeat (first | exact Ext.refl _ | assumption | refine Ext.alloc ?_ _ | refine Ext.drew ?_ | refine Ext.drewN ?_ _ | refine Ext.setCell ?_ (by first | (simp; done) | (simp; omega) | omega) _ | refine Ext.trans ?_ (by assumption))), netOk_step (P := fun i => ¬ DayIn l d i) Hok.out Hd.out⟩
    · obtain rfl : j = l.length := by omega
      go_wp2_with fail
      go_ret
      exact ⟨ret_bool (B_false (fun ⟨i, hi, hd⟩ => Hok.out i hi hd)).symm, (by repeat (first | exact Ext.refl _ | assumption | refine Ext.alloc ?_ _ | refine Ext.drew ?_ | refine Ext.drewN ?_ _ | refine Ext.setCell ?_ (by first | (simp; done) | (simp; omega) | omega) _ | refine Ext.trans ?_ (by assumption)))⟩
theorem daysOk_iff {l : List Int} : ¬ Some_ l.length (fun i => ¬ DayOk (inAt l i)) ↔ DaysOk l := by
  unfold Some_ DaysOk
  constructor
  · intro h i hi
    exact Classical.byContradiction fun hn => h ⟨i, hi, hn⟩
  · rintro h ⟨i, hi, hn⟩
    exact hn (h i hi)
set_option maxHeartbeats 400000 in
theorem impl_checkDays_1 (d : Int) (w : World) : Calls Try.prog 174 #[.int .i64 d] w (RetX (.bool (B (¬ DayOk d))) w) := by
  go_enter Try.func174, Try.ntmps174
  go_wp2_with (go_at_call 105; refine (impl_isDay _ _).mono ?_; rintro e w1 ⟨rfl, rfl⟩)
  (go_ret; exact ⟨ret_bool (B_eq (by simp [B_not])), (by repeat (first | exact Ext.refl _ | assumption | refine Ext.alloc ?_ _ | refine Ext.drew ?_ | refine Ext.drewN ?_ _ | refine Ext.setCell ?_ (by first | (simp; done) | (simp; omega) | omega) _ | refine Ext.trans ?_ (by assumption)))⟩)
set_option maxHeartbeats 1000000 in
theorem impl_checkDays (s k v : Value) (n : Net) (ds : List Int) (w : World) (h : NetIn w s k n) (hd : Ints w 0 w.heap.size v ds) :
    Calls Try.prog 89 #[.agg #[s, k], v] w (RetX (.int .i64 (dayE n ds)) w) := by
  obtain ⟨A, c, rfl, hn, hc⟩ := h.1.len
  obtain ⟨A', c', rfl, hn', hc'⟩ := hd.len
  have H := Lib.hid h
  have Hd := Lib.hid hd
  clear h hd
  go_enter Try.func89, Try.ntmps89
  go_wp2_with fail
  refine Calls.mono (impl_IsNetwork _ k n _ (H.out.up (by repeat (first | exact Ext.refl _ | assumption | refine Ext.alloc ?_ _ | refine Ext.drew ?_ | refine Ext.drewN ?_ _ | refine Ext.setCell ?_ (by first | (simp; done) | (simp; omega) | omega) _ | refine Ext.trans ?_ (by assumption))))) ?_
  rintro e w1 ⟨rfl, hx1⟩
  have hb := (Boxed.new w [.slice A n.sets.length c, k] 27).ext hx1; have hb0 := hb.at0; have hb1 := hb.at1; have hbg := hb.1; have Hhb := Lib.hid hb; clear hb
  have hx : Ext w w1 := (by repeat (first | exact Ext.refl _ | assumption | refine Ext.alloc ?_ _ | refine Ext.drew ?_ | refine Ext.drewN ?_ _ | refine Ext.setCell ?_ (by first | (simp; done) | (simp; omega) | omega) _ | refine Ext.trans ?_ (by assumption)))
  clear hx1
  by_cases hok : NetOk n
  · have Hok := Lib.hid hok
    clear hok
    rw [B_true Hok.out]
    by_cases hl : ds.length = n.sets.length
    · have hd : ((ds.length : Int) != (n.sets.length : Int)) = false := by simp; omega
      have Hl := Lib.hid hl
      clear hl
      go_wp2_with fail
      refine Calls.mono (containsFunc_ints _ ds 174 #[] (fun i => ¬ DayOk (inAt ds i)) w1 (Hd.out.up hx) Try.call174 (fun i w' _ _ => impl_checkDays_1 _ w')) ?_
      rintro e w2 ⟨rfl, hx2⟩
      by_cases hq : DaysOk ds
      · have Hq := Lib.hid hq
        rw [B_false (fun hh => daysOk_iff.2 hq hh)]
        clear hq
        go_wp2_with fail
        go_ret
        exact ⟨by rw [dayE_ok Hok.out ⟨Hl.out, Hq.out⟩]; rfl, (by repeat (first | exact Ext.refl _ | assumption | refine Ext.alloc ?_ _ | refine Ext.drew ?_ | refine Ext.drewN ?_ _ | refine Ext.setCell ?_ (by first | (simp; done) | (simp; omega) | omega) _ | refine Ext.trans ?_ (by assumption)))⟩
      · have Hq := Lib.hid hq
        rw [B_true (Classical.byContradiction fun hh => hq (daysOk_iff.1 hh))]
        clear hq
        go_wp2_with fail
        go_ret
        exact ⟨by rw [dayE_bad Hok.out (fun hh => Hq.out hh.2)]; rfl, (by repeat (first | exact Ext.refl _ | assumption | refine Ext.alloc ?_ _ | refine Ext.drew ?_ | refine Ext.drewN ?_ _ | refine Ext.setCell ?_ (by first | (simp; done) | (simp; omega) | omega) _ | refine Ext.trans ?_ (by assumption)))⟩
    · have hd : ((ds.length : Int) != (n.sets.length : Int)) = true := by simp; omega
      have Hl := Lib.hid hl
      clear hl
      go_wp2_with fail
      go_ret
      exact ⟨by rw [dayE_bad Hok.out (fun hh => Hl.out hh.1)]; rfl, (by repeat (first | exact Ext.refl _ | assumption | refine Ext.alloc ?_ _ | refine Ext.drew ?_ | refine Ext.drewN ?_ _ | refine Ext.setCell ?_ (by first | (simp; done) | (simp; omega) | omega) _ | refine Ext.trans ?_ (by assumption)))⟩
  · have Hok := Lib.hid hok
    clear hok
    rw [B_false Hok.out]
    go_wp2_with fail
    go_ret
    exact ⟨by rw [dayE_net Hok.out]; rfl, (by repeat (first | exact Ext.refl _ | assumption | refine Ext.alloc ?_ _ | refine Ext.drew ?_ | refine Ext.drewN ?_ _ | refine Ext.setCell ?_ (by first | (simp; done) | (simp; omega) | omega) _ | refine Ext.trans ?_ (by assumption)))⟩
set_option maxHeartbeats 1000000 in
theorem spec_l18Code (s k v : Value) (n : Net) (ds : List Int) (w : World) (h : NetIn w s k n) (hd : Ints w 0 w.heap.size v ds) :
    Calls Try.prog 92 #[.agg #[s, k], v] w (RetX (.int .i64 (dayE n ds)) w) := by
  obtain ⟨A, c, rfl, hn, hc⟩ := h.1.len
  obtain ⟨A', c', rfl, hn', hc'⟩ := hd.len
  have H := Lib.hid h
  have Hd := Lib.hid hd
  clear h hd
  go_enter Try.func92, Try.ntmps92
  go_wp2_with fail
  refine Calls.mono (spec_IsNetwork _ k n _ (H.out.up (by repeat (first | exact Ext.refl _ | assumption | refine Ext.alloc ?_ _ | refine Ext.drew ?_ | refine Ext.drewN ?_ _ | refine Ext.setCell ?_ (by first | (simp; done) | (simp; omega) | omega) _ | refine Ext.trans ?_ (by assumption))))) ?_
  rintro e w1 ⟨rfl, hx1⟩
  have hb := (Boxed.new w [.slice A n.sets.length c, k] 27).ext hx1; have hb0 := hb.at0; have hb1 := hb.at1; have hbg := hb.1; have Hhb := Lib.hid hb; clear hb
  have hx : Ext w w1 := (by repeat (first | exact Ext.refl _ | assumption | refine Ext.alloc ?_ _ | refine Ext.drew ?_ | refine Ext.drewN ?_ _ | refine Ext.setCell ?_ (by first | (simp; done) | (simp; omega) | omega) _ | refine Ext.trans ?_ (by assumption)))
  clear hx1
  by_cases hok : NetOk n
  · have Hok := Lib.hid hok
    clear hok
    rw [B_true Hok.out]
    go_wp2_with fail
    go_loopg [5] ds.length (fun q i wr => ∃ j : Nat, j + q = ds.length ∧ i = .int .i64 j ∧ Ext w1 wr ∧ ∀ i, i < j → DayOk (inAt ds i))
    case atStart => exact ⟨0, by omega, rfl, (by repeat (first | exact Ext.refl _ | assumption | refine Ext.alloc ?_ _ | refine Ext.drew ?_ | refine Ext.drewN ?_ _ | refine Ext.setCell ?_ (by first | (simp; done) | (simp; omega) | omega) _ | refine Ext.trans ?_ (by assumption))), fun i hi => absurd hi (by omega)⟩
    case round =>
      obtain ⟨j, hj, rfl, hxr, hds⟩ := hrel
      have hb := (Hhb.out.ext hxr); have hb0 := hb.at0; have hb1 := hb.at1; have hbg := hb.1; have Hhb := Lib.hid hb; clear hb
      have Hds := Lib.hid hds
      clear hds
      by_cases hlt : j < ds.length
      · obtain ⟨b, off, rfl, _, hbl, h1⟩ := (Hd.out.ext (hx.trans hxr) (Nat.le_refl _)).at_ hlt
        by_cases hq : DayOk (inAt ds j)
        · have Hq := Lib.hid hq
          go_wp2_with fail
          refine Calls.mono (spec_l01Day _ _) ?_
          rintro e w2 ⟨rfl, rfl⟩
          rw [B_true hq]
          clear hq
          go_wp2_with fail
          go_roundg (ds.length - (j + 1))
          case measure => omega
          case rel => exact ⟨j + 1, by omega, by go_num, (by repeat (first | exact Ext.refl _ | assumption | refine Ext.alloc ?_ _ | refine Ext.drew ?_ | refine Ext.drewN ?_ _ | refine Ext.setCell ?_ (by first | (simp; done) | (simp; omega) | omega) _ | refine Ext.trans ?_ (by assumption))), netOk_step Hds.out Hq.out⟩
        · have Hq := Lib.hid hq
          go_wp2_with fail
          refine Calls.mono (spec_l01Day _ _) ?_
          rintro e w2 ⟨rfl, rfl⟩
          rw [B_false hq]
          clear hq
          go_wp2_with fail
          go_ret
          exact ⟨by rw [dayE_bad Hok.out (fun hh => Hq.out (hh.2 j hlt))]; rfl, (by repeat (first | exact Ext.refl _ | assumption | refine Ext.alloc ?_ _ | refine Ext.drew ?_ | refine Ext.drewN ?_ _ | refine Ext.setCell ?_ (by first | (simp; done) | (simp; omega) | omega) _ | refine Ext.trans ?_ (by assumption)))⟩
      · obtain rfl : j = ds.length := by omega
        by_cases hl : ds.length = n.sets.length
        · have hdd : ((ds.length : Int) != (n.sets.length : Int)) = false := by simp; omega
          have Hl := Lib.hid hl
          clear hl
          go_wp2_with fail
          go_ret
          exact ⟨by rw [dayE_ok Hok.out ⟨Hl.out, Hds.out⟩]; rfl, (by repeat (first | exact Ext.refl _ | assumption | refine Ext.alloc ?_ _ | refine Ext.drew ?_ | refine Ext.drewN ?_ _ | refine Ext.setCell ?_ (by first | (simp; done) | (simp; omega) | omega) _ | refine Ext.trans ?_ (by assumption)))⟩
        · have hdd : ((ds.length : Int) != (n.sets.length : Int)) = true := by simp; omega
          have Hl := Lib.hid hl
          clear hl
          go_wp2_with fail
          go_ret
          exact ⟨by rw [dayE_bad Hok.out (fun hh => Hl.out hh.1)]; rfl, (by repeat (first | exact Ext.refl _ | assumption | refine Ext.alloc ?_ _ | refine Ext.drew ?_ | refine Ext.drewN ?_ _ | refine Ext.setCell ?_ (by first | (simp; done) | (simp; omega) | omega) _ | refine Ext.trans ?_ (by assumption)))⟩
  · have Hok := Lib.hid hok
    clear hok
    rw [B_false Hok.out]
    go_wp2_with fail
    go_ret
    exact ⟨by rw [dayE_net Hok.out]; rfl, (by repeat (first | exact Ext.refl _ | assumption | refine Ext.alloc ?_ _ | refine Ext.drew ?_ | refine Ext.drewN ?_ _ | refine Ext.setCell ?_ (by first | (simp; done) | (simp; omega) | omega) _ | refine Ext.trans ?_ (by assumption)))⟩
end Go.Proofs.Ytfajmlkiidnhlaa
