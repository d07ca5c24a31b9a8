/- Contracts: lost days, choices. -/
import Derived.Test.YtfajmlkiidnhlaaG
namespace Go.Proofs.Ytfajmlkiidnhlaa
set_option linter.unusedVariables false
set_option linter.unusedSimpArgs false
open Go.RowKit
attribute [local go_sem] cell_onto

set_option maxHeartbeats 1000000 in
theorem spec_l19Count (s k : Value) (n : Net) (w : World) (h : NetIn w s k n) (hok : NetOk n) : Calls Try.prog 155 #[.agg #[s, k]] w (RetX (.int .i64 (netDays n.sets)) w) := by
  obtain ⟨A, c, rfl, hn, hc⟩ := h.1.len
  have H := Lib.hid h
  have Hok := Lib.hid hok
  have h8 := hok.1
  clear h hok
  go_enter Try.func155, Try.ntmps155
  go_wp2_with fail
  go_loopg [3, 4] n.sets.length (fun m t i wr => ∃ j : Nat, j + m = n.sets.length ∧ i = .int .i64 j ∧ t = .int .i64 (netDaysTo n.sets j) ∧ Ext w wr ∧ Boxed wr w.heap.size [.slice A n.sets.length c, k])
  case atStart => exact ⟨0, by omega, rfl, rfl, (by repeat (first | exact Ext.refl _ | assumption | refine Ext.alloc ?_ _ | refine Ext.drew ?_ | refine Ext.drewN ?_ _ | refine Ext.setCell ?_ (by first | (simp; done) | (simp; omega) | omega) _ | refine Ext.trans ?_ (by assumption))), Boxed.new w _ _⟩
  case round =>
    obtain ⟨j, hj, rfl, rfl, hx, hbb⟩ := hrel
    have hb := hbb; have hb0 := hb.at0; have hb1 := hb.at1; have hbg := hb.1; have Hhb := Lib.hid hb; clear hb
    clear hbb
    have hbd := netDaysTo_bd Hok.out j (by omega)
    by_cases hlt : j < n.sets.length
    · obtain ⟨b, off, u, rfl, _, hbl, h1, h2⟩ := (H.out.1.ext hx (Nat.le_refl _)).at_ hlt
      have H2 := Lib.hid (h2.mono (Nat.le_refl 0) hx.size)
      have hday := days_bd (Hok.out.2.2.1 j hlt)
      clear h2
      go_wp2_with fail
      refine Calls.mono (spec_l02Count u _ wr H2.out (Hok.out.2.2.1 j hlt)) ?_
      rintro e w1 ⟨rfl, hx1⟩
      go_wp2_with fail
      go_roundg (n.sets.length - (j + 1))
      case measure => omega
      case rel => exact ⟨j + 1, by omega, by go_num, by simp only [netDaysTo], (by repeat (first | exact Ext.refl _ | assumption | refine Ext.alloc ?_ _ | refine Ext.drew ?_ | refine Ext.drewN ?_ _ | refine Ext.setCell ?_ (by first | (simp; done) | (simp; omega) | omega) _ | refine Ext.trans ?_ (by assumption))), Hhb.out.ext hx1⟩
    · obtain rfl : j = n.sets.length := by omega
      go_wp2_with fail
      go_ret
      exact ⟨rfl, (by repeat (first | exact Ext.refl _ | assumption | refine Ext.alloc ?_ _ | refine Ext.drew ?_ | refine Ext.drewN ?_ _ | refine Ext.setCell ?_ (by first | (simp; done) | (simp; omega) | omega) _ | refine Ext.trans ?_ (by assumption)))⟩
set_option maxHeartbeats 1000000 in
theorem spec_LostDays (s k s' k' : Value) (n m : Net) (w : World) (h : NetIn w s k n) (h' : NetIn w s' k' m) :
    Calls Try.prog 71 #[.agg #[s, k], .agg #[s', k']] w (RetX (.tuple #[.int .i64 (lostV n m), .int .i64 (lostE n m)]) w) := by
  obtain ⟨A, c, rfl, hn, hc⟩ := h.1.len
  obtain ⟨A', c', rfl, hn', hc'⟩ := h'.1.len
  have H := Lib.hid h
  have H' := Lib.hid h'
  clear h h'
  go_enter Try.func71, Try.ntmps71
  go_wp2_with fail
  refine Calls.mono (spec_IsNetwork _ k n _ (H.out.up (by repeat (first | exact Ext.refl _ | assumption | refine Ext.alloc ?_ _ | refine Ext.drew ?_ | refine Ext.drewN ?_ _ | refine Ext.setCell ?_ (by first | (simp; done) | (simp; omega) | omega) _ | refine Ext.trans ?_ (by assumption))))) ?_
  rintro e w1 ⟨rfl, hx1⟩
  have ha := (((Boxed.new w [.slice A n.sets.length c, k] 27).ext ((Ext.refl _).alloc _)).ext hx1); have ha0 := ha.at0; have ha1 := ha.at1; have hag := ha.1; have Hha := Lib.hid ha; clear ha
  have hb := (show Boxed w1 (w.heap.size + 1) [.slice A' m.sets.length c', k'] from by have := (Boxed.new (w.alloc _) [.slice A' m.sets.length c', k'] 27).ext hx1; rwa [World.size_alloc] at this); have hb0 := hb.at0; have hb1 := hb.at1; have hbg := hb.1; have Hhb := Lib.hid hb; clear hb
  have hx : Ext w w1 := (by repeat (first | exact Ext.refl _ | assumption | refine Ext.alloc ?_ _ | refine Ext.drew ?_ | refine Ext.drewN ?_ _ | refine Ext.setCell ?_ (by first | (simp; done) | (simp; omega) | omega) _ | refine Ext.trans ?_ (by assumption)))
  clear hx1
  by_cases h1 : NetOk n
  · have H1 := Lib.hid h1
    clear h1
    rw [B_true H1.out]
    go_wp2_with fail
    refine Calls.mono (spec_IsNetwork _ k' m _ (H'.out.up (by repeat (first | exact Ext.refl _ | assumption | refine Ext.alloc ?_ _ | refine Ext.drew ?_ | refine Ext.drewN ?_ _ | refine Ext.setCell ?_ (by first | (simp; done) | (simp; omega) | omega) _ | refine Ext.trans ?_ (by assumption))))) ?_
    rintro e w2 ⟨rfl, hx2⟩
    have ha := (Hha.out.ext hx2); have ha0 := ha.at0; have ha1 := ha.at1; have hag := ha.1; have Hha := Lib.hid ha; clear ha
    have hb := (Hhb.out.ext hx2); have hb0 := hb.at0; have hb1 := hb.at1; have hbg := hb.1; have Hhb := Lib.hid hb; clear hb
    have hx' : Ext w w2 := (by repeat (first | exact Ext.refl _ | assumption | refine Ext.alloc ?_ _ | refine Ext.drew ?_ | refine Ext.drewN ?_ _ | refine Ext.setCell ?_ (by first | (simp; done) | (simp; omega) | omega) _ | refine Ext.trans ?_ (by assumption)))
    clear hx2
    by_cases h2 : NetOk m
    · have H2 := Lib.hid h2
      clear h2
      rw [B_true H2.out]
      by_cases hl : n.sets.length = m.sets.length
      · have hd : ((n.sets.length : Int) != (m.sets.length : Int)) = false := by simp; omega
        have Hl := Lib.hid (lost_ok ⟨H1.out, H2.out⟩ hl)
        have hb1 := netDays_bd H1.out
        have hb2 := netDays_bd H2.out
        clear hl
        go_wp2_with fail
        (refine wp_region_onto prog_mixed (by kernel_rfl) ?_; (repeat (go_big_quiet_step ((first | (go_at_call 155; with_reducible exact onto_callX (spec_l19Count _ k n _ (H.out.up (hx'.trans (onto_ext _ _))) H1.out)) | (go_at_call 155; with_reducible exact onto_callX (spec_l19Count _ k' m _ (H'.out.up (hx'.trans (onto_ext _ _))) H2.out)))))); refine onto_end ?_; intro w3 hx3)
        go_wp2_with fail
        go_ret2
        exact ⟨by rw [Hl.out.1, Hl.out.2]; rfl, (by repeat (first | exact Ext.refl _ | assumption | refine Ext.alloc ?_ _ | refine Ext.drew ?_ | refine Ext.drewN ?_ _ | refine Ext.setCell ?_ (by first | (simp; done) | (simp; omega) | omega) _ | refine Ext.trans ?_ (by assumption)))⟩
      · have hd : ((n.sets.length : Int) != (m.sets.length : Int)) = true := by simp; omega
        have Hl := Lib.hid (lost_len ⟨H1.out, H2.out⟩ hl)
        clear hl
        go_wp2_with fail
        go_ret2
        exact ⟨by rw [Hl.out.1, Hl.out.2]; rfl, (by repeat (first | exact Ext.refl _ | assumption | refine Ext.alloc ?_ _ | refine Ext.drew ?_ | refine Ext.drewN ?_ _ | refine Ext.setCell ?_ (by first | (simp; done) | (simp; omega) | omega) _ | refine Ext.trans ?_ (by assumption)))⟩
    · have H2 := Lib.hid h2
      clear h2
      rw [B_false H2.out]
      go_wp2_with fail
      go_ret2
      have hl := lost_bad (n := n) (m := m) (fun h => H2.out h.2)
      exact ⟨by rw [hl.1, hl.2]; rfl, (by repeat (first | exact Ext.refl _ | assumption | refine Ext.alloc ?_ _ | refine Ext.drew ?_ | refine Ext.drewN ?_ _ | refine Ext.setCell ?_ (by first | (simp; done) | (simp; omega) | omega) _ | refine Ext.trans ?_ (by assumption)))⟩
  · have H1 := Lib.hid h1
    clear h1
    rw [B_false H1.out]
    go_wp2_with fail
    go_ret2
    have hl := lost_bad (n := n) (m := m) (fun h => H1.out h.1)
    exact ⟨by rw [hl.1, hl.2]; rfl, (by repeat (first | exact Ext.refl _ | assumption | refine Ext.alloc ?_ _ | refine Ext.drew ?_ | refine Ext.drewN ?_ _ | refine Ext.setCell ?_ (by first | (simp; done) | (simp; omega) | omega) _ | refine Ext.trans ?_ (by assumption)))⟩
theorem lostTo_bd {n m : Net} (hn : NetOk n) (hm : NetOk m) (j : Nat) (h1 : j ≤ n.sets.length) (h2 : j ≤ m.sets.length) :
    -1753200000 ≤ netDaysTo n.sets j - netDaysTo m.sets j ∧ netDaysTo n.sets j - netDaysTo m.sets j ≤ 1753200000 := by
  have a := netDaysTo_bd hn j h1
  have b := netDaysTo_bd hm j h2
  have c := hn.1
  omega
set_option maxHeartbeats 1000000 in
theorem impl_LostDays (s k s' k' : Value) (n m : Net) (w : World) (h : NetIn w s k n) (h' : NetIn w s' k' m) :
    Calls Try.prog 70 #[.agg #[s, k], .agg #[s', k']] w (RetX (.tuple #[.int .i64 (lostV n m), .int .i64 (lostE n m)]) w) := by
  obtain ⟨A, c, rfl, hn, hc⟩ := h.1.len
  obtain ⟨A', c', rfl, hn', hc'⟩ := h'.1.len
  have H := Lib.hid h
  have H' := Lib.hid h'
  clear h h'
  go_enter Try.func70, Try.ntmps70
  go_wp2_with fail
  refine Calls.mono (impl_IsNetwork _ k n _ (H.out.up (by repeat (first | exact Ext.refl _ | assumption | refine Ext.alloc ?_ _ | refine Ext.drew ?_ | refine Ext.drewN ?_ _ | refine Ext.setCell ?_ (by first | (simp; done) | (simp; omega) | omega) _ | refine Ext.trans ?_ (by assumption))))) ?_
  rintro e w1 ⟨rfl, hx1⟩
  have ha := (((Boxed.new w [.slice A n.sets.length c, k] 27).ext ((Ext.refl _).alloc _)).ext hx1); have ha0 := ha.at0; have ha1 := ha.at1; have hag := ha.1; have Hha := Lib.hid ha; clear ha
  have hb := (show Boxed w1 (w.heap.size + 1) [.slice A' m.sets.length c', k'] from by have := (Boxed.new (w.alloc _) [.slice A' m.sets.length c', k'] 27).ext hx1; rwa [World.size_alloc] at this); have hb0 := hb.at0; have hb1 := hb.at1; have hbg := hb.1; have Hhb := Lib.hid hb; clear hb
  have hx : Ext w w1 := (by repeat (first | exact Ext.refl _ | assumption | refine Ext.alloc ?_ _ | refine Ext.drew ?_ | refine Ext.drewN ?_ _ | refine Ext.setCell ?_ (by first | (simp; done) | (simp; omega) | omega) _ | refine Ext.trans ?_ (by assumption)))
  clear hx1
  by_cases h1 : NetOk n
  · have H1 := Lib.hid h1
    clear h1
    rw [B_true H1.out]
    go_wp2_with fail
    refine Calls.mono (impl_IsNetwork _ k' m _ (H'.out.up (by repeat (first | exact Ext.refl _ | assumption | refine Ext.alloc ?_ _ | refine Ext.drew ?_ | refine Ext.drewN ?_ _ | refine Ext.setCell ?_ (by first | (simp; done) | (simp; omega) | omega) _ | refine Ext.trans ?_ (by assumption))))) ?_
    rintro e w2 ⟨rfl, hx2⟩
    have ha := (Hha.out.ext hx2); have ha0 := ha.at0; have ha1 := ha.at1; have hag := ha.1; have Hha := Lib.hid ha; clear ha
    have hb := (Hhb.out.ext hx2); have hb0 := hb.at0; have hb1 := hb.at1; have hbg := hb.1; have Hhb := Lib.hid hb; clear hb
    have hx' : Ext w w2 := (by repeat (first | exact Ext.refl _ | assumption | refine Ext.alloc ?_ _ | refine Ext.drew ?_ | refine Ext.drewN ?_ _ | refine Ext.setCell ?_ (by first | (simp; done) | (simp; omega) | omega) _ | refine Ext.trans ?_ (by assumption)))
    clear hx2
    by_cases h2 : NetOk m
    · have H2 := Lib.hid h2
      clear h2
      rw [B_true H2.out]
      by_cases hl : n.sets.length = m.sets.length
      · have hd : ((n.sets.length : Int) != (m.sets.length : Int)) = false := by simp; omega
        have Hl := Lib.hid (lost_ok ⟨H1.out, H2.out⟩ hl)
        have hle : n.sets.length ≤ m.sets.length := by omega
        have hle' : m.sets.length ≤ n.sets.length := by omega
        have Hll := Lib.hid hl
        clear hl
        go_wp2_with fail
        go_loopg [6, 28] n.sets.length (fun q t i wr => ∃ j : Nat, j + q = n.sets.length ∧ i = .int .i64 j ∧ t = .int .i64 (netDaysTo n.sets j - netDaysTo m.sets j) ∧ Ext w wr ∧
          Boxed wr w.heap.size [.slice A n.sets.length c, k] ∧ Boxed wr (w.heap.size + 1) [.slice A' m.sets.length c', k'])
        case atStart => exact ⟨0, by omega, rfl, by simp [netDaysTo], (by repeat (first | exact Ext.refl _ | assumption | refine Ext.alloc ?_ _ | refine Ext.drew ?_ | refine Ext.drewN ?_ _ | refine Ext.setCell ?_ (by first | (simp; done) | (simp; omega) | omega) _ | refine Ext.trans ?_ (by assumption))), Hha.out, Hhb.out⟩
        case round =>
          obtain ⟨j, hj, rfl, rfl, hxr, hba, hbb⟩ := hrel
          have ha := hba; have ha0 := ha.at0; have ha1 := ha.at1; have hag := ha.1; have Hha := Lib.hid ha; clear ha
          have hb := hbb; have hb0 := hb.at0; have hb1 := hb.at1; have hbg := hb.1; have Hhb := Lib.hid hb; clear hb
          clear hba hbb
          have hbd := lostTo_bd H1.out H2.out j (by omega) (by omega)
          by_cases hlt : j < n.sets.length
          · obtain ⟨b, off, u, rfl, _, hbl, h1, h2⟩ := (H.out.1.ext hxr (Nat.le_refl _)).at_ hlt
            obtain ⟨b', off', u', rfl, _, hbl', h1', h2'⟩ := (H'.out.1.ext hxr (Nat.le_refl _)).at_ (i := j) (by omega)
            have hbr : b < wr.heap.size := Nat.lt_of_lt_of_le hbl hxr.size
            have hbr' : b' < wr.heap.size := Nat.lt_of_lt_of_le hbl' hxr.size
            have Hu := Lib.hid (h2.mono (Nat.le_refl 0) hxr.size)
            have Hu' := Lib.hid (h2'.mono (Nat.le_refl 0) hxr.size)
            have hday := days_bd (H1.out.2.2.1 j hlt)
            have hday' := days_bd (H2.out.2.2.1 j (by omega))
            have hltm : j < m.sets.length := by omega
            have Hd := Lib.hid (H1.out.2.2.1 j hlt)
            have Hd' := Lib.hid (H2.out.2.2.1 j hltm)
            clear h2 h2'
            go_wp2_with fail
            (refine wp_region_onto prog_mixed (by kernel_rfl) ?_; (repeat (go_big_quiet_step ((first | (go_at_call 150; with_reducible exact onto_callX (impl_countDays u (setAt n.sets j) _ (Hu.out.up (onto_ext _ _)) Hd.out)) | (go_at_call 150; with_reducible exact onto_callX (impl_countDays u' (setAt m.sets j) _ (Hu'.out.up (onto_ext _ _)) Hd'.out)))))); refine onto_end ?_; intro w3 hx3)
            go_wp2_with fail
            go_roundg (n.sets.length - (j + 1))
            case measure => omega
            case rel => exact ⟨j + 1, by omega, by go_num, by simp only [netDaysTo]; congr 1; omega, (by repeat (first | exact Ext.refl _ | assumption | refine Ext.alloc ?_ _ | refine Ext.drew ?_ | refine Ext.drewN ?_ _ | refine Ext.setCell ?_ (by first | (simp; done) | (simp; omega) | omega) _ | refine Ext.trans ?_ (by assumption))), Hha.out.ext hx3, Hhb.out.ext hx3⟩
          · obtain rfl : j = n.sets.length := by omega
            go_wp2_with fail
            go_ret2
            refine ⟨?_, (by repeat (first | exact Ext.refl _ | assumption | refine Ext.alloc ?_ _ | refine Ext.drew ?_ | refine Ext.drewN ?_ _ | refine Ext.setCell ?_ (by first | (simp; done) | (simp; omega) | omega) _ | refine Ext.trans ?_ (by assumption)))⟩
            rw [Hl.out.1, Hl.out.2]
            unfold netDays
            rw [← Hll.out]
            rfl
      · have hd : ((n.sets.length : Int) != (m.sets.length : Int)) = true := by simp; omega
        have Hl := Lib.hid (lost_len ⟨H1.out, H2.out⟩ hl)
        clear hl
        go_wp2_with fail
        go_ret2
        exact ⟨by rw [Hl.out.1, Hl.out.2]; rfl, (by repeat (first | exact Ext.refl _ | assumption | refine Ext.alloc ?_ _ | refine Ext.drew ?_ | refine Ext.drewN ?_ _ | refine Ext.setCell ?_ (by first | (simp; done) | (simp; omega) | omega) _ | refine Ext.trans ?_ (by assumption)))⟩
    · have H2 := Lib.hid h2
      clear h2
      rw [B_false H2.out]
      go_wp2_with fail
      go_ret2
      have hl := lost_bad (n := n) (m := m) (fun h => H2.out h.2)
      exact ⟨by rw [hl.1, hl.2]; rfl, (by repeat (first | exact Ext.refl _ | assumption | refine Ext.alloc ?_ _ | refine Ext.drew ?_ | refine Ext.drewN ?_ _ | refine Ext.setCell ?_ (by first | (simp; done) | (simp; omega) | omega) _ | refine Ext.trans ?_ (by assumption)))⟩
  · have H1 := Lib.hid h1
    clear h1
    rw [B_false H1.out]
    go_wp2_with fail
    go_ret2
    have hl := lost_bad (n := n) (m := m) (fun h => H1.out h.1)
    exact ⟨by rw [hl.1, hl.2]; rfl, (by repeat (first | exact Ext.refl _ | assumption | refine Ext.alloc ?_ _ | refine Ext.drew ?_ | refine Ext.drewN ?_ _ | refine Ext.setCell ?_ (by first | (simp; done) | (simp; omega) | omega) _ | refine Ext.trans ?_ (by assumption)))⟩
end Go.Proofs.Ytfajmlkiidnhlaa
