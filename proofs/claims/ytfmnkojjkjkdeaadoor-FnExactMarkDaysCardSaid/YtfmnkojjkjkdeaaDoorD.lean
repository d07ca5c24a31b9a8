/- IsNetwork, the program's and the reference's. -/
import Derived.Test.YtfmnkojjkjkdeaaDoorC
namespace Go.Proofs.YtfmnkojjkjkdeaaDoor
set_option linter.unusedVariables false
set_option linter.unusedSimpArgs false
open Go.RowKit
attribute [local go_sem] cell_onto

theorem netOk_step {P : Nat → Prop} {j : Nat} (h : ∀ i, i < j → P i) (h' : P j) : ∀ i, i < j + 1 → P i := by
  intro i hi
  by_cases e : i = j
  · rw [e]; exact h'
  · exact h i (by omega)

def LinksOk (l : List Lk) (n : Nat) : Prop := ∀ i, i < l.length → LkOk (lkAt l i) n
theorem links_iff {l : List Lk} {n : Nat} : ¬ Some_ l.length (fun i => ¬ LkOk (lkAt l i) n) ↔ LinksOk l n := by
  unfold Some_ LinksOk
  constructor
  · intro h i hi
    exact Classical.byContradiction fun hn => h ⟨i, hi, hn⟩
  · rintro h ⟨i, hi, hn⟩
    exact hn (h i hi)

set_option maxHeartbeats 400000 in
theorem impl_IsNetwork_1 (a b c d : Int) (g : Nat) (A : Option Addr) (n cap : Nat) (w : World) (hn : n ≤ 9223372036854775807) (h : w.cell? ⟨g, 0, none⟩ = some (.slice A n cap)) (hg : g < w.heap.size) :
    Calls Tryd.prog 61 #[.agg #[.int .i64 a, .int .i64 b, .int .i64 c, .int .i64 d], .pointer (some ⟨g, 0, none⟩)] w (RetX (.bool (B (¬ LkOk ⟨a, b, c, d⟩ n))) w) := by
  go_enter Tryd.func61, Tryd.ntmps61
  go_wp2_with (go_at_call 62; refine (impl_isLink _ _ _ _ _ _ hn).mono ?_; rintro e w1 ⟨rfl, hx1⟩)
  (go_ret; exact ⟨ret_bool (B_eq (by simp [B_not])), (by repeat (first | exact Ext.refl _ | assumption | refine Ext.alloc ?_ _ | refine Ext.drew ?_ | refine Ext.drewN ?_ _ | refine Ext.setCell ?_ (by first | (simp; done) | (simp; omega) | omega) _ | refine Ext.trans ?_ (by assumption)))⟩)

set_option maxHeartbeats 1000000 in
theorem impl_IsNetwork (s k : Value) (n : Net) (w : World) (h : NetIn w s k n) :
    Calls Tryd.prog 33 #[.agg #[s, k]] w (RetX (.bool (B (NetOk n))) w) := by
  obtain ⟨hs, hk⟩ := h
  obtain ⟨A, c, rfl, hn, hc⟩ := hs.len
  obtain ⟨A', c', rfl, hn', hc'⟩ := hk.len
  have Hs := Lib.hid hs
  have Hk := Lib.hid hk
  clear hs hk
  by_cases h1 : n.sets.length ≤ 8
  · by_cases h2 : n.links.length ≤ 20
    · go_enter Tryd.func33, Tryd.ntmps33
      go_wp2_with fail
      refine (impl_areSets _ n.sets _ ((Hs.out.ext ((Ext.refl w).alloc _) (Nat.le_refl _)).mono (Nat.le_refl _) (by simp))).mono ?_
      rintro e w1 ⟨rfl, hx1⟩
      have hb := ((Boxed.new w [.slice A n.sets.length c, .slice A' n.links.length c'] 32).ext hx1)
      have hb0 := hb.at0
      have hb1 := hb.at1
      have hbg := hb.1
      have hx : Ext w w1 := ((Ext.refl w).alloc _).trans hx1
      have Hk1 := Lib.hid (Hk.out.ext hx (Nat.le_refl _))
      have Hb := Lib.hid hb
      clear hb
      by_cases h3 : SetsOk n.sets
      · have H3 := Lib.hid h3
        have H3b := Lib.hid (B_true h3)
        clear h3
        rw [H3b.out]
        go_wp2_with fail
        refine (containsFunc_links _ n.links 61 #[.pointer (some ⟨w.heap.size, 0, none⟩)] (fun i => ¬ LkOk (lkAt n.links i) n.sets.length) w1 (Hk1.out.mono (Nat.le_refl _) hx.size) Tryd.call61
          (fun i w' _ hxx => impl_IsNetwork_1 _ _ _ _ _ A n.sets.length c w' hn ((Hb.out.ext hxx).at0) (Hb.out.ext hxx).1)).mono ?_
        rintro e w2 ⟨rfl, hx2⟩
        go_wp2_with fail
        go_ret
        refine ⟨ret_bool (B_eq ?_), (by repeat (first | exact Ext.refl _ | assumption | refine Ext.alloc ?_ _ | refine Ext.drew ?_ | refine Ext.drewN ?_ _ | refine Ext.setCell ?_ (by first | (simp; done) | (simp; omega) | omega) _ | refine Ext.trans ?_ (by assumption)))⟩
        rw [Bool.not_eq_true', B_not, links_iff]
        exact ⟨fun h => ⟨h1, h2, H3.out, h⟩, fun h => h.2.2.2⟩
      · have H3 := Lib.hid h3
        have H3b := Lib.hid (B_false h3)
        clear h3
        rw [H3b.out]
        go_wp2_with fail
        go_ret
        exact ⟨ret_bool (B_false (fun h => H3.out h.2.2.1)).symm, (by repeat (first | exact Ext.refl _ | assumption | refine Ext.alloc ?_ _ | refine Ext.drew ?_ | refine Ext.drewN ?_ _ | refine Ext.setCell ?_ (by first | (simp; done) | (simp; omega) | omega) _ | refine Ext.trans ?_ (by assumption)))⟩
    · go_enter Tryd.func33, Tryd.ntmps33
      go_wp2_with fail
      go_ret
      exact ⟨ret_bool (B_false (fun h => by have := h.2.1; omega)).symm, (by repeat (first | exact Ext.refl _ | assumption | refine Ext.alloc ?_ _ | refine Ext.drew ?_ | refine Ext.drewN ?_ _ | refine Ext.setCell ?_ (by first | (simp; done) | (simp; omega) | omega) _ | refine Ext.trans ?_ (by assumption)))⟩
  · go_enter Tryd.func33, Tryd.ntmps33
    go_wp2_with fail
    go_ret
    exact ⟨ret_bool (B_false (fun h => by have := h.1; omega)).symm, (by repeat (first | exact Ext.refl _ | assumption | refine Ext.alloc ?_ _ | refine Ext.drew ?_ | refine Ext.drewN ?_ _ | refine Ext.setCell ?_ (by first | (simp; done) | (simp; omega) | omega) _ | refine Ext.trans ?_ (by assumption)))⟩

set_option maxHeartbeats 1000000 in
theorem spec_IsNetwork (s k : Value) (n : Net) (w : World) (h : NetIn w s k n) :
    Calls Tryd.prog 25 #[.agg #[s, k]] w (RetX (.bool (B (NetOk n))) w) := by
  obtain ⟨hs, hk⟩ := h
  obtain ⟨A, c, rfl, hn, hc⟩ := hs.len
  obtain ⟨A', c', rfl, hn', hc'⟩ := hk.len
  have Hs := Lib.hid hs
  have Hk := Lib.hid hk
  clear hs hk
  go_enter Tryd.func25, Tryd.ntmps25
  go_wp2_with fail
  go_loopg [3] n.sets.length (fun m i wr => ∃ j : Nat, j + m = n.sets.length ∧ i = .int .i64 j ∧ Ext w wr ∧ Boxed wr w.heap.size [.slice A n.sets.length c, .slice A' n.links.length c'] ∧ ∀ i, i < j → SetOk (setAt n.sets i))
  case atStart => exact ⟨0, by omega, rfl, (by repeat (first | exact Ext.refl _ | assumption | refine Ext.alloc ?_ _ | refine Ext.drew ?_ | refine Ext.drewN ?_ _ | refine Ext.setCell ?_ (by first | (simp; done) | (simp; omega) | omega) _ | refine Ext.trans ?_ (by assumption))), Boxed.new w _ _, fun i hi => absurd hi (by omega)⟩
  case round =>
    obtain ⟨j, hj, rfl, hx, hb, hok⟩ := hrel
    have hb0 := hb.at0
    have hb1 := hb.at1
    have hbg := hb.1
    have Hb := Lib.hid hb
    have Hok := Lib.hid hok
    clear hok hb
    by_cases hlt : j < n.sets.length
    · obtain ⟨b, off, u, rfl, _, hbb, hu, hus⟩ := (Hs.out.ext hx (Nat.le_refl _)).at_ hlt
      have Hus := Lib.hid (hus.mono (Nat.le_refl 0) hx.size)
      clear hus
      by_cases h1 : SetOk (setAt n.sets j)
      · have H1 := Lib.hid h1
        have H1b := Lib.hid (B_true h1)
        clear h1
        go_wp2_with fail
        refine (spec_IsSet u _ wr Hus.out).mono ?_
        rintro e w1 ⟨rfl, hx1⟩
        rw [H1b.out]
        go_wp2_with fail
        go_roundg (n.sets.length - (j + 1))
        case measure => omega
        case rel => exact ⟨j + 1, by omega, by go_num, (by repeat (first | exact Ext.refl _ | assumption | refine Ext.alloc ?_ _ | refine Ext.drew ?_ | refine Ext.drewN ?_ _ | refine Ext.setCell ?_ (by first | (simp; done) | (simp; omega) | omega) _ | refine Ext.trans ?_ (by assumption))), Hb.out.ext hx1, netOk_step Hok.out H1.out⟩
      · have H1 := Lib.hid h1
        have H1b := Lib.hid (B_false h1)
        clear h1
        go_wp2_with fail
        refine (spec_IsSet u _ wr Hus.out).mono ?_
        rintro e w1 ⟨rfl, hx1⟩
        rw [H1b.out]
        go_wp2_with fail
        go_ret
        exact ⟨ret_bool (B_false (fun h => H1.out (h.2.2.1 j hlt))).symm, (by repeat (first | exact Ext.refl _ | assumption | refine Ext.alloc ?_ _ | refine Ext.drew ?_ | refine Ext.drewN ?_ _ | refine Ext.setCell ?_ (by first | (simp; done) | (simp; omega) | omega) _ | refine Ext.trans ?_ (by assumption)))⟩
    · obtain rfl : j = n.sets.length := by omega
      go_wp2_with fail
      go_loopg [4] n.links.length (fun m i wr => ∃ j : Nat, j + m = n.links.length ∧ i = .int .i64 j ∧ Ext w wr ∧ Boxed wr w.heap.size [.slice A n.sets.length c, .slice A' n.links.length c'] ∧ ∀ i, i < j → LkOk (lkAt n.links i) n.sets.length)
      case atStart => exact ⟨0, by omega, rfl, (by repeat (first | exact Ext.refl _ | assumption | refine Ext.alloc ?_ _ | refine Ext.drew ?_ | refine Ext.drewN ?_ _ | refine Ext.setCell ?_ (by first | (simp; done) | (simp; omega) | omega) _ | refine Ext.trans ?_ (by assumption))), Hb.out, fun i hi => absurd hi (by omega)⟩
      case round =>
        obtain ⟨j, hj, rfl, hx2, hb, hlk⟩ := hrel
        have hb0 := hb.at0
        have hb1 := hb.at1
        have hbg := hb.1
        have Hb := Lib.hid hb
        have Hlk := Lib.hid hlk
        clear hlk hb
        by_cases hlt : j < n.links.length
        · obtain ⟨b, off, rfl, _, hbb, h1, h2, h3, h4⟩ := (Hk.out.ext hx2 (Nat.le_refl _)).at_ hlt
          have hbr : b < wr.heap.size := Nat.lt_of_lt_of_le hbb hx2.size
          by_cases h1 : LkOk (lkAt n.links j) n.sets.length
          · have H1 := Lib.hid h1
            have H1b := Lib.hid (B_true h1)
            clear h1
            go_wp2_with fail
            (refine wp_region_onto prog_mixed (by kernel_rfl) ?_; (repeat (go_big_quiet_step ((go_at_call 56; exact onto_callXb H1b.out (spec_l18Link _ _ _ _ _ _ hn))))); refine onto_end ?_; intro w1 hx1)
            go_wp2_with fail
            go_roundg (n.links.length - (j + 1))
            case measure => omega
            case rel => exact ⟨j + 1, by omega, by go_num, (by repeat (first | exact Ext.refl _ | assumption | refine Ext.alloc ?_ _ | refine Ext.drew ?_ | refine Ext.drewN ?_ _ | refine Ext.setCell ?_ (by first | (simp; done) | (simp; omega) | omega) _ | refine Ext.trans ?_ (by assumption))), Hb.out.ext hx1, netOk_step Hlk.out H1.out⟩
          · have H1 := Lib.hid h1
            have H1b := Lib.hid (B_false h1)
            clear h1
            go_wp2_with fail
            (refine wp_region_onto prog_mixed (by kernel_rfl) ?_; (repeat (go_big_quiet_step ((go_at_call 56; exact onto_callXb H1b.out (spec_l18Link _ _ _ _ _ _ hn))))); refine onto_end ?_; intro w1 hx1)
            go_wp2_with fail
            go_ret
            exact ⟨ret_bool (B_false (fun h => H1.out (h.2.2.2 j hlt))).symm, (by repeat (first | exact Ext.refl _ | assumption | refine Ext.alloc ?_ _ | refine Ext.drew ?_ | refine Ext.drewN ?_ _ | refine Ext.setCell ?_ (by first | (simp; done) | (simp; omega) | omega) _ | refine Ext.trans ?_ (by assumption)))⟩
        · obtain rfl : j = n.links.length := by omega
          go_wp2_with fail
          all_goals (go_ret; refine ⟨ret_bool (B_eq ?_), (by repeat (first | exact Ext.refl _ | assumption | refine Ext.alloc ?_ _ | refine Ext.drew ?_ | refine Ext.drewN ?_ _ | refine Ext.setCell ?_ (by first | (simp; done) | (simp; omega) | omega) _ | refine Ext.trans ?_ (by assumption)))⟩)
          all_goals simp only [decide_eq_true_eq, Bool.false_eq_true, false_iff]
          · exact ⟨fun h => ⟨by omega, by omega, Hok.out, Hlk.out⟩, fun h => by have := h.2.1; omega⟩
          · intro h
            have := h.1
            omega
end Go.Proofs.YtfmnkojjkjkdeaaDoor
