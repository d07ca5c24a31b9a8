/- Contracts: the program's and the reference's BrokenLinks. -/
import Derived.Test.YtfajmlkiidnhlaaM
import Derived.Test.YtfajmlkiidnhlaaO
namespace Go.Proofs.Ytfajmlkiidnhlaa
set_option linter.unusedVariables false
set_option linter.unusedSimpArgs false
open Go.RowKit
attribute [local go_sem] cell_onto

noncomputable def brokenV (n : Net) (ds : List Int) : List Int := bif B (dayE n ds = 0) then brokenL n ds else []
theorem brokenV_ok {n : Net} {ds : List Int} (h : dayE n ds = 0) : brokenV n ds = brokenL n ds := by unfold brokenV; rw [B_true h]; rfl
theorem brokenV_no {n : Net} {ds : List Int} (h : ¬ dayE n ds = 0) : brokenV n ds = [] := by unfold brokenV; rw [B_false h]; rfl
theorem brokenV_small (n : Net) (ds : List Int) (h : Small n) : (brokenV n ds).length ≤ 1048576 := by
  by_cases hk : dayE n ds = 0
  · rw [brokenV_ok hk]
    exact Nat.le_trans (notTo_len _ _) h.2.1
  · rw [brokenV_no hk]
    exact Nat.zero_le _

set_option maxHeartbeats 1000000 in
theorem impl_BrokenLinks (s k v : Value) (n : Net) (ds : List Int) (w : World) (h : NetIn w s k n) (hd : Ints w 0 w.heap.size v ds) :
    Calls Try.prog 14 #[.agg #[s, k], v] w (NewInts2 (brokenV n ds) (dayE n ds) w) := by
  have H := Lib.hid h
  have Hd := Lib.hid hd
  clear h hd
  go_enter Try.func14, Try.ntmps14
  go_wp2_with fail
  refine Calls.mono (impl_checkDays s k v n ds _ (H.out.up (by repeat (first | exact Ext.refl _ | assumption | refine Ext.alloc ?_ _ | refine Ext.drew ?_ | refine Ext.drewN ?_ _ | refine Ext.setCell ?_ (by first | (simp; done) | (simp; omega) | omega) _ | refine Ext.trans ?_ (by assumption)))) (Hd.out.up (by repeat (first | exact Ext.refl _ | assumption | refine Ext.alloc ?_ _ | refine Ext.drew ?_ | refine Ext.drewN ?_ _ | refine Ext.setCell ?_ (by first | (simp; done) | (simp; omega) | omega) _ | refine Ext.trans ?_ (by assumption))))) ?_
  rintro e w1 ⟨rfl, hx1⟩
  have hb := (Boxed.new w [s, k] 27).ext hx1; have hb0 := hb.at0; have hb1 := hb.at1; have hbg := hb.1; have Hhb := Lib.hid hb; clear hb
  have hx : Ext w w1 := (by repeat (first | exact Ext.refl _ | assumption | refine Ext.alloc ?_ _ | refine Ext.drew ?_ | refine Ext.drewN ?_ _ | refine Ext.setCell ?_ (by first | (simp; done) | (simp; omega) | omega) _ | refine Ext.trans ?_ (by assumption)))
  clear hx1
  by_cases hok : NetOk n
  · have Hok := Lib.hid hok
    clear hok
    by_cases hq : ds.length = n.sets.length ∧ DaysOk ds
    · have Hq := Lib.hid hq
      clear hq
      have He := Lib.hid (dayE_ok Hok.out Hq.out)
      rw [He.out]
      go_wp2_with fail
      refine Calls.mono (impl_brokenLinks s k v n ds w1 (H.out.up hx) (Hd.out.up hx) Hok.out Hq.out.1 Hq.out.2) ?_
      rintro e w2 ⟨v2, g2, rfl, hx2, hg2, ho2⟩
      have Hg2 := Lib.hid hg2
      have Ho2 := Lib.hid ho2
      clear hg2 ho2
      go_wp2_with fail
      go_ret2
      rw [brokenV_ok He.out, He.out]
      exact ⟨_, g2, rfl, (by repeat (first | exact Ext.refl _ | assumption | refine Ext.alloc ?_ _ | refine Ext.drew ?_ | refine Ext.drewN ?_ _ | refine Ext.setCell ?_ (by first | (simp; done) | (simp; omega) | omega) _ | refine Ext.trans ?_ (by assumption))), fun h => by have := Hg2.out h; have := hx.size; omega, Ho2.out⟩
    · have Hq := Lib.hid hq
      clear hq
      have He := Lib.hid (dayE_bad Hok.out Hq.out)
      have Hv := Lib.hid (brokenV_no (n := n) (ds := ds) (by rw [He.out]; omega))
      rw [He.out]
      go_wp2_with fail
      go_ret2
      rw [Hv.out, He.out]
      exact NewInts2.nil 2 (by repeat (first | exact Ext.refl _ | assumption | refine Ext.alloc ?_ _ | refine Ext.drew ?_ | refine Ext.drewN ?_ _ | refine Ext.setCell ?_ (by first | (simp; done) | (simp; omega) | omega) _ | refine Ext.trans ?_ (by assumption)))
  · have Hok := Lib.hid hok
    clear hok
    have He := Lib.hid (dayE_net (ds := ds) Hok.out)
    have Hv := Lib.hid (brokenV_no (n := n) (ds := ds) (by rw [He.out]; omega))
    rw [He.out]
    go_wp2_with fail
    go_ret2
    rw [Hv.out, He.out]
    exact NewInts2.nil 1 (by repeat (first | exact Ext.refl _ | assumption | refine Ext.alloc ?_ _ | refine Ext.drew ?_ | refine Ext.drewN ?_ _ | refine Ext.setCell ?_ (by first | (simp; done) | (simp; omega) | omega) _ | refine Ext.trans ?_ (by assumption)))

set_option maxHeartbeats 2000000 in
theorem spec_BrokenLinks (s k v : Value) (n : Net) (ds : List Int) (w : World) (h : NetIn w s k n) (hd : Ints w 0 w.heap.size v ds) :
    Calls Try.prog 15 #[.agg #[s, k], v] w (NewInts2 (brokenV n ds) (dayE n ds) w) := by
  obtain ⟨A, c, rfl, hn, hc⟩ := h.2.len
  have H := Lib.hid h
  have Hd := Lib.hid hd
  clear h hd
  go_enter Try.func15, Try.ntmps15
  go_wp2_with fail
  refine Calls.mono (spec_l18Code s _ v n ds _ (H.out.up (by repeat (first | exact Ext.refl _ | assumption | refine Ext.alloc ?_ _ | refine Ext.drew ?_ | refine Ext.drewN ?_ _ | refine Ext.setCell ?_ (by first | (simp; done) | (simp; omega) | omega) _ | refine Ext.trans ?_ (by assumption)))) (Hd.out.up (by repeat (first | exact Ext.refl _ | assumption | refine Ext.alloc ?_ _ | refine Ext.drew ?_ | refine Ext.drewN ?_ _ | refine Ext.setCell ?_ (by first | (simp; done) | (simp; omega) | omega) _ | refine Ext.trans ?_ (by assumption))))) ?_
  rintro e w1 ⟨rfl, hx1⟩
  have hb := (Boxed.new w [s, .slice A n.links.length c] 27).ext hx1; have hb0 := hb.at0; have hb1 := hb.at1; have hbg := hb.1; have Hhb := Lib.hid hb; clear hb
  have hx : Ext w w1 := (by repeat (first | exact Ext.refl _ | assumption | refine Ext.alloc ?_ _ | refine Ext.drew ?_ | refine Ext.drewN ?_ _ | refine Ext.setCell ?_ (by first | (simp; done) | (simp; omega) | omega) _ | refine Ext.trans ?_ (by assumption)))
  clear hx1
  by_cases hok : NetOk n
  · have Hok := Lib.hid hok
    have h20 := hok.2.1
    clear hok
    by_cases hq : ds.length = n.sets.length ∧ DaysOk ds
    · have Hq := Lib.hid hq
      clear hq
      have He := Lib.hid (dayE_ok Hok.out Hq.out)
      rw [He.out]
      go_wp2_with fail
      go_loopg [7, 8] n.links.length (fun q u i wr => ∃ j : Nat, j + q = n.links.length ∧ i = .int .i64 j ∧ Ext w wr ∧ Boxed wr w.heap.size [s, .slice A n.links.length c] ∧
        wr.ownsRow (w.heap.size + 1) 2 1 u (notTo (fun i => Holds (lkAt n.links i) ds) j).length ((notTo (fun i => Holds (lkAt n.links i) ds) j).map (Value.int .i64)))
      case atStart =>
        refine ⟨0, by omega, rfl, (by repeat (first | exact Ext.refl _ | assumption | refine Ext.alloc ?_ _ | refine Ext.drew ?_ | refine Ext.drewN ?_ _ | refine Ext.setCell ?_ (by first | (simp; done) | (simp; omega) | omega) _ | refine Ext.trans ?_ (by assumption))), Hhb.out.ext (by repeat (first | exact Ext.refl _ | assumption | refine Ext.alloc ?_ _ | refine Ext.drew ?_ | refine Ext.drewN ?_ _ | refine Ext.setCell ?_ (by first | (simp; done) | (simp; omega) | omega) _ | refine Ext.trans ?_ (by assumption))), ?_⟩
        have := World.ownsRow_made (base := w.heap.size + 1) (e := 2) (size := 1) w1 #[] 0 hbg (Nat.zero_le _) rfl
        simpa [notTo] using this
      case round =>
        obtain ⟨j, hj, rfl, hxr, hbb, hown⟩ := hrel
        have hb := hbb; have hb0 := hb.at0; have hb1 := hb.at1; have hbg := hb.1; have Hhb := Lib.hid hb; clear hb
        have Hown := Lib.hid hown
        clear hown hbb
        by_cases hlt : j < n.links.length
        · obtain ⟨b, off, rfl, _, hbl, h1, h2, h3, h4⟩ := (H.out.2.ext hxr (Nat.le_refl _)).at_ hlt
          have Hlk := Lib.hid (Hok.out.2.2.2 j hlt)
          by_cases hh : Holds (lkAt n.links j) ds
          · have Hh := Lib.hid hh
            have Hb := Lib.hid (B_true hh)
            clear hh
            go_wp2_with fail
            refine Calls.mono (spec_l18Holds (lkAt n.links j) v ds n.sets.length wr (Hd.out.up hxr) Hlk.out Hq.out.1 Hq.out.2) ?_
            rintro e w2 ⟨rfl, hx2⟩
            rw [Hb.out]
            go_wp2_with fail
            go_roundg (n.links.length - (j + 1))
            case measure => omega
            case rel => exact ⟨j + 1, by omega, by go_num, (by repeat (first | exact Ext.refl _ | assumption | refine Ext.alloc ?_ _ | refine Ext.drew ?_ | refine Ext.drewN ?_ _ | refine Ext.setCell ?_ (by first | (simp; done) | (simp; omega) | omega) _ | refine Ext.trans ?_ (by assumption))), Hhb.out.ext hx2, by rw [notTo_yes (p := fun i => Holds (lkAt n.links i) ds) Hh.out]; exact row_ext Hown.out hx2⟩
          · have Hh := Lib.hid hh
            have Hb := Lib.hid (B_false hh)
            have Hlen := Lib.hid (notTo_len (fun i => Holds (lkAt n.links i) ds) j)
            clear hh
            go_wp2_with fail
            refine Calls.mono (spec_l18Holds (lkAt n.links j) v ds n.sets.length wr (Hd.out.up hxr) Hlk.out Hq.out.1 Hq.out.2) ?_
            rintro e w2 ⟨rfl, hx2⟩
            rw [Hb.out]
            have Hbw := Lib.hid (Hhb.out.ext hx2)
            have hxr2 : Ext w w2 := hxr.trans hx2
            go_wp2_with (at_builtin; refine wpList_append_box _ rfl _ _ 28 rfl (w.heap.size + 1) 2 1 8 Try.underlying28 (by kernel_rfl) (by omega) _ _ _ rfl (row_ext (row_ext Hown.out hx2) ((Ext.refl _).alloc _)) w2.heap.size [.int .i64 j] rfl (Boxed.new w2 [.int .i64 j] 2) rfl (by simp [Value.oneCell']) (by have := Hlen.out; unfold maxLen; omega) (by have := Hlen.out; omega) (by have := Hbw.out.1; simp; omega) ?_; intro v' w3 hown' hgr)
            have Hgr := Lib.hid (Ext.grown (hxr2.alloc (.cells #[.int .i64 j] 2)) hgr (row_ext (row_ext Hown.out hx2) ((Ext.refl _).alloc _)) (Nat.le_succ _))
            have Hbx := Lib.hid (Boxed.grown (Boxed.ext Hbw.out ((Ext.refl _).alloc (.cells #[.int .i64 j] 2))) hgr (row_ext (row_ext Hown.out hx2) ((Ext.refl _).alloc _)) (Nat.lt_succ_self _))
            have Hown' := Lib.hid hown'
            clear hown' hgr
            go_wp2_with fail
            go_roundg (n.links.length - (j + 1))
            case measure => omega
            case rel => exact ⟨j + 1, by omega, by go_num, Hgr.out, Hbx.out, by rw [notTo_no (p := fun i => Holds (lkAt n.links i) ds) Hh.out, List.length_append, List.map_append]; exact Hown'.out⟩
        · obtain rfl : j = n.links.length := by omega
          go_wp2_with fail
          go_ret2
          obtain ⟨g, hg, ho⟩ := Own.of_row (f := intCell (brokenL n ds)) Hown.out (intCells _)
          rw [brokenV_ok He.out, He.out]
          exact ⟨_, g, rfl, (by repeat (first | exact Ext.refl _ | assumption | refine Ext.alloc ?_ _ | refine Ext.drew ?_ | refine Ext.drewN ?_ _ | refine Ext.setCell ?_ (by first | (simp; done) | (simp; omega) | omega) _ | refine Ext.trans ?_ (by assumption))), fun h => by have := hg h; omega, ho⟩
    · have Hq := Lib.hid hq
      clear hq
      have He := Lib.hid (dayE_bad Hok.out Hq.out)
      have Hv := Lib.hid (brokenV_no (n := n) (ds := ds) (by rw [He.out]; omega))
      rw [He.out]
      go_wp2_with fail
      go_ret2
      rw [Hv.out, He.out]
      exact NewInts2.nil 2 (by repeat (first | exact Ext.refl _ | assumption | refine Ext.alloc ?_ _ | refine Ext.drew ?_ | refine Ext.drewN ?_ _ | refine Ext.setCell ?_ (by first | (simp; done) | (simp; omega) | omega) _ | refine Ext.trans ?_ (by assumption)))
  · have Hok := Lib.hid hok
    clear hok
    have He := Lib.hid (dayE_net (ds := ds) Hok.out)
    have Hv := Lib.hid (brokenV_no (n := n) (ds := ds) (by rw [He.out]; omega))
    rw [He.out]
    go_wp2_with fail
    go_ret2
    rw [Hv.out, He.out]
    exact NewInts2.nil 1 (by repeat (first | exact Ext.refl _ | assumption | refine Ext.alloc ?_ _ | refine Ext.drew ?_ | refine Ext.drewN ?_ _ | refine Ext.setCell ?_ (by first | (simp; done) | (simp; omega) | omega) _ | refine Ext.trans ?_ (by assumption)))
end Go.Proofs.Ytfajmlkiidnhlaa
