/- Texts merged (a claim holds at most sixty files): K, M. -/
import Derived.Test.YtfajmlkiidnhlaaQ4G
/- Contracts: links that are broken; DoSolve; EmptyVariables. -/
namespace Go.Proofs.Ytfajmlkiidnhlaa
set_option linter.unusedVariables false
set_option linter.unusedSimpArgs false
open Go.RowKit
attribute [local go_sem] cell_onto

/-- a link's two days, in memory -/
theorem link_days {w : World} {A : Option Addr} {c m : Nat} {ds : List Int} {n : Nat} {l : Lk} (h : Ints w 0 w.heap.size (.slice A m c) ds) (hl : LkOk l n) (hn : ds.length = n) (hd : DaysOk ds) :
    ∃ b off, A = some ⟨b, off, none⟩ ∧ b < w.heap.size ∧ w.cell? ⟨b, off + l.af.toNat, none⟩ = some (.int .i64 (inAt ds l.af.toNat)) ∧ w.cell? ⟨b, off + l.be.toNat, none⟩ = some (.int .i64 (inAt ds l.be.toNat)) ∧
      DayOk (inAt ds l.af.toNat) ∧ DayOk (inAt ds l.be.toNat) := by
  obtain ⟨⟨a1, a2⟩, ⟨b1, b2⟩, _⟩ := hl
  obtain ⟨b, off, e, _, hb, h1⟩ := h.at_ (i := l.af.toNat) (by omega)
  obtain ⟨b', off', e', _, _, h2⟩ := h.at_ (i := l.be.toNat) (by omega)
  rw [e] at e'
  injection e' with e'
  injection e' with e1 e2
  subst e1 e2
  exact ⟨b, off, e, hb, h1, h2, hd _ (by omega), hd _ (by omega)⟩

set_option maxHeartbeats 1000000 in
theorem spec_l18Holds (l : Lk) (v : Value) (ds : List Int) (n : Nat) (w : World) (h : Ints w 0 w.heap.size v ds) (hl : LkOk l n) (hn : ds.length = n) (hd : DaysOk ds) :
    Calls Try.prog 94 #[.agg #[.int .i64 l.be, .int .i64 l.af, .int .i64 l.le, .int .i64 l.mo], v] w (RetX (.bool (B (Holds l ds))) w) := by
  obtain ⟨A, c, rfl, hn1, hc⟩ := h.len
  obtain ⟨b, off, rfl, hb, h1, h2, d1, d2⟩ := link_days h hl hn hd
  obtain ⟨⟨l1, l2⟩, ⟨l3, l4⟩, _, ⟨l5, l6⟩, ⟨l7, l8⟩, _⟩ := hl
  unfold DayOk at d1 d2
  obtain ⟨d11, d12⟩ := d1
  obtain ⟨d21, d22⟩ := d2
  have hb1 : b < w.heap.size + 1 := by omega
  have k1 : l.af < (ds.length : Int) := by omega
  have k2 : l.be < (ds.length : Int) := by omega
  clear h hd
  by_cases hh : Holds l ds
  · have Hh := Lib.hid hh
    have Hb := Lib.hid (B_true (p := l.le ≤ inAt ds l.af.toNat - inAt ds l.be.toNat ∧ inAt ds l.af.toNat - inAt ds l.be.toNat ≤ l.mo) hh)
    clear hh
    go_enter Try.func94, Try.ntmps94
    go_wp2_with fail
    (refine wp_region_onto prog_mixed (by kernel_rfl) ?_; (repeat (go_big_quiet_step ((go_at_call 98; exact onto_callS (spec_l01In_b Hb.out _))))); refine onto_end ?_; intro w1 hx1)
    go_wp2_with fail
    go_ret
    exact ⟨ret_bool (B_true Hh.out).symm, (by repeat (first | exact Ext.refl _ | assumption | refine Ext.alloc ?_ _ | refine Ext.drew ?_ | refine Ext.drewN ?_ _ | refine Ext.setCell ?_ (by first | (simp; done) | (simp; omega) | omega) _ | refine Ext.trans ?_ (by assumption)))⟩
  · have Hh := Lib.hid hh
    have Hb := Lib.hid (B_false (p := l.le ≤ inAt ds l.af.toNat - inAt ds l.be.toNat ∧ inAt ds l.af.toNat - inAt ds l.be.toNat ≤ l.mo) hh)
    clear hh
    go_enter Try.func94, Try.ntmps94
    go_wp2_with fail
    (refine wp_region_onto prog_mixed (by kernel_rfl) ?_; (repeat (go_big_quiet_step ((go_at_call 98; exact onto_callS (spec_l01In_b Hb.out _))))); refine onto_end ?_; intro w1 hx1)
    go_wp2_with fail
    go_ret
    exact ⟨ret_bool (B_false Hh.out).symm, (by repeat (first | exact Ext.refl _ | assumption | refine Ext.alloc ?_ _ | refine Ext.drew ?_ | refine Ext.drewN ?_ _ | refine Ext.setCell ?_ (by first | (simp; done) | (simp; omega) | omega) _ | refine Ext.trans ?_ (by assumption)))⟩
set_option maxHeartbeats 1000000 in
theorem spec_l18Solves (s k v : Value) (n : Net) (ds : List Int) (w : World) (h : NetIn w s k n) (hd : Ints w 0 w.heap.size v ds) (hok : NetOk n) (hl : ds.length = n.sets.length) (hds : DaysOk ds) :
    Calls Try.prog 93 #[.agg #[s, k], v] w (RetX (.bool (B (Solves n ds))) w) := by
  obtain ⟨A, c, rfl, hn, hc⟩ := h.1.len
  obtain ⟨A', c', rfl, hn', hc'⟩ := h.2.len
  obtain ⟨Ad, cd, rfl, hnd, hcd⟩ := hd.len
  have H := Lib.hid h
  have Hd := Lib.hid hd
  have Hok := Lib.hid hok
  have Hl := Lib.hid hl
  have Hds := Lib.hid hds
  have hle : ds.length ≤ n.sets.length := by omega
  clear h hd hok hl hds
  go_enter Try.func93, Try.ntmps93
  go_wp2_with fail
  go_loopg [5] ds.length (fun q i wr => ∃ j : Nat, j + q = ds.length ∧ i = .int .i64 j ∧ Ext w wr ∧ Boxed wr w.heap.size [.slice A n.sets.length c, .slice A' n.links.length c'] ∧ ∀ i, i < j → HasDay (setAt n.sets i) (inAt ds i))
  case atStart => exact ⟨0, by omega, rfl, (by repeat (first | exact Ext.refl _ | assumption | refine Ext.alloc ?_ _ | refine Ext.drew ?_ | refine Ext.drewN ?_ _ | refine Ext.setCell ?_ (by first | (simp; done) | (simp; omega) | omega) _ | refine Ext.trans ?_ (by assumption))), Boxed.new w _ _, fun i hi => absurd hi (by omega)⟩
  case round =>
    obtain ⟨j, hj, rfl, hx, hbb, hhas⟩ := hrel
    have hb := hbb; have hb0 := hb.at0; have hb1 := hb.at1; have hbg := hb.1; have Hhb := Lib.hid hb; clear hb
    have Hhas := Lib.hid hhas
    clear hbb hhas
    by_cases hlt : j < ds.length
    · obtain ⟨b, off, u, rfl, _, hbl, h1, h2⟩ := (H.out.1.ext hx (Nat.le_refl _)).at_ (i := j) (by omega)
      obtain ⟨b', off', rfl, _, hbl', h1'⟩ := (Hd.out.ext hx (Nat.le_refl _)).at_ hlt
      have hbr : b < wr.heap.size := Nat.lt_of_lt_of_le hbl hx.size
      have hbr' : b' < wr.heap.size := Nat.lt_of_lt_of_le hbl' hx.size
      have hjn : j < n.sets.length := by omega
      have Hu := Lib.hid (h2.mono (Nat.le_refl 0) hx.size)
      clear h2
      by_cases hq : HasDay (setAt n.sets j) (inAt ds j)
      · have Hq := Lib.hid hq
        have Hqb := Lib.hid (B_true hq)
        clear hq
        go_wp2_with fail
        (refine wp_region_onto prog_mixed (by kernel_rfl) ?_; (repeat (go_big_quiet_step ((go_at_call 178; exact onto_callXb Hqb.out (spec_l02Has u _ _ _ (Hu.out.up (onto_ext _ _))))))); refine onto_end ?_; intro w1 hx1)
        go_wp2_with fail
        go_roundg (ds.length - (j + 1))
        case measure => omega
        case rel => exact ⟨j + 1, by omega, by go_num, (by repeat (first | exact Ext.refl _ | assumption | refine Ext.alloc ?_ _ | refine Ext.drew ?_ | refine Ext.drewN ?_ _ | refine Ext.setCell ?_ (by first | (simp; done) | (simp; omega) | omega) _ | refine Ext.trans ?_ (by assumption))), Hhb.out.ext hx1, netOk_step (P := fun i => HasDay (setAt n.sets i) (inAt ds i)) Hhas.out Hq.out⟩
      · have Hq := Lib.hid hq
        have Hqb := Lib.hid (B_false hq)
        clear hq
        go_wp2_with fail
        (refine wp_region_onto prog_mixed (by kernel_rfl) ?_; (repeat (go_big_quiet_step ((go_at_call 178; exact onto_callXb Hqb.out (spec_l02Has u _ _ _ (Hu.out.up (onto_ext _ _))))))); refine onto_end ?_; intro w1 hx1)
        go_wp2_with fail
        go_ret
        exact ⟨ret_bool (B_false (fun hh => Hq.out (hh.1 j hlt))).symm, (by repeat (first | exact Ext.refl _ | assumption | refine Ext.alloc ?_ _ | refine Ext.drew ?_ | refine Ext.drewN ?_ _ | refine Ext.setCell ?_ (by first | (simp; done) | (simp; omega) | omega) _ | refine Ext.trans ?_ (by assumption)))⟩
    · obtain rfl : j = ds.length := by omega
      go_wp2_with fail
      go_loopg [6] n.links.length (fun q i wr => ∃ j : Nat, j + q = n.links.length ∧ i = .int .i64 j ∧ Ext w wr ∧ Boxed wr w.heap.size [.slice A n.sets.length c, .slice A' n.links.length c'] ∧ ∀ i, i < j → Holds (lkAt n.links i) ds)
      case atStart => exact ⟨0, by omega, rfl, (by repeat (first | exact Ext.refl _ | assumption | refine Ext.alloc ?_ _ | refine Ext.drew ?_ | refine Ext.drewN ?_ _ | refine Ext.setCell ?_ (by first | (simp; done) | (simp; omega) | omega) _ | refine Ext.trans ?_ (by assumption))), Hhb.out, fun i hi => absurd hi (by omega)⟩
      case round =>
        obtain ⟨j, hj2, rfl, hx2, hbb, hho⟩ := hrel
        have hb := hbb; have hb0 := hb.at0; have hb1 := hb.at1; have hbg := hb.1; have Hhb := Lib.hid hb; clear hb
        have Hho := Lib.hid hho
        clear hbb hho
        by_cases hlt2 : j < n.links.length
        · obtain ⟨b, off, rfl, _, hbl, h1, h2, h3, h4⟩ := (H.out.2.ext hx2 (Nat.le_refl _)).at_ hlt2
          have Hlk := Lib.hid (Hok.out.2.2.2 j hlt2)
          by_cases hq : Holds (lkAt n.links j) ds
          · have Hq := Lib.hid hq
            have Hqb := Lib.hid (B_true hq)
            clear hq
            go_wp2_with fail
            refine Calls.mono (spec_l18Holds (lkAt n.links j) _ ds n.sets.length wr (Hd.out.up hx2) Hlk.out Hl.out Hds.out) ?_
            rintro e w1 ⟨rfl, hx1⟩
            rw [Hqb.out]
            go_wp2_with fail
            go_roundg (n.links.length - (j + 1))
            case measure => omega
            case rel => exact ⟨j + 1, by omega, by go_num, (by repeat (first | exact Ext.refl _ | assumption | refine Ext.alloc ?_ _ | refine Ext.drew ?_ | refine Ext.drewN ?_ _ | refine Ext.setCell ?_ (by first | (simp; done) | (simp; omega) | omega) _ | refine Ext.trans ?_ (by assumption))), Hhb.out.ext hx1, netOk_step (P := fun i => Holds (lkAt n.links i) ds) Hho.out Hq.out⟩
          · have Hq := Lib.hid hq
            have Hqb := Lib.hid (B_false hq)
            clear hq
            go_wp2_with fail
            refine Calls.mono (spec_l18Holds (lkAt n.links j) _ ds n.sets.length wr (Hd.out.up hx2) Hlk.out Hl.out Hds.out) ?_
            rintro e w1 ⟨rfl, hx1⟩
            rw [Hqb.out]
            go_wp2_with fail
            go_ret
            exact ⟨ret_bool (B_false (fun hh => Hq.out (hh.2 j hlt2))).symm, (by repeat (first | exact Ext.refl _ | assumption | refine Ext.alloc ?_ _ | refine Ext.drew ?_ | refine Ext.drewN ?_ _ | refine Ext.setCell ?_ (by first | (simp; done) | (simp; omega) | omega) _ | refine Ext.trans ?_ (by assumption)))⟩
        · obtain rfl : j = n.links.length := by omega
          go_wp2_with fail
          go_ret
          exact ⟨ret_bool (B_true ⟨Hhas.out, Hho.out⟩).symm, (by repeat (first | exact Ext.refl _ | assumption | refine Ext.alloc ?_ _ | refine Ext.drew ?_ | refine Ext.drewN ?_ _ | refine Ext.setCell ?_ (by first | (simp; done) | (simp; omega) | omega) _ | refine Ext.trans ?_ (by assumption)))⟩
set_option maxHeartbeats 400000 in
theorem spec_DoSolve (s k v : Value) (n : Net) (ds : List Int) (w : World) (h : NetIn w s k n) (hd : Ints w 0 w.heap.size v ds) :
    Calls Try.prog 13 #[.agg #[s, k], v] w (RetX (.tuple #[.bool (solvB n ds), .int .i64 (dayE n ds)]) w) := by
  have H := Lib.hid h
  have Hd := Lib.hid hd
  clear h hd
  go_enter Try.func13, Try.ntmps13
  go_wp2_with fail
  refine Calls.mono (spec_l18Code s k v n ds _ (H.out.up (by repeat (first | exact Ext.refl _ | assumption | refine Ext.alloc ?_ _ | refine Ext.drew ?_ | refine Ext.drewN ?_ _ | refine Ext.setCell ?_ (by first | (simp; done) | (simp; omega) | omega) _ | refine Ext.trans ?_ (by assumption)))) (Hd.out.up (by repeat (first | exact Ext.refl _ | assumption | refine Ext.alloc ?_ _ | refine Ext.drew ?_ | refine Ext.drewN ?_ _ | refine Ext.setCell ?_ (by first | (simp; done) | (simp; omega) | omega) _ | refine Ext.trans ?_ (by assumption))))) ?_
  rintro e w1 ⟨rfl, hx1⟩
  have hb := (Boxed.new w [s, k] 27).ext hx1; have hb0 := hb.at0; have hb1 := hb.at1; have hbg := hb.1; have Hhb := Lib.hid hb; clear hb
  have hx : Ext w w1 := (by repeat (first | exact Ext.refl _ | assumption | refine Ext.alloc ?_ _ | refine Ext.drew ?_ | refine Ext.drewN ?_ _ | refine Ext.setCell ?_ (by first | (simp; done) | (simp; omega) | omega) _ | refine Ext.trans ?_ (by assumption)))
  clear hx1
  by_cases hok : NetOk n
  · have Hok := Lib.hid hok
    clear hok
    by_cases hq : ds.length = n.sets.length ∧ DaysOk ds
    · have Hq := Lib.hid hq
      clear hq
      have He := Lib.hid (dayE_ok Hok.out Hq.out)
      rw [He.out]
      go_wp2_with fail
      refine Calls.mono (spec_l18Solves s k v n ds w1 (H.out.up hx) (Hd.out.up hx) Hok.out Hq.out.1 Hq.out.2) ?_
      rintro e w2 ⟨rfl, hx2⟩
      go_wp2_with fail
      go_ret2
      refine ⟨?_, (by repeat (first | exact Ext.refl _ | assumption | refine Ext.alloc ?_ _ | refine Ext.drew ?_ | refine Ext.drewN ?_ _ | refine Ext.setCell ?_ (by first | (simp; done) | (simp; omega) | omega) _ | refine Ext.trans ?_ (by assumption)))⟩
      rw [show solvB n ds = B (Solves n ds) from B_congr ⟨fun h => h.2, fun h => ⟨He.out, h⟩⟩, He.out]
      rfl
    · have Hq := Lib.hid hq
      clear hq
      have He := Lib.hid (dayE_bad Hok.out Hq.out)
      rw [He.out]
      go_wp2_with fail
      go_ret2
      refine ⟨?_, (by repeat (first | exact Ext.refl _ | assumption | refine Ext.alloc ?_ _ | refine Ext.drew ?_ | refine Ext.drewN ?_ _ | refine Ext.setCell ?_ (by first | (simp; done) | (simp; omega) | omega) _ | refine Ext.trans ?_ (by assumption)))⟩
      rw [show solvB n ds = false from B_false (fun h => by have := h.1; rw [He.out] at this; omega), He.out]
      rfl
  · have Hok := Lib.hid hok
    clear hok
    have He := Lib.hid (dayE_net (ds := ds) Hok.out)
    rw [He.out]
    go_wp2_with fail
    go_ret2
    refine ⟨?_, (by repeat (first | exact Ext.refl _ | assumption | refine Ext.alloc ?_ _ | refine Ext.drew ?_ | refine Ext.drewN ?_ _ | refine Ext.setCell ?_ (by first | (simp; done) | (simp; omega) | omega) _ | refine Ext.trans ?_ (by assumption)))⟩
    rw [show solvB n ds = false from B_false (fun h => by have := h.1; rw [He.out] at this; omega), He.out]
    rfl
set_option maxHeartbeats 2000000 in
theorem impl_brokenLinks (s k v : Value) (n : Net) (ds : List Int) (w : World) (h : NetIn w s k n) (hd : Ints w 0 w.heap.size v ds) (hok : NetOk n) (hl : ds.length = n.sets.length) (hds : DaysOk ds) :
    Calls Try.prog 91 #[.agg #[s, k], v] w (NewRow 1 (brokenL n ds).length (intCell (brokenL n ds)) w) := by
  obtain ⟨A, c, rfl, hn, hc⟩ := h.2.len
  obtain ⟨Ad, cd, rfl, hnd, hcd⟩ := hd.len
  have H := Lib.hid h
  have Hd := Lib.hid hd
  have Hok := Lib.hid hok
  have Hl := Lib.hid hl
  have Hds := Lib.hid hds
  have h20 := hok.2.1
  clear h hd hok hl hds
  go_enter Try.func91, Try.ntmps91
  go_wp2_with fail
  go_loopg [5, 12] n.links.length (fun q u i wr => ∃ j : Nat, j + q = n.links.length ∧ i = .int .i64 j ∧ Ext w wr ∧
    wr.ownsRow w.heap.size 2 1 u (notTo (fun i => Holds (lkAt n.links i) ds) j).length ((notTo (fun i => Holds (lkAt n.links i) ds) j).map (Value.int .i64)))
  case atStart =>
    refine ⟨0, by omega, rfl, (by repeat (first | exact Ext.refl _ | assumption | refine Ext.alloc ?_ _ | refine Ext.drew ?_ | refine Ext.drewN ?_ _ | refine Ext.setCell ?_ (by first | (simp; done) | (simp; omega) | omega) _ | refine Ext.trans ?_ (by assumption))), ?_⟩
    have := World.ownsRow_made (base := w.heap.size) (e := 2) (size := 1) (w.alloc (.cells #[s, .slice A n.links.length c] 27)) #[] 0 (by simp) (Nat.zero_le _) rfl
    simpa [notTo] using this
  case round =>
    obtain ⟨j, hj, rfl, hx, hown⟩ := hrel
    have Hown := Lib.hid hown
    clear hown
    by_cases hlt : j < n.links.length
    · obtain ⟨b, off, rfl, _, hbl, h1, h2, h3, h4⟩ := (H.out.2.ext hx (Nat.le_refl _)).at_ hlt
      obtain ⟨b', off', rfl, hb', g1, g2, d1, d2⟩ := link_days (Hd.out.up hx) (Hok.out.2.2.2 j hlt) Hl.out Hds.out
      have hlk := Hok.out.2.2.2 j hlt
      obtain ⟨⟨l1, l2⟩, ⟨l3, l4⟩, _, ⟨l5, l6⟩, ⟨l7, l8⟩, _⟩ := hlk
      have hl2 := Hl.out
      unfold DayOk at d1 d2
      obtain ⟨d11, d12⟩ := d1
      obtain ⟨d21, d22⟩ := d2
      have hb1 : b' < wr.heap.size + 1 := by omega
      have k1 : (lkAt n.links j).af < (ds.length : Int) := by omega
      have k2 : (lkAt n.links j).be < (ds.length : Int) := by omega
      clear hl2
      by_cases hh : Holds (lkAt n.links j) ds
      · have Hh := Lib.hid hh
        have Hb := Lib.hid (B_true (p := (lkAt n.links j).le ≤ inAt ds (lkAt n.links j).af.toNat - inAt ds (lkAt n.links j).be.toNat ∧ inAt ds (lkAt n.links j).af.toNat - inAt ds (lkAt n.links j).be.toNat ≤ (lkAt n.links j).mo) hh)
        clear hh
        go_wp2_with fail
        (refine wp_region_onto prog_mixed (by kernel_rfl) ?_; (repeat (go_big_quiet_step ((go_at_call 95; exact onto_callS (impl_within_b Hb.out _))))); refine onto_end ?_; intro w1 hx1)
        go_wp2_with fail
        go_roundg (n.links.length - (j + 1))
        case measure => omega
        case rel => exact ⟨j + 1, by omega, by go_num, (by repeat (first | exact Ext.refl _ | assumption | refine Ext.alloc ?_ _ | refine Ext.drew ?_ | refine Ext.drewN ?_ _ | refine Ext.setCell ?_ (by first | (simp; done) | (simp; omega) | omega) _ | refine Ext.trans ?_ (by assumption))), by rw [notTo_yes (p := fun i => Holds (lkAt n.links i) ds) Hh.out]; exact row_ext Hown.out (by repeat (first | exact Ext.refl _ | assumption | refine Ext.alloc ?_ _ | refine Ext.drew ?_ | refine Ext.drewN ?_ _ | refine Ext.setCell ?_ (by first | (simp; done) | (simp; omega) | omega) _ | refine Ext.trans ?_ (by assumption)))⟩
      · have Hh := Lib.hid hh
        have Hb := Lib.hid (B_false (p := (lkAt n.links j).le ≤ inAt ds (lkAt n.links j).af.toNat - inAt ds (lkAt n.links j).be.toNat ∧ inAt ds (lkAt n.links j).af.toNat - inAt ds (lkAt n.links j).be.toNat ≤ (lkAt n.links j).mo) hh)
        have Hlen := Lib.hid (notTo_len (fun i => Holds (lkAt n.links i) ds) j)
        clear hh
        go_wp2_with fail
        (refine wp_region_onto prog_mixed (by kernel_rfl) ?_; (repeat (go_big_quiet_step ((go_at_call 95; exact onto_callS (impl_within_b Hb.out _))))); refine onto_end ?_; intro w1 hx1)
        have hxw : Ext wr w1 := (by repeat (first | exact Ext.refl _ | assumption | refine Ext.alloc ?_ _ | refine Ext.drew ?_ | refine Ext.drewN ?_ _ | refine Ext.setCell ?_ (by first | (simp; done) | (simp; omega) | omega) _ | refine Ext.trans ?_ (by assumption)))
        have hxr : Ext w w1 := hx.trans hxw
        clear hx1
        go_wp2_with (at_builtin; refine wpList_append_box _ rfl _ _ 28 rfl w.heap.size 2 1 8 Try.underlying28 (by kernel_rfl) (by omega) _ _ _ rfl (row_ext (row_ext Hown.out hxw) ((Ext.refl _).alloc _)) w1.heap.size [.int .i64 j] rfl (Boxed.new w1 [.int .i64 j] 2) rfl (by simp [Value.oneCell']) (by have := Hlen.out; unfold maxLen; omega) (by have := Hlen.out; omega) (by have := hxr.size; simp; omega) ?_; intro v' w2 hown' hgr)
        have Hgr := Lib.hid (Ext.grown (hxr.alloc (.cells #[.int .i64 j] 2)) hgr (row_ext (row_ext Hown.out hxw) ((Ext.refl _).alloc _)) (Nat.le_refl _))
        have Hown' := Lib.hid hown'
        clear hown' hgr
        go_wp2_with fail
        go_roundg (n.links.length - (j + 1))
        case measure => omega
        case rel => exact ⟨j + 1, by omega, by go_num, Hgr.out, by rw [notTo_no (p := fun i => Holds (lkAt n.links i) ds) Hh.out, List.length_append, List.map_append]; exact Hown'.out⟩
    · obtain rfl : j = n.links.length := by omega
      go_wp2_with fail
      go_ret
      obtain ⟨g, hg, ho⟩ := Own.of_row (f := intCell (brokenL n ds)) Hown.out (intCells _)
      exact ⟨_, g, rfl, (by repeat (first | exact Ext.refl _ | assumption | refine Ext.alloc ?_ _ | refine Ext.drew ?_ | refine Ext.drewN ?_ _ | refine Ext.setCell ?_ (by first | (simp; done) | (simp; omega) | omega) _ | refine Ext.trans ?_ (by assumption))), hg, ho⟩
end Go.Proofs.Ytfajmlkiidnhlaa

/- Contracts: the program's DoSolve; EmptyVariables. -/
namespace Go.Proofs.Ytfajmlkiidnhlaa
set_option linter.unusedVariables false
set_option linter.unusedSimpArgs false
open Go.RowKit
attribute [local go_sem] cell_onto

theorem NewRow.nil (sz : Nat) (f : Nat → Value) (w : World) : NewRow sz 0 f w (.returned (.slice none 0 0)) w :=
  ⟨_, 0, rfl, Ext.refl _, fun h => absurd h (by omega), Nat.zero_le _, none, 0, rfl, Nat.le_refl _, fun h => absurd h (by omega)⟩

set_option maxHeartbeats 1000000 in
theorem impl_DoSolve (s k v : Value) (n : Net) (ds : List Int) (w : World) (h : NetIn w s k n) (hd : Ints w 0 w.heap.size v ds) :
    Calls Try.prog 12 #[.agg #[s, k], v] w (RetX (.tuple #[.bool (solvB n ds), .int .i64 (dayE n ds)]) w) := by
  obtain ⟨A, c, rfl, hn, hc⟩ := h.1.len
  obtain ⟨Ad, cd, rfl, hnd, hcd⟩ := hd.len
  have H := Lib.hid h
  have Hd := Lib.hid hd
  clear h hd
  go_enter Try.func12, Try.ntmps12
  go_wp2_with fail
  refine Calls.mono (impl_checkDays _ k _ n ds _ (H.out.up (by repeat (first | exact Ext.refl _ | assumption | refine Ext.alloc ?_ _ | refine Ext.drew ?_ | refine Ext.drewN ?_ _ | refine Ext.setCell ?_ (by first | (simp; done) | (simp; omega) | omega) _ | refine Ext.trans ?_ (by assumption)))) (Hd.out.up (by repeat (first | exact Ext.refl _ | assumption | refine Ext.alloc ?_ _ | refine Ext.drew ?_ | refine Ext.drewN ?_ _ | refine Ext.setCell ?_ (by first | (simp; done) | (simp; omega) | omega) _ | refine Ext.trans ?_ (by assumption))))) ?_
  rintro e w1 ⟨rfl, hx1⟩
  have hb := (Boxed.new w [.slice A n.sets.length c, k] 27).ext hx1; have hb0 := hb.at0; have hb1 := hb.at1; have hbg := hb.1; have Hhb := Lib.hid hb; clear hb
  have hx : Ext w w1 := (by repeat (first | exact Ext.refl _ | assumption | refine Ext.alloc ?_ _ | refine Ext.drew ?_ | refine Ext.drewN ?_ _ | refine Ext.setCell ?_ (by first | (simp; done) | (simp; omega) | omega) _ | refine Ext.trans ?_ (by assumption)))
  clear hx1
  by_cases hok : NetOk n
  · have Hok := Lib.hid hok
    clear hok
    by_cases hq : ds.length = n.sets.length ∧ DaysOk ds
    · have Hq := Lib.hid hq
      have hle : ds.length ≤ n.sets.length := by omega
      have hle' : n.sets.length ≤ ds.length := by omega
      clear hq
      have He := Lib.hid (dayE_ok Hok.out Hq.out)
      rw [He.out]
      go_wp2_with fail
      go_loopg [18] n.sets.length (fun q i wr => ∃ j : Nat, j + q = n.sets.length ∧ i = .int .i64 j ∧ Ext w wr ∧ Boxed wr w.heap.size [.slice A n.sets.length c, k] ∧ ∀ i, i < j → HasDay (setAt n.sets i) (inAt ds i))
      case atStart => exact ⟨0, by omega, rfl, (by repeat (first | exact Ext.refl _ | assumption | refine Ext.alloc ?_ _ | refine Ext.drew ?_ | refine Ext.drewN ?_ _ | refine Ext.setCell ?_ (by first | (simp; done) | (simp; omega) | omega) _ | refine Ext.trans ?_ (by assumption))), Hhb.out, fun i hi => absurd hi (by omega)⟩
      case round =>
        obtain ⟨j, hj, rfl, hxr, hbb, hhas⟩ := hrel
        have hb := hbb; have hb0 := hb.at0; have hb1 := hb.at1; have hbg := hb.1; have Hhb := Lib.hid hb; clear hb
        have Hhas := Lib.hid hhas
        clear hbb hhas
        by_cases hlt : j < n.sets.length
        · obtain ⟨b, off, u, rfl, _, hbl, h1, h2⟩ := (H.out.1.ext hxr (Nat.le_refl _)).at_ hlt
          obtain ⟨b', off', rfl, _, hbl', h1'⟩ := (Hd.out.ext hxr (Nat.le_refl _)).at_ (i := j) (by omega)
          have hjd : j < ds.length := by omega
          have Hu := Lib.hid (h2.mono (Nat.le_refl 0) hxr.size)
          clear h2
          by_cases hq : HasDay (setAt n.sets j) (inAt ds j)
          · have Hh := Lib.hid hq
            have Hqb := Lib.hid (B_true hq)
            clear hq
            go_wp2_with fail
            refine Calls.mono (impl_hasDay u _ _ wr Hu.out) ?_
            rintro e w2 ⟨rfl, hx2⟩
            rw [Hqb.out]
            go_wp2_with fail
            go_roundg (n.sets.length - (j + 1))
            case measure => omega
            case rel => exact ⟨j + 1, by omega, by go_num, (by repeat (first | exact Ext.refl _ | assumption | refine Ext.alloc ?_ _ | refine Ext.drew ?_ | refine Ext.drewN ?_ _ | refine Ext.setCell ?_ (by first | (simp; done) | (simp; omega) | omega) _ | refine Ext.trans ?_ (by assumption))), Hhb.out.ext hx2, netOk_step (P := fun i => HasDay (setAt n.sets i) (inAt ds i)) Hhas.out Hh.out⟩
          · have Hh := Lib.hid hq
            have Hqb := Lib.hid (B_false hq)
            clear hq
            go_wp2_with fail
            refine Calls.mono (impl_hasDay u _ _ wr Hu.out) ?_
            rintro e w2 ⟨rfl, hx2⟩
            rw [Hqb.out]
            go_wp2_with fail
            go_ret2
            refine ⟨?_, (by repeat (first | exact Ext.refl _ | assumption | refine Ext.alloc ?_ _ | refine Ext.drew ?_ | refine Ext.drewN ?_ _ | refine Ext.setCell ?_ (by first | (simp; done) | (simp; omega) | omega) _ | refine Ext.trans ?_ (by assumption)))⟩
            rw [show solvB n ds = false from B_false (fun h => Hh.out (h.2.1 j hjd)), He.out]
            rfl
        · obtain rfl : j = n.sets.length := by omega
          go_wp2_with fail
          refine Calls.mono (impl_brokenLinks _ k _ n ds wr (H.out.up hxr) (Hd.out.up hxr) Hok.out Hq.out.1 Hq.out.2) ?_
          rintro e w2 ⟨v2, g2, rfl, hx2, hg2, ho2⟩
          obtain ⟨A2, c2, rfl⟩ := ho2.len
          have hlen := notTo_len (fun i => Holds (lkAt n.links i) ds) n.links.length
          have Hlen : (brokenL n ds).length ≤ 20 := by have := Hok.out.2.1; unfold brokenL; omega
          have Hnil := Lib.hid (notTo_nil (p := fun i => Holds (lkAt n.links i) ds) n.links.length)
          clear ho2 hg2 hlen
          by_cases hz : (brokenL n ds).length = 0
          · have hzb : (((brokenL n ds).length : Int) == 0) = true := by rw [beq_iff_eq]; omega
            have Hz := Lib.hid hz
            have Hzb := Lib.hid hzb
            clear hz hzb
            rw [Hz.out]
            go_wp2_with fail
            go_ret2
            refine ⟨?_, (by repeat (first | exact Ext.refl _ | assumption | refine Ext.alloc ?_ _ | refine Ext.drew ?_ | refine Ext.drewN ?_ _ | refine Ext.setCell ?_ (by first | (simp; done) | (simp; omega) | omega) _ | refine Ext.trans ?_ (by assumption)))⟩
            rw [show solvB n ds = true from B_true ⟨He.out, fun i hi => Hhas.out i (by omega), (Hnil.out.1 Hz.out)⟩, He.out]
            rfl
          · have hzb : (((brokenL n ds).length : Int) == 0) = false := beq_eq_false_iff_ne.2 (by omega)
            have Hz := Lib.hid hz
            clear hz
            go_wp2_with fail
            go_ret2
            refine ⟨?_, (by repeat (first | exact Ext.refl _ | assumption | refine Ext.alloc ?_ _ | refine Ext.drew ?_ | refine Ext.drewN ?_ _ | refine Ext.setCell ?_ (by first | (simp; done) | (simp; omega) | omega) _ | refine Ext.trans ?_ (by assumption)))⟩
            rw [show solvB n ds = false from B_false (fun h => Hz.out (Hnil.out.2 h.2.2)), He.out]
            rfl
    · have Hq := Lib.hid hq
      clear hq
      have He := Lib.hid (dayE_bad Hok.out Hq.out)
      rw [He.out]
      go_wp2_with fail
      go_ret2
      refine ⟨?_, (by repeat (first | exact Ext.refl _ | assumption | refine Ext.alloc ?_ _ | refine Ext.drew ?_ | refine Ext.drewN ?_ _ | refine Ext.setCell ?_ (by first | (simp; done) | (simp; omega) | omega) _ | refine Ext.trans ?_ (by assumption)))⟩
      rw [show solvB n ds = false from B_false (fun h => by have := h.1; rw [He.out] at this; omega), He.out]
      rfl
  · have Hok := Lib.hid hok
    clear hok
    have He := Lib.hid (dayE_net (ds := ds) Hok.out)
    rw [He.out]
    go_wp2_with fail
    go_ret2
    refine ⟨?_, (by repeat (first | exact Ext.refl _ | assumption | refine Ext.alloc ?_ _ | refine Ext.drew ?_ | refine Ext.drewN ?_ _ | refine Ext.setCell ?_ (by first | (simp; done) | (simp; omega) | omega) _ | refine Ext.trans ?_ (by assumption)))⟩
    rw [show solvB n ds = false from B_false (fun h => by have := h.1; rw [He.out] at this; omega), He.out]
    rfl

/-- what a function returns that gives a list in new memory, and a code -/
def NewInts2 (l : List Int) (e0 : Int) (w : World) (e : Ending) (w' : World) : Prop :=
  ∃ v g, e = .returned (.tuple #[v, .int .i64 e0]) ∧ Ext w w' ∧ (0 < l.length → w.heap.size ≤ g) ∧ Own w' g 1 v l.length (intCell l)
theorem NewInts2.nil (e0 : Int) {w w' : World} (h : Ext w w') : NewInts2 [] e0 w (.returned (.tuple #[.slice none 0 0, .int .i64 e0])) w' :=
  ⟨_, 0, rfl, h, fun h => absurd h (by simp), Nat.zero_le _, none, 0, rfl, Nat.le_refl _, fun h => absurd h (by simp)⟩
noncomputable def emptyV (n : Net) : List Int := bif B (NetOk n) then emptyL n else []
theorem emptyV_ok {n : Net} (h : NetOk n) : emptyV n = emptyL n := by unfold emptyV; rw [B_true h]; rfl
theorem emptyV_no {n : Net} (h : ¬ NetOk n) : emptyV n = [] := by unfold emptyV; rw [B_false h]; rfl
theorem emptyV_small (n : Net) (h : Small n) : (emptyV n).length ≤ 1048576 := by
  by_cases hk : NetOk n
  · rw [emptyV_ok hk]
    exact Nat.le_trans (notTo_len _ _) h.1
  · rw [emptyV_no hk]
    exact Nat.zero_le _

set_option maxHeartbeats 1000000 in
theorem impl_EmptyVariables (s k : Value) (n : Net) (w : World) (h : NetIn w s k n) : Calls Try.prog 52 #[.agg #[s, k]] w (NewInts2 (emptyV n) (netE n) w) := by
  obtain ⟨A, c, rfl, hn, hc⟩ := h.1.len
  have H := Lib.hid h
  clear h
  go_enter Try.func52, Try.ntmps52
  go_wp2_with fail
  refine Calls.mono (impl_IsNetwork _ k n _ (H.out.up (by repeat (first | exact Ext.refl _ | assumption | refine Ext.alloc ?_ _ | refine Ext.drew ?_ | refine Ext.drewN ?_ _ | refine Ext.setCell ?_ (by first | (simp; done) | (simp; omega) | omega) _ | refine Ext.trans ?_ (by assumption))))) ?_
  rintro e w1 ⟨rfl, hx1⟩
  have hb := (Boxed.new w [.slice A n.sets.length c, k] 27).ext hx1; have hb0 := hb.at0; have hb1 := hb.at1; have hbg := hb.1; have Hhb := Lib.hid hb; clear hb
  have hx : Ext w w1 := (by repeat (first | exact Ext.refl _ | assumption | refine Ext.alloc ?_ _ | refine Ext.drew ?_ | refine Ext.drewN ?_ _ | refine Ext.setCell ?_ (by first | (simp; done) | (simp; omega) | omega) _ | refine Ext.trans ?_ (by assumption)))
  clear hx1
  by_cases hok : NetOk n
  · have Hok := Lib.hid hok
    have h8 := hok.1
    clear hok
    rw [B_true Hok.out]
    go_wp2_with fail
    go_loopg [4, 14] n.sets.length (fun q u i wr => ∃ j : Nat, j + q = n.sets.length ∧ i = .int .i64 j ∧ Ext w wr ∧ Boxed wr w.heap.size [.slice A n.sets.length c, k] ∧
      wr.ownsRow (w.heap.size + 1) 2 1 u (notTo (fun i => (setAt n.sets i).length ≠ 0) j).length ((notTo (fun i => (setAt n.sets i).length ≠ 0) j).map (Value.int .i64)))
    case atStart =>
      refine ⟨0, by omega, rfl, (by repeat (first | exact Ext.refl _ | assumption | refine Ext.alloc ?_ _ | refine Ext.drew ?_ | refine Ext.drewN ?_ _ | refine Ext.setCell ?_ (by first | (simp; done) | (simp; omega) | omega) _ | refine Ext.trans ?_ (by assumption))), Hhb.out.ext (by repeat (first | exact Ext.refl _ | assumption | refine Ext.alloc ?_ _ | refine Ext.drew ?_ | refine Ext.drewN ?_ _ | refine Ext.setCell ?_ (by first | (simp; done) | (simp; omega) | omega) _ | refine Ext.trans ?_ (by assumption))), ?_⟩
      have := World.ownsRow_made (base := w.heap.size + 1) (e := 2) (size := 1) w1 #[] 0 hbg (Nat.zero_le _) rfl
      simpa [notTo] using this
    case round =>
      obtain ⟨j, hj, rfl, hxr, hbb, hown⟩ := hrel
      have hb := hbb; have hb0 := hb.at0; have hb1 := hb.at1; have hbg := hb.1; have Hhb := Lib.hid hb; clear hb
      have Hown := Lib.hid hown
      clear hown hbb
      by_cases hlt : j < n.sets.length
      · obtain ⟨b, off, u, rfl, _, hbl, h1, h2⟩ := (H.out.1.ext hxr (Nat.le_refl _)).at_ hlt
        obtain ⟨A2, c2, rfl, hn2, hc2⟩ := h2.len
        clear h2
        by_cases h0 : (setAt n.sets j).length ≠ 0
        · have hd : (((setAt n.sets j).length : Int) == 0) = false := beq_eq_false_iff_ne.2 (by omega)
          have H0 := Lib.hid h0
          clear h0
          go_wp2_with fail
          go_roundg (n.sets.length - (j + 1))
          case measure => omega
          case rel => exact ⟨j + 1, by omega, by go_num, (by repeat (first | exact Ext.refl _ | assumption | refine Ext.alloc ?_ _ | refine Ext.drew ?_ | refine Ext.drewN ?_ _ | refine Ext.setCell ?_ (by first | (simp; done) | (simp; omega) | omega) _ | refine Ext.trans ?_ (by assumption))), Hhb.out, by rw [notTo_yes (p := fun i => (setAt n.sets i).length ≠ 0) H0.out]; exact Hown.out⟩
        · have hd : (((setAt n.sets j).length : Int) == 0) = true := by rw [beq_iff_eq]; omega
          have H0 := Lib.hid h0
          have Hlen := Lib.hid (notTo_len (fun i => (setAt n.sets i).length ≠ 0) j)
          clear h0
          go_wp2_with (at_builtin; refine wpList_append_box _ rfl _ _ 28 rfl (w.heap.size + 1) 2 1 8 Try.underlying28 (by kernel_rfl) (by omega) _ _ _ rfl (row_ext Hown.out ((Ext.refl _).alloc _)) wr.heap.size [.int .i64 j] rfl (Boxed.new wr [.int .i64 j] 2) rfl (by simp [Value.oneCell']) (by have := Hlen.out; unfold maxLen; omega) (by have := Hlen.out; omega) (by simp; omega) ?_; intro v' w2 hown' hgr)
          have Hgr := Lib.hid (Ext.grown (hxr.alloc (.cells #[.int .i64 j] 2)) hgr (row_ext Hown.out ((Ext.refl _).alloc _)) (Nat.le_succ _))
          have Hbx := Lib.hid (Boxed.grown (Boxed.ext Hhb.out ((Ext.refl _).alloc (.cells #[.int .i64 j] 2))) hgr (row_ext Hown.out ((Ext.refl _).alloc _)) (Nat.lt_succ_self _))
          have Hown' := Lib.hid hown'
          clear hown' hgr
          go_wp2_with fail
          go_roundg (n.sets.length - (j + 1))
          case measure => omega
          case rel => exact ⟨j + 1, by omega, by go_num, Hgr.out, Hbx.out, by rw [notTo_no (p := fun i => (setAt n.sets i).length ≠ 0) H0.out, List.length_append, List.map_append]; exact Hown'.out⟩
      · obtain rfl : j = n.sets.length := by omega
        go_wp2_with fail
        go_ret2
        obtain ⟨g, hg, ho⟩ := Own.of_row (f := intCell (emptyL n)) Hown.out (intCells _)
        rw [emptyV_ok Hok.out, netE_ok Hok.out]
        exact ⟨_, g, rfl, (by repeat (first | exact Ext.refl _ | assumption | refine Ext.alloc ?_ _ | refine Ext.drew ?_ | refine Ext.drewN ?_ _ | refine Ext.setCell ?_ (by first | (simp; done) | (simp; omega) | omega) _ | refine Ext.trans ?_ (by assumption))), fun h => by have := hg h; omega, ho⟩
  · have Hok := Lib.hid hok
    clear hok
    rw [B_false Hok.out]
    go_wp2_with fail
    go_ret2
    rw [emptyV_no Hok.out, netE_no Hok.out]
    exact NewInts2.nil 1 (by repeat (first | exact Ext.refl _ | assumption | refine Ext.alloc ?_ _ | refine Ext.drew ?_ | refine Ext.drewN ?_ _ | refine Ext.setCell ?_ (by first | (simp; done) | (simp; omega) | omega) _ | refine Ext.trans ?_ (by assumption)))

set_option maxHeartbeats 1000000 in
theorem spec_EmptyVariables (s k : Value) (n : Net) (w : World) (h : NetIn w s k n) : Calls Try.prog 53 #[.agg #[s, k]] w (NewInts2 (emptyV n) (netE n) w) := by
  obtain ⟨A, c, rfl, hn, hc⟩ := h.1.len
  have H := Lib.hid h
  clear h
  go_enter Try.func53, Try.ntmps53
  go_wp2_with fail
  refine Calls.mono (spec_IsNetwork _ k n _ (H.out.up (by repeat (first | exact Ext.refl _ | assumption | refine Ext.alloc ?_ _ | refine Ext.drew ?_ | refine Ext.drewN ?_ _ | refine Ext.setCell ?_ (by first | (simp; done) | (simp; omega) | omega) _ | refine Ext.trans ?_ (by assumption))))) ?_
  rintro e w1 ⟨rfl, hx1⟩
  have hb := (Boxed.new w [.slice A n.sets.length c, k] 27).ext hx1; have hb0 := hb.at0; have hb1 := hb.at1; have hbg := hb.1; have Hhb := Lib.hid hb; clear hb
  have hx : Ext w w1 := (by repeat (first | exact Ext.refl _ | assumption | refine Ext.alloc ?_ _ | refine Ext.drew ?_ | refine Ext.drewN ?_ _ | refine Ext.setCell ?_ (by first | (simp; done) | (simp; omega) | omega) _ | refine Ext.trans ?_ (by assumption)))
  clear hx1
  by_cases hok : NetOk n
  · have Hok := Lib.hid hok
    have h8 := hok.1
    clear hok
    rw [B_true Hok.out]
    go_wp2_with fail
    go_loopg [4, 5] n.sets.length (fun q u i wr => ∃ j : Nat, j + q = n.sets.length ∧ i = .int .i64 j ∧ Ext w wr ∧ Boxed wr w.heap.size [.slice A n.sets.length c, k] ∧
      wr.ownsRow (w.heap.size + 1) 2 1 u (notTo (fun i => (setAt n.sets i).length ≠ 0) j).length ((notTo (fun i => (setAt n.sets i).length ≠ 0) j).map (Value.int .i64)))
    case atStart =>
      refine ⟨0, by omega, rfl, (by repeat (first | exact Ext.refl _ | assumption | refine Ext.alloc ?_ _ | refine Ext.drew ?_ | refine Ext.drewN ?_ _ | refine Ext.setCell ?_ (by first | (simp; done) | (simp; omega) | omega) _ | refine Ext.trans ?_ (by assumption))), Hhb.out.ext (by repeat (first | exact Ext.refl _ | assumption | refine Ext.alloc ?_ _ | refine Ext.drew ?_ | refine Ext.drewN ?_ _ | refine Ext.setCell ?_ (by first | (simp; done) | (simp; omega) | omega) _ | refine Ext.trans ?_ (by assumption))), ?_⟩
      have := World.ownsRow_made (base := w.heap.size + 1) (e := 2) (size := 1) w1 #[] 0 hbg (Nat.zero_le _) rfl
      simpa [notTo] using this
    case round =>
      obtain ⟨j, hj, rfl, hxr, hbb, hown⟩ := hrel
      have hb := hbb; have hb0 := hb.at0; have hb1 := hb.at1; have hbg := hb.1; have Hhb := Lib.hid hb; clear hb
      have Hown := Lib.hid hown
      clear hown hbb
      by_cases hlt : j < n.sets.length
      · obtain ⟨b, off, u, rfl, _, hbl, h1, h2⟩ := (H.out.1.ext hxr (Nat.le_refl _)).at_ hlt
        obtain ⟨A2, c2, rfl, hn2, hc2⟩ := h2.len
        clear h2
        by_cases h0 : (setAt n.sets j).length ≠ 0
        · have hd : (((setAt n.sets j).length : Int) == 0) = false := beq_eq_false_iff_ne.2 (by omega)
          have H0 := Lib.hid h0
          clear h0
          go_wp2_with fail
          go_roundg (n.sets.length - (j + 1))
          case measure => omega
          case rel => exact ⟨j + 1, by omega, by go_num, (by repeat (first | exact Ext.refl _ | assumption | refine Ext.alloc ?_ _ | refine Ext.drew ?_ | refine Ext.drewN ?_ _ | refine Ext.setCell ?_ (by first | (simp; done) | (simp; omega) | omega) _ | refine Ext.trans ?_ (by assumption))), Hhb.out, by rw [notTo_yes (p := fun i => (setAt n.sets i).length ≠ 0) H0.out]; exact Hown.out⟩
        · have hd : (((setAt n.sets j).length : Int) == 0) = true := by rw [beq_iff_eq]; omega
          have H0 := Lib.hid h0
          have Hlen := Lib.hid (notTo_len (fun i => (setAt n.sets i).length ≠ 0) j)
          clear h0
          go_wp2_with (at_builtin; refine wpList_append_box _ rfl _ _ 28 rfl (w.heap.size + 1) 2 1 8 Try.underlying28 (by kernel_rfl) (by omega) _ _ _ rfl (row_ext Hown.out ((Ext.refl _).alloc _)) wr.heap.size [.int .i64 j] rfl (Boxed.new wr [.int .i64 j] 2) rfl (by simp [Value.oneCell']) (by have := Hlen.out; unfold maxLen; omega) (by have := Hlen.out; omega) (by simp; omega) ?_; intro v' w2 hown' hgr)
          have Hgr := Lib.hid (Ext.grown (hxr.alloc (.cells #[.int .i64 j] 2)) hgr (row_ext Hown.out ((Ext.refl _).alloc _)) (Nat.le_succ _))
          have Hbx := Lib.hid (Boxed.grown (Boxed.ext Hhb.out ((Ext.refl _).alloc (.cells #[.int .i64 j] 2))) hgr (row_ext Hown.out ((Ext.refl _).alloc _)) (Nat.lt_succ_self _))
          have Hown' := Lib.hid hown'
          clear hown' hgr
          go_wp2_with fail
          go_roundg (n.sets.length - (j + 1))
          case measure => omega
          case rel => exact ⟨j + 1, by omega, by go_num, Hgr.out, Hbx.out, by rw [notTo_no (p := fun i => (setAt n.sets i).length ≠ 0) H0.out, List.length_append, List.map_append]; exact Hown'.out⟩
      · obtain rfl : j = n.sets.length := by omega
        go_wp2_with fail
        go_ret2
        obtain ⟨g, hg, ho⟩ := Own.of_row (f := intCell (emptyL n)) Hown.out (intCells _)
        rw [emptyV_ok Hok.out, netE_ok Hok.out]
        exact ⟨_, g, rfl, (by repeat (first | exact Ext.refl _ | assumption | refine Ext.alloc ?_ _ | refine Ext.drew ?_ | refine Ext.drewN ?_ _ | refine Ext.setCell ?_ (by first | (simp; done) | (simp; omega) | omega) _ | refine Ext.trans ?_ (by assumption))), fun h => by have := hg h; omega, ho⟩
  · have Hok := Lib.hid hok
    clear hok
    rw [B_false Hok.out]
    go_wp2_with fail
    go_ret2
    rw [emptyV_no Hok.out, netE_no Hok.out]
    exact NewInts2.nil 1 (by repeat (first | exact Ext.refl _ | assumption | refine Ext.alloc ?_ _ | refine Ext.drew ?_ | refine Ext.drewN ?_ _ | refine Ext.setCell ?_ (by first | (simp; done) | (simp; omega) | omega) _ | refine Ext.trans ?_ (by assumption)))
end Go.Proofs.Ytfajmlkiidnhlaa
