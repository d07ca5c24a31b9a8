/- Contracts: NarrowRound, NarrowLink. -/
import Derived.Test.YtfajmlkiidnhlaaQ4Nl
import Derived.Test.YtfajmlkiidnhlaaQ4Na
import Derived.Deep.RegionLaw
namespace Go.Proofs.Ytfajmlkiidnhlaa
set_option linter.unusedVariables false
set_option linter.unusedSimpArgs false
open Go.RowKit
attribute [local go_sem] cell_onto

theorem Lib.nil2 {w w' : World} {r : Nat} (c : Int) {m : Net} (hm : m = ⟨[], []⟩) (hx : Ext w w') (hr : w.heap.size ≤ r) :
    NewNet2 m c w (.returned (.tuple #[.agg #[.slice none 0 0, .slice none 0 0], .int .i64 c])) ((w'.setCell ⟨r, 0, none⟩ (.slice none 0 0)).setCell ⟨r, 1, none⟩ (.slice none 0 0)) := by
  subst hm
  exact NewNet2.nil c (hx.stored hr)
/-- NarrowLink's answer -/
noncomputable def nlV (n : Net) (i : Int) : Net := bif B (lnkE n i = 0) then limV (narL n (lkAt n.links i.toNat)) else ⟨[], []⟩
noncomputable def nlE (n : Net) (i : Int) : Int := bif B (lnkE n i = 0) then limE (narL n (lkAt n.links i.toNat)) else lnkE n i
theorem nl_ok {n : Net} {i : Int} (h : lnkE n i = 0) : nlV n i = limV (narL n (lkAt n.links i.toNat)) ∧ nlE n i = limE (narL n (lkAt n.links i.toNat)) := by
  unfold nlV nlE
  rw [B_true h]
  exact ⟨rfl, rfl⟩
theorem nl_no {n : Net} {i : Int} (h : lnkE n i ≠ 0) : nlV n i = ⟨[], []⟩ ∧ nlE n i = lnkE n i := by
  unfold nlV nlE
  rw [B_false h]
  exact ⟨rfl, rfl⟩
theorem nl_lk {n : Net} {i : Int} (h : lnkE n i = 0) : LkOk (lkAt n.links i.toNat) n.sets.length := by
  obtain ⟨h1, h2, h3⟩ := lnk_zero h
  exact h1.2.2.2 i.toNat (by omega)
theorem nlV_small (n : Net) (i : Int) : Small (nlV n i) := by
  by_cases h : lnkE n i = 0
  · rw [(nl_ok h).1]; exact limV_small (narL_ok (lnk_zero h).1.d (nl_lk h)).1
  · rw [(nl_no h).1]; exact small_nil
set_option maxRecDepth 100000 in
set_option maxHeartbeats 4000000 in
theorem impl_NarrowRound (s k : Value) (n : Net) (w : World) (h : NetIn w s k n) : Calls Try.prog 64 #[.agg #[s, k]] w (NewNet2 (nrV n) (nrE n) w) := by
  obtain ⟨As, c0, rfl, hns0, hcs0⟩ := h.1.len
  obtain ⟨Ar, c1, rfl, hnk0, hck0⟩ := h.2.len
  have H := Lib.hid h
  clear h
  go_enter Try.func64, Try.ntmps64
  go_wp2_with fail
  refine Calls.mono (impl_IsNetwork _ _ n _ (H.out.up (by repeat (first | exact Ext.refl _ | assumption | refine Ext.alloc ?_ _ | refine Ext.drew ?_ | refine Ext.drewN ?_ _ | refine Ext.setCell ?_ (by first | (simp; done) | (simp; omega) | omega) _ | refine Ext.trans ?_ (by assumption))))) ?_
  rintro e w1 ⟨rfl, hx1⟩
  have hx : Ext w w1 := (by repeat (first | exact Ext.refl _ | assumption | refine Ext.alloc ?_ _ | refine Ext.drew ?_ | refine Ext.drewN ?_ _ | refine Ext.setCell ?_ (by first | (simp; done) | (simp; omega) | omega) _ | refine Ext.trans ?_ (by assumption)))
  have Hnb := Lib.hid (((Boxed.new w [.slice As n.sets.length c0, .slice Ar n.links.length c1] 27).ext ((Ext.refl _).alloc (.cells #[.slice none 0 0, .slice none 0 0] 27))).ext hx1)
  have Hrb : Hid (Boxed w1 (w.heap.size + 1) [.slice none 0 0, .slice none 0 0]) := Lib.hid
    (by
      have := (Boxed.new (w.alloc (.cells #[.slice As n.sets.length c0, .slice Ar n.links.length c1] 27)) [.slice none 0 0, .slice none 0 0] 27).ext hx1
      rwa [World.size_alloc] at this)
  have hr1 := Hrb.out.1
  clear hx1
  by_cases hok : NetOk n
  · have Hok := Lib.hid hok
    have Hr := Lib.hid (narR_ok hok.d)
    rw [B_true hok]
    clear hok
    have hb := Hnb.out; have hb0 := hb.at0; have hb1 := hb.at1; have hbg := hb.1; have Hhb := Lib.hid hb; clear hb
    go_wp2_with fail
    refine Calls.mono (impl_ownNetwork _ _ n _ (H.out.up hx) Hok.out.small) ?_
    rintro e w2 hnew
    obtain ⟨Ao, co, Aq, cq, a, b, rfl, hx2, hS2⟩ := NetS.of2 hnew
    have hxb : Ext w2 (w2.alloc (.cells #[.slice Ao n.sets.length co, .slice Aq n.links.length cq] 27)) := (by repeat (first | exact Ext.refl _ | assumption | refine Ext.alloc ?_ _ | refine Ext.drew ?_ | refine Ext.drewN ?_ _ | refine Ext.setCell ?_ (by first | (simp; done) | (simp; omega) | omega) _ | refine Ext.trans ?_ (by assumption)))
    have HS := Lib.hid (hS2.ext hxb)
    have hbw2 := hS2.bw
    have hla := hS2.la
    have Hob := Lib.hid (Boxed.new w2 [.slice Ao n.sets.length co, .slice Aq n.links.length cq] 27)
    have Hrb2 := Lib.hid ((Hrb.out.ext hx2).ext hxb)
    have Hx := Lib.hid ((hx.trans hx2).trans hxb)
    have hz2 := hx2.size
    clear hnew hx2 hS2 hxb hb0 hb1 hbg Hhb
    go_wp2_with fail
    refine Calls.mono (impl_narrowRound _ _ n w1.heap.size a b _ HS.out Hok.out.d) ?_
    rintro e w4 ⟨rfl, hO, hS4⟩
    have HS4 := Lib.hid hS4
    have hzw := hx.size
    have hx4 := Hx.out.off hO (fun x hx hh => by have := hh.1; omega)
    have hls : (narR n).sets.length = n.sets.length := Hr.out.2.ns
    have hll : (narR n).links.length = n.links.length := by rw [Hr.out.2.lk]
    have Hrb4 := Lib.hid (Hrb2.out.off hO (fun hh => by have := hh.1; omega))
    have ob := Hob.out.off hO (fun hh => by have := hh.2; omega); have ob0 := ob.at0; have ob1 := ob.at1; have obg := ob.1; have Hob := Lib.hid ob; clear ob
    clear hO hS4 hls hll
    by_cases hl : Lim (narR n)
    · have Hl := Lib.hid hl
      clear hl
      go_wp2_with fail
      refine Calls.mono (impl_limitedNetwork_yes _ _ (narR n) _ HS4.out.netIn Hl.out) ?_
      rintro e w5 ⟨rfl, hx5⟩
      have rb := Hrb4.out.ext hx5; have rb0 := rb.at0; have rb1 := rb.at1; have rbg := rb.1; have Hrb := Lib.hid rb; clear rb
      have rf0 := Hrb.out.fz 0 (by simp)
      have rf1 := Hrb.out.fz 1 (by simp)
      go_wp2_with fail
      refine bodyPost_ret (v := .tuple #[.agg #[.slice Ao n.sets.length co, .slice Aq n.links.length cq], .int .i64 0]) (by simp [results, Try.results64, go_sem, *]) rfl ?_
      rw [(nr_ok Hok.out).1, (nr_ok Hok.out).2, (lim_yes Hl.out).1, (lim_yes Hl.out).2]
      exact NetS.fin2 0 (hx4.trans hx5) (by omega) (by omega) (HS4.out.ext hx5)
    · have Hl := Lib.hid hl
      clear hl
      go_wp2_with fail
      refine Calls.mono (impl_limitedNetwork_no _ _ (narR n) _ HS4.out.netIn Hl.out) ?_
      rintro e w5 ⟨rfl, hx5⟩
      have rb := Hrb4.out.ext hx5; have rb0 := rb.at0; have rb1 := rb.at1; have rbg := rb.1; have Hrb := Lib.hid rb; clear rb
      have rf0 := Hrb.out.fz 0 (by simp)
      have rf1 := Hrb.out.fz 1 (by simp)
      go_wp2_with fail
      refine bodyPost_ret (v := .tuple #[.agg #[.slice none 0 0, .slice none 0 0], .int .i64 3]) (by simp [results, Try.results64, go_sem, *]) rfl ?_
      rw [(nr_ok Hok.out).2, (lim_no Hl.out).1]
      exact Lib.nil2 3 (by rw [(nr_ok Hok.out).1, (lim_no Hl.out).2]) (hx4.trans hx5) (by omega)
  · have Hok := Lib.hid hok
    rw [B_false hok]
    clear hok
    have rb := Hrb.out; have rb0 := rb.at0; have rb1 := rb.at1; have rbg := rb.1; have Hrb := Lib.hid rb; clear rb
    have rf0 := Hrb.out.fz 0 (by simp)
    have rf1 := Hrb.out.fz 1 (by simp)
    go_wp2_with fail
    refine bodyPost_ret (v := .tuple #[.agg #[.slice none 0 0, .slice none 0 0], .int .i64 1]) (by simp [results, Try.results64, go_sem, *]) rfl ?_
    rw [(nr_no Hok.out).2]
    exact Lib.nil2 1 (nr_no Hok.out).1 hx (by omega)
set_option maxRecDepth 100000 in
set_option maxHeartbeats 4000000 in
theorem spec_NarrowRound (s k : Value) (n : Net) (w : World) (h : NetIn w s k n) : Calls Try.prog 65 #[.agg #[s, k]] w (NewNet2 (nrV n) (nrE n) w) := by
  obtain ⟨As, c0, rfl, hns0, hcs0⟩ := h.1.len
  obtain ⟨Ar, c1, rfl, hnk0, hck0⟩ := h.2.len
  have H := Lib.hid h
  clear h
  go_enter Try.func65, Try.ntmps65
  go_wp2_with fail
  refine Calls.mono (spec_IsNetwork _ _ n _ (H.out.up (by repeat (first | exact Ext.refl _ | assumption | refine Ext.alloc ?_ _ | refine Ext.drew ?_ | refine Ext.drewN ?_ _ | refine Ext.setCell ?_ (by first | (simp; done) | (simp; omega) | omega) _ | refine Ext.trans ?_ (by assumption))))) ?_
  rintro e w1 ⟨rfl, hx1⟩
  have hx : Ext w w1 := (by repeat (first | exact Ext.refl _ | assumption | refine Ext.alloc ?_ _ | refine Ext.drew ?_ | refine Ext.drewN ?_ _ | refine Ext.setCell ?_ (by first | (simp; done) | (simp; omega) | omega) _ | refine Ext.trans ?_ (by assumption)))
  have Hnb := Lib.hid (((Boxed.new w [.slice As n.sets.length c0, .slice Ar n.links.length c1] 27).ext ((Ext.refl _).alloc (.cells #[.slice none 0 0, .slice none 0 0] 27))).ext hx1)
  have Hrb : Hid (Boxed w1 (w.heap.size + 1) [.slice none 0 0, .slice none 0 0]) := Lib.hid
    (by
      have := (Boxed.new (w.alloc (.cells #[.slice As n.sets.length c0, .slice Ar n.links.length c1] 27)) [.slice none 0 0, .slice none 0 0] 27).ext hx1
      rwa [World.size_alloc] at this)
  have hr1 := Hrb.out.1
  clear hx1
  by_cases hok : NetOk n
  · have Hok := Lib.hid hok
    have Hr := Lib.hid (narR_ok hok.d)
    rw [B_true hok]
    clear hok
    have hb := Hnb.out; have hb0 := hb.at0; have hb1 := hb.at1; have hbg := hb.1; have Hhb := Lib.hid hb; clear hb
    go_wp2_with fail
    refine Calls.mono (spec_l19Round _ _ n _ (H.out.up hx) Hok.out.d) ?_
    rintro e w2 hnew
    obtain ⟨Ao, co, Aq, cq, a, b, rfl, hx2, hS2⟩ := NetS.of2 hnew
    have HS4 := Lib.hid hS2
    have Hrb4 := Lib.hid (Hrb.out.ext hx2)
    have hx4 := hx.trans hx2
    clear hnew hx2 hS2 hb0 hb1 hbg Hhb Hrb
    by_cases hl : Lim (narR n)
    · have Hl := Lib.hid hl
      clear hl
      go_wp2_with fail
      refine Calls.mono (spec_l19Result_yes _ _ (narR n) _ HS4.out.netIn Hr.out.1 Hl.out) ?_
      rintro e w5 ⟨rfl, hx5⟩
      have rb := Hrb4.out.ext hx5; have rb0 := rb.at0; have rb1 := rb.at1; have rbg := rb.1; have Hrb := Lib.hid rb; clear rb
      have rf0 := Hrb.out.fz 0 (by simp)
      have rf1 := Hrb.out.fz 1 (by simp)
      go_wp2_with fail
      refine bodyPost_ret (v := .tuple #[.agg #[.slice Ao (narR n).sets.length co, .slice Aq (narR n).links.length cq], .int .i64 0]) (by simp [results, Try.results65, go_sem, *]) rfl ?_
      rw [(nr_ok Hok.out).1, (nr_ok Hok.out).2, (lim_yes Hl.out).1, (lim_yes Hl.out).2]
      exact NetS.fin2 0 (hx4.trans hx5) (by omega) (by omega) (HS4.out.ext hx5)
    · have Hl := Lib.hid hl
      clear hl
      go_wp2_with fail
      refine Calls.mono (spec_l19Result_no _ _ (narR n) _ HS4.out.netIn Hr.out.1 Hl.out) ?_
      rintro e w5 ⟨rfl, hx5⟩
      have rb := Hrb4.out.ext hx5; have rb0 := rb.at0; have rb1 := rb.at1; have rbg := rb.1; have Hrb := Lib.hid rb; clear rb
      have rf0 := Hrb.out.fz 0 (by simp)
      have rf1 := Hrb.out.fz 1 (by simp)
      go_wp2_with fail
      refine bodyPost_ret (v := .tuple #[.agg #[.slice none 0 0, .slice none 0 0], .int .i64 3]) (by simp [results, Try.results65, go_sem, *]) rfl ?_
      rw [(nr_ok Hok.out).2, (lim_no Hl.out).1]
      exact Lib.nil2 3 (by rw [(nr_ok Hok.out).1, (lim_no Hl.out).2]) (hx4.trans hx5) (by omega)
  · have Hok := Lib.hid hok
    rw [B_false hok]
    clear hok
    have rb := Hrb.out; have rb0 := rb.at0; have rb1 := rb.at1; have rbg := rb.1; have Hrb := Lib.hid rb; clear rb
    have rf0 := Hrb.out.fz 0 (by simp)
    have rf1 := Hrb.out.fz 1 (by simp)
    go_wp2_with fail
    refine bodyPost_ret (v := .tuple #[.agg #[.slice none 0 0, .slice none 0 0], .int .i64 1]) (by simp [results, Try.results65, go_sem, *]) rfl ?_
    rw [(nr_no Hok.out).2]
    exact Lib.nil2 1 (nr_no Hok.out).1 hx (by omega)
set_option maxRecDepth 100000 in
set_option maxHeartbeats 8000000 in
theorem impl_NarrowLink (s k : Value) (n : Net) (i : Int) (w : World) (h : NetIn w s k n) : Calls Try.prog 49 #[.agg #[s, k], .int .i64 i] w (NewNet2 (nlV n i) (nlE n i) w) := by
  obtain ⟨As, c0, rfl, hns0, hcs0⟩ := h.1.len
  obtain ⟨Ar, c1, rfl, hnk0, hck0⟩ := h.2.len
  have H := Lib.hid h
  clear h
  go_enter Try.func49, Try.ntmps49
  go_wp2_with fail
  refine Calls.mono (impl_checkLink _ _ n i _ (H.out.up (by repeat (first | exact Ext.refl _ | assumption | refine Ext.alloc ?_ _ | refine Ext.drew ?_ | refine Ext.drewN ?_ _ | refine Ext.setCell ?_ (by first | (simp; done) | (simp; omega) | omega) _ | refine Ext.trans ?_ (by assumption))))) ?_
  rintro e w1 ⟨rfl, hx1⟩
  have hx : Ext w w1 := (by repeat (first | exact Ext.refl _ | assumption | refine Ext.alloc ?_ _ | refine Ext.drew ?_ | refine Ext.drewN ?_ _ | refine Ext.setCell ?_ (by first | (simp; done) | (simp; omega) | omega) _ | refine Ext.trans ?_ (by assumption)))
  have Hnb := Lib.hid (((Boxed.new w [.slice As n.sets.length c0, .slice Ar n.links.length c1] 27).ext ((Ext.refl _).alloc (.cells #[.slice none 0 0, .slice none 0 0] 27))).ext hx1)
  have Hrb : Hid (Boxed w1 (w.heap.size + 1) [.slice none 0 0, .slice none 0 0]) := Lib.hid
    (by
      have := (Boxed.new (w.alloc (.cells #[.slice As n.sets.length c0, .slice Ar n.links.length c1] 27)) [.slice none 0 0, .slice none 0 0] 27).ext hx1
      rwa [World.size_alloc] at this)
  have hr1 := Hrb.out.1
  clear hx1
  by_cases h0 : lnkE n i = 0
  · have H0 := Lib.hid h0
    have Hz := Lib.hid (lnk_zero h0)
    have Hlk := Lib.hid (nl_lk h0)
    rw [h0]
    clear h0
    obtain ⟨i1, i2⟩ := Hz.out.2
    have h20 := Hz.out.1.2.1
    have hil : i.toNat < n.links.length := by omega
    have hiN : i < (n.links.length : Int) := by omega
    have Hr := Lib.hid (narL_ok Hz.out.1.d Hlk.out)
    have Hn := Lib.hid (nl_ok H0.out)
    obtain ⟨bl, off, rfl, _, hbl, _, _, _, _⟩ := H.out.2.at_ hil
    generalize hlk : lkAt n.links i.toNat = lk at *
    have hb := Hnb.out; have hb0 := hb.at0; have hb1 := hb.at1; have hbg := hb.1; have Hhb := Lib.hid hb; clear hb
    go_wp2_with fail
    refine Calls.mono (impl_ownNetwork _ _ n _ (H.out.up hx) Hz.out.1.small) ?_
    rintro e w2 hnew
    obtain ⟨Ao, co, Aq, cq, a, b, rfl, hx2, hS2⟩ := NetS.of2 hnew
    obtain ⟨g0, og, zg, rfl, ga, gb, _, _⟩ := hS2.cell (v := 0) (by obtain ⟨⟨x1, x2⟩, _⟩ := Hlk.out; omega)
    have hxb : Ext w2 (w2.alloc (.cells #[.slice (some ⟨g0, og, none⟩) n.sets.length co, .slice Aq n.links.length cq] 27)) := (by repeat (first | exact Ext.refl _ | assumption | refine Ext.alloc ?_ _ | refine Ext.drew ?_ | refine Ext.drewN ?_ _ | refine Ext.setCell ?_ (by first | (simp; done) | (simp; omega) | omega) _ | refine Ext.trans ?_ (by assumption)))
    have hbw2 := hS2.bw
    have hla := hS2.la
    have hz2 := hx2.size
    have hzw := hx.size
    have hsz : (w2.alloc (.cells #[.slice (some ⟨g0, og, none⟩) n.sets.length co, .slice Aq n.links.length cq] 27)).heap.size = w2.heap.size + 1 := by simp
    have HS := Lib.hid (hS2.ext hxb)
    have Hob := Lib.hid (Boxed.new w2 [.slice (some ⟨g0, og, none⟩) n.sets.length co, .slice Aq n.links.length cq] 27)
    have Hnb2 := Lib.hid ((Hnb.out.ext hx2).ext hxb)
    have Hrb2 := Lib.hid ((Hrb.out.ext hx2).ext hxb)
    have Hx := Lib.hid ((hx.trans hx2).trans hxb)
    obtain ⟨w3, hw3⟩ : ∃ x : World, x = w2.alloc (.cells #[.slice (some ⟨g0, og, none⟩) n.sets.length co, .slice Aq n.links.length cq] 27) := ⟨_, rfl⟩
    rw [← hw3] at HS Hob Hnb2 Hrb2 Hx hsz
    clear hnew hx2 hS2 hxb hb0 hb1 hbg Hhb Hnb Hrb
    go_wp2_with fail
    rw [← hw3]
    clear hw3
    obtain ⟨bl', off', hbe, _, hbl', q1, q2, q3, q4⟩ := (H.out.2.ext Hx.out (Nat.le_refl _)).at_ hil
    injection hbe with hbe
    injection hbe with he1 he2
    subst he1 he2
    rw [hlk] at q1 q2 q3 q4
    have hbr : bl < w3.heap.size := by omega
    have hb := Hnb2.out; have hb0 := hb.at0; have hb1 := hb.at1; have hbg := hb.1; have Hhb := Lib.hid hb; clear hb
    have ob := Hob.out; have ob0 := ob.at0; have ob1 := ob.at1; have obg := ob.1; have Hob := Lib.hid ob; clear ob
    go_wp2_with fail
    go_region_law (first
      | (go_simp; go_at_call 146; refine Calls.mono (impl_narrowLink _ _ n lk w1.heap.size a b _ (HS.out.ext (by repeat (first | exact Ext.refl _ | assumption | refine Ext.alloc ?_ _ | refine Ext.drew ?_ | refine Ext.drewN ?_ _ | refine Ext.setCell ?_ (by first | (simp; done) | (simp; omega) | omega) _ | refine Ext.trans ?_ (by assumption)))) Hz.out.1.d Hlk.out) ?_; rintro e w4 ⟨rfl, hO, hS4⟩; have HO := Lib.hid (show Off (fun x => x = g0) w3 w4 from (Off.of_ext (by repeat (first | exact Ext.refl _ | assumption | refine Ext.alloc ?_ _ | refine Ext.drew ?_ | refine Ext.drewN ?_ _ | refine Ext.setCell ?_ (by first | (simp; done) | (simp; omega) | omega) _ | refine Ext.trans ?_ (by assumption)))).trans (hO.mono (fun x hh => by injection hh with hh; exact hh.symm))); have HS4 := Lib.hid hS4; clear hO hS4))
    all_goals
      have hx4 := Hx.out.off HO.out (fun x hx hh => by omega)
      have Hrb4 := Lib.hid (Hrb2.out.off HO.out (fun hh => by omega))
      clear ob0 ob1 obg hb0 hb1 hbg q1 q2 q3 q4
      have xb := Hob.out.off HO.out (fun hh => by omega); have xb0 := xb.at0; have xb1 := xb.at1; have xbg := xb.1; have Hxb := Lib.hid xb; clear xb
      by_cases hl : Lim (narL n lk)
      · have Hl := Lib.hid hl
        clear hl
        go_wp2_with fail
        refine Calls.mono (impl_limitedNetwork_yes _ _ (narL n lk) _ HS4.out.netIn Hl.out) ?_
        rintro e w5 ⟨rfl, hx5⟩
        have rb := Hrb4.out.ext hx5; have rb0 := rb.at0; have rb1 := rb.at1; have rbg := rb.1; have Hrb := Lib.hid rb; clear rb
        have rf0 := Hrb.out.fz 0 (by simp)
        have rf1 := Hrb.out.fz 1 (by simp)
        go_wp2_with fail
        refine bodyPost_ret (v := .tuple #[.agg #[.slice (some ⟨g0, og, none⟩) n.sets.length co, .slice Aq n.links.length cq], .int .i64 0]) (by simp [results, Try.results49, go_sem, *]) rfl ?_
        rw [Hn.out.1, Hn.out.2, (lim_yes Hl.out).1, (lim_yes Hl.out).2]
        exact NetS.fin2 0 (hx4.trans hx5) (by omega) (by omega) (HS4.out.ext hx5)
      · have Hl := Lib.hid hl
        clear hl
        go_wp2_with fail
        refine Calls.mono (impl_limitedNetwork_no _ _ (narL n lk) _ HS4.out.netIn Hl.out) ?_
        rintro e w5 ⟨rfl, hx5⟩
        have rb := Hrb4.out.ext hx5; have rb0 := rb.at0; have rb1 := rb.at1; have rbg := rb.1; have Hrb := Lib.hid rb; clear rb
        have rf0 := Hrb.out.fz 0 (by simp)
        have rf1 := Hrb.out.fz 1 (by simp)
        go_wp2_with fail
        refine bodyPost_ret (v := .tuple #[.agg #[.slice none 0 0, .slice none 0 0], .int .i64 3]) (by simp [results, Try.results49, go_sem, *]) rfl ?_
        rw [Hn.out.2, (lim_no Hl.out).1]
        exact Lib.nil2 3 (by rw [Hn.out.1, (lim_no Hl.out).2]) (hx4.trans hx5) (by omega)
  · have Hn := Lib.hid (nl_no h0)
    have hne : (lnkE n i != 0) = true := bne_iff_ne.2 h0
    have hde : decide (lnkE n i = 0) = false := decide_eq_false h0
    generalize lnkE n i = c at *
    have rb := Hrb.out; have rb0 := rb.at0; have rb1 := rb.at1; have rbg := rb.1; have Hrb := Lib.hid rb; clear rb
    have rf0 := Hrb.out.fz 0 (by simp)
    have rf1 := Hrb.out.fz 1 (by simp)
    go_wp2_with fail
    refine bodyPost_ret (v := .tuple #[.agg #[.slice none 0 0, .slice none 0 0], .int .i64 c]) (by simp [results, Try.results49, go_sem, *]) rfl ?_
    rw [Hn.out.2]
    exact Lib.nil2 c Hn.out.1 hx (by omega)
set_option maxRecDepth 100000 in
set_option maxHeartbeats 8000000 in
theorem spec_NarrowLink (s k : Value) (n : Net) (i : Int) (w : World) (h : NetIn w s k n) : Calls Try.prog 50 #[.agg #[s, k], .int .i64 i] w (NewNet2 (nlV n i) (nlE n i) w) := by
  obtain ⟨As, c0, rfl, hns0, hcs0⟩ := h.1.len
  obtain ⟨Ar, c1, rfl, hnk0, hck0⟩ := h.2.len
  have H := Lib.hid h
  clear h
  go_enter Try.func50, Try.ntmps50
  go_wp2_with fail
  refine Calls.mono (spec_l19Code _ _ n i _ (H.out.up (by repeat (first | exact Ext.refl _ | assumption | refine Ext.alloc ?_ _ | refine Ext.drew ?_ | refine Ext.drewN ?_ _ | refine Ext.setCell ?_ (by first | (simp; done) | (simp; omega) | omega) _ | refine Ext.trans ?_ (by assumption))))) ?_
  rintro e w1 ⟨rfl, hx1⟩
  have hx : Ext w w1 := (by repeat (first | exact Ext.refl _ | assumption | refine Ext.alloc ?_ _ | refine Ext.drew ?_ | refine Ext.drewN ?_ _ | refine Ext.setCell ?_ (by first | (simp; done) | (simp; omega) | omega) _ | refine Ext.trans ?_ (by assumption)))
  have Hnb := Lib.hid (((Boxed.new w [.slice As n.sets.length c0, .slice Ar n.links.length c1] 27).ext ((Ext.refl _).alloc (.cells #[.slice none 0 0, .slice none 0 0] 27))).ext hx1)
  have Hrb : Hid (Boxed w1 (w.heap.size + 1) [.slice none 0 0, .slice none 0 0]) := Lib.hid
    (by
      have := (Boxed.new (w.alloc (.cells #[.slice As n.sets.length c0, .slice Ar n.links.length c1] 27)) [.slice none 0 0, .slice none 0 0] 27).ext hx1
      rwa [World.size_alloc] at this)
  have hr1 := Hrb.out.1
  clear hx1
  by_cases h0 : lnkE n i = 0
  · have H0 := Lib.hid h0
    have Hz := Lib.hid (lnk_zero h0)
    have Hlk := Lib.hid (nl_lk h0)
    rw [h0]
    clear h0
    obtain ⟨i1, i2⟩ := Hz.out.2
    have h20 := Hz.out.1.2.1
    have hil : i.toNat < n.links.length := by omega
    have hiN : i < (n.links.length : Int) := by omega
    have Hr := Lib.hid (narL_ok Hz.out.1.d Hlk.out)
    have Hn := Lib.hid (nl_ok H0.out)
    obtain ⟨bl, off, rfl, _, hbl, _, _, _, _⟩ := H.out.2.at_ hil
    generalize hlk : lkAt n.links i.toNat = lk at *
    obtain ⟨bl', off', hbe, _, hbl', q1, q2, q3, q4⟩ := (H.out.2.ext hx (Nat.le_refl _)).at_ hil
    injection hbe with hbe
    injection hbe with he1 he2
    subst he1 he2
    rw [hlk] at q1 q2 q3 q4
    have hzw := hx.size
    have hbr : bl < w1.heap.size := by omega
    have hb := Hnb.out; have hb0 := hb.at0; have hb1 := hb.at1; have hbg := hb.1; have Hhb := Lib.hid hb; clear hb
    by_cases hl : Lim (narL n lk)
    · have Hl := Lib.hid hl
      clear hl
      go_wp2_with fail
      go_region_law (first
        | (go_simp; go_at_call 149; refine Calls.mono (spec_l19Link _ _ n lk _ (H.out.up (by repeat (first | exact Ext.refl _ | assumption | refine Ext.alloc ?_ _ | refine Ext.drew ?_ | refine Ext.drewN ?_ _ | refine Ext.setCell ?_ (by first | (simp; done) | (simp; omega) | omega) _ | refine Ext.trans ?_ (by assumption)))) Hz.out.1.d Hlk.out) ?_; rintro e w2 hnew; obtain ⟨Ao, co, Aq, cq, a, b, rfl, hx2, hS2⟩ := NetS.of2 hnew; have HS2 := Lib.hid hS2; have hx3 : Ext w1 w2 := (by repeat (first | exact Ext.refl _ | assumption | refine Ext.alloc ?_ _ | refine Ext.drew ?_ | refine Ext.drewN ?_ _ | refine Ext.setCell ?_ (by first | (simp; done) | (simp; omega) | omega) _ | refine Ext.trans ?_ (by assumption))); have hlo : w1.heap.size ≤ a := Nat.le_trans (by first | exact Nat.le_refl _ | simp) hS2.la; clear hnew hS2)
        | (go_simp; go_at_call 148; refine Calls.mono (spec_l19Result_yes _ _ (narL n lk) _ (HS2.out.netIn.up (by repeat (first | exact Ext.refl _ | assumption | refine Ext.alloc ?_ _ | refine Ext.drew ?_ | refine Ext.drewN ?_ _ | refine Ext.setCell ?_ (by first | (simp; done) | (simp; omega) | omega) _ | refine Ext.trans ?_ (by assumption)))) Hr.out.1 Hl.out) ?_; rintro e w5 ⟨rfl, hx5⟩; have hx6 : Ext w1 w5 := (by repeat (first | exact Ext.refl _ | assumption | refine Ext.alloc ?_ _ | refine Ext.drew ?_ | refine Ext.drewN ?_ _ | refine Ext.setCell ?_ (by first | (simp; done) | (simp; omega) | omega) _ | refine Ext.trans ?_ (by assumption))); have HS5 := Lib.hid ((HS2.out.mono (lo' := w1.heap.size) (by first | exact Nat.le_refl _ | simp)).ext (show Ext w2 w5 from (by repeat (first | exact Ext.refl _ | assumption | refine Ext.alloc ?_ _ | refine Ext.drew ?_ | refine Ext.drewN ?_ _ | refine Ext.setCell ?_ (by first | (simp; done) | (simp; omega) | omega) _ | refine Ext.trans ?_ (by assumption))))); have rb := Hrb.out.ext hx6; have rb0 := rb.at0; have rb1 := rb.at1; have rbg := rb.1; have Hrb := Lib.hid rb; clear rb; have rf0 := Hrb.out.fz 0 (by simp); have rf1 := Hrb.out.fz 1 (by simp)))
      all_goals
        go_wp2_with fail
        refine bodyPost_ret (v := .tuple #[.agg #[.slice Ao (narL n lk).sets.length co, .slice Aq (narL n lk).links.length cq], .int .i64 0]) (by simp [results, Try.results50, go_sem, *]) rfl ?_
        rw [Hn.out.1, Hn.out.2, (lim_yes Hl.out).1, (lim_yes Hl.out).2]
        exact NetS.fin2 0 (hx.trans hx6) (by omega) (by omega) HS5.out
    · have Hl := Lib.hid hl
      clear hl
      go_wp2_with fail
      go_region_law (first
        | (go_simp; go_at_call 149; refine Calls.mono (spec_l19Link _ _ n lk _ (H.out.up (by repeat (first | exact Ext.refl _ | assumption | refine Ext.alloc ?_ _ | refine Ext.drew ?_ | refine Ext.drewN ?_ _ | refine Ext.setCell ?_ (by first | (simp; done) | (simp; omega) | omega) _ | refine Ext.trans ?_ (by assumption)))) Hz.out.1.d Hlk.out) ?_; rintro e w2 hnew; obtain ⟨Ao, co, Aq, cq, a, b, rfl, hx2, hS2⟩ := NetS.of2 hnew; have HS2 := Lib.hid hS2; have hx3 : Ext w1 w2 := (by repeat (first | exact Ext.refl _ | assumption | refine Ext.alloc ?_ _ | refine Ext.drew ?_ | refine Ext.drewN ?_ _ | refine Ext.setCell ?_ (by first | (simp; done) | (simp; omega) | omega) _ | refine Ext.trans ?_ (by assumption))); clear hnew hS2)
        | (go_simp; go_at_call 148; refine Calls.mono (spec_l19Result_no _ _ (narL n lk) _ (HS2.out.netIn.up (by repeat (first | exact Ext.refl _ | assumption | refine Ext.alloc ?_ _ | refine Ext.drew ?_ | refine Ext.drewN ?_ _ | refine Ext.setCell ?_ (by first | (simp; done) | (simp; omega) | omega) _ | refine Ext.trans ?_ (by assumption)))) Hr.out.1 Hl.out) ?_; rintro e w5 ⟨rfl, hx5⟩; have hx6 : Ext w1 w5 := (by repeat (first | exact Ext.refl _ | assumption | refine Ext.alloc ?_ _ | refine Ext.drew ?_ | refine Ext.drewN ?_ _ | refine Ext.setCell ?_ (by first | (simp; done) | (simp; omega) | omega) _ | refine Ext.trans ?_ (by assumption))); have rb := Hrb.out.ext hx6; have rb0 := rb.at0; have rb1 := rb.at1; have rbg := rb.1; have Hrb := Lib.hid rb; clear rb; have rf0 := Hrb.out.fz 0 (by simp); have rf1 := Hrb.out.fz 1 (by simp)))
      all_goals
        go_wp2_with fail
        refine bodyPost_ret (v := .tuple #[.agg #[.slice none 0 0, .slice none 0 0], .int .i64 3]) (by simp [results, Try.results50, go_sem, *]) rfl ?_
        rw [Hn.out.2, (lim_no Hl.out).1]
        exact Lib.nil2 3 (by rw [Hn.out.1, (lim_no Hl.out).2]) (hx.trans hx6) (by omega)
  · have Hn := Lib.hid (nl_no h0)
    have hne : (lnkE n i != 0) = true := bne_iff_ne.2 h0
    have hde : decide (lnkE n i = 0) = false := decide_eq_false h0
    generalize lnkE n i = c at *
    have rb := Hrb.out; have rb0 := rb.at0; have rb1 := rb.at1; have rbg := rb.1; have Hrb := Lib.hid rb; clear rb
    have rf0 := Hrb.out.fz 0 (by simp)
    have rf1 := Hrb.out.fz 1 (by simp)
    go_wp2_with fail
    refine bodyPost_ret (v := .tuple #[.agg #[.slice none 0 0, .slice none 0 0], .int .i64 c]) (by simp [results, Try.results50, go_sem, *]) rfl ?_
    rw [Hn.out.2]
    exact Lib.nil2 c Hn.out.1 hx (by omega)
end Go.Proofs.Ytfajmlkiidnhlaa
