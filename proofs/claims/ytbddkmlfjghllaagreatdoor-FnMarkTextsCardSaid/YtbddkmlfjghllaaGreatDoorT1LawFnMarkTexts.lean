/- The law FnMarkTexts, walked out of the contracts of the draws, the program's functions and the reference's. (Printed by genFM.py.) -/
import Derived.Test.YtbddkmlfjghllaaGreatDoorT1Am
import Derived.Test.YtbddkmlfjghllaaGreatDoorT1Af
import Derived.Test.YtbddkmlfjghllaaGreatDoorT1Ac
import Derived.Test.YtbddkmlfjghllaaGreatDoorT1Jv
import Derived.Test.YtbddkmlfjghllaaGreatDoorT1Sg
import Derived.Test.YtbddkmlfjghllaaGreatDoorT1S
import Derived.Test.YtbddkmlfjghllaaGreatDoorT1Yf
import Derived.Test.YtbddkmlfjghllaaGreatDoorT1Ad
namespace Go.Proofs.YtbddkmlfjghllaaGreatDoor
set_option linter.unusedVariables false
set_option linter.unusedSimpArgs false
open Go.RowKit
attribute [local go_sem] cell_onto

theorem NewNspD.plain {l : List Nsp} {e0 : Int} {w w' : World} {e : Ending} (h : NewNspD l e0 w e w') : ∃ A c, e = .returned (.tuple #[.slice A l.length c, .int .i64 e0]) ∧ Ext w w' ∧ Hid (Nsps w' 0 w'.heap.size (.slice A l.length c) l) := by
  obtain ⟨v, g, rfl, hx, _, ho⟩ := h
  have hr : Nsps w' 0 w'.heap.size v l := ho.row (fun h0 => ⟨Nat.zero_le _, by
    obtain ⟨_, A, c, _, _, hh⟩ := ho
    exact (hh h0).1⟩)
  obtain ⟨A, c, rfl, _⟩ := hr.len
  exact ⟨A, c, rfl, hx, Lib.hid hr⟩
set_option maxRecDepth 100000 in
set_option maxHeartbeats 16000000 in
theorem law_FnMarkTexts (v : Value) (cn : Nat) (w : World) (h : Byts w v cn) (ht : TabW w) (hm : MaxW w) (hsy : ErrW 1 w) (hra : ErrW 2 w) : Calls Tryz.prog 5 #[v] w (RetX (.bool true) w) := by
  obtain ⟨A, c, rfl⟩ := h.len
  have HX0 := Lib.hid h
  have Ht := Lib.hid ht
  have Hm := Lib.hid hm
  have Hsy := Lib.hid hsy
  have Hra := Lib.hid hra
  clear h ht hm hsy hra
  go_enter Tryz.func5, Tryz.ntmps5
  go_wp2_with fail
  by_cases hbig : cn ≤ 4096
  case neg =>
    refine Calls.mono (laws_big_yes cn A c w hbig) ?_
    rintro e w' ⟨rfl, rfl⟩
    go_wp2_with fail
    go_ret
    exact ⟨rfl, (by repeat (first | exact Ext.refl _ | assumption | refine Ext.alloc ?_ _ | refine Ext.drew ?_ | refine Ext.drewN ?_ _ | refine Ext.setCell ?_ (by first | (simp; done) | (simp; omega) | omega) _ | refine Ext.trans ?_ (by assumption)))⟩
  have H := Lib.hid (HX0.out.few hbig)
  refine Calls.mono (laws_big_no cn A c w hbig) ?_
  rintro e w' ⟨rfl, rfl⟩
  clear HX0 hbig
  go_wp2_with fail
  refine Calls.mono (spec_DrawMarksText cn _ w H.out) ?_
  rintro e w1 ⟨A1, c1, m, rfl, hx1, hl1, hn1, HM⟩
  have Hn := Lib.hid hn1
  have hc1 : m.length ≤ c1 := by obtain ⟨_, A', c', e, hh, _⟩ := HM.out; injection e with _ _ e; omega
  clear hn1
  obtain ⟨tb, htb⟩ : ∃ tb, mtxB m = tb := ⟨_, rfl⟩
  have Htb := Lib.hid htb
  clear htb
  have T1 := str_same tb
  by_cases hok : MksOk m
  case neg =>
    have Hmt := Lib.hid (mtx_no hok).1
    have Hlg := Lib.hid (lng_no hok)
    have Hok := Lib.hid (B_false hok)
    clear hok
    go_wp2_with fail
    refine Calls.mono (impl_MarksText _ m w1 HM.out (Ht.out.ext hx1)) ?_
    rintro e w2 ⟨rfl, hx2⟩
    rw [Htb.out, Hmt.out]
    have y2 : Ext w w2 := hx1.trans hx2
    go_wp2_with fail
    refine Calls.mono (spec_MarksText _ m w2 (HM.out.up hx2) Hn.out.nsm) ?_
    rintro e w3 ⟨rfl, hx3⟩
    rw [Htb.out, Hmt.out]
    have y3 : Ext w w3 := y2.trans hx3
    have z3 : Ext w1 w3 := hx2.trans hx3
    go_wp2_with fail
    refine Calls.mono (spec_DrawReadMarks cn _ w3 (H.out.up y3)) ?_
    rintro e w4 ⟨s, rfl, hss, hx4⟩
    have y4 : Ext w w4 := y3.trans hx4
    have z4 : Ext w1 w4 := z3.trans hx4
    have T2 := str_same s
    go_wp2_with fail
    refine Calls.mono (impl_ReadMarks s w4 hss (Ht.out.ext y4) (Hm.out.ext y4) (Hsy.out.ext y4) (Hra.out.ext y4)) ?_
    intro e w5 hp5
    obtain ⟨A5, c5, rfl, hx5, H5⟩ := hp5.plain
    clear hp5
    have y5 : Ext w w5 := y4.trans hx5
    have z5 : Ext w1 w5 := z4.trans hx5
    have Hbk := Lib.hid (fun (h : rmE s.data.toList = 0) => rd_back h)
    have Hsp := Lib.hid (fun W => spec_ReadMarks s W hss)
    generalize rmL s.data.toList = x at *
    generalize rmE s.data.toList = er at *
    go_wp2_with fail
    refine Calls.mono (Hsp.out w5) ?_
    intro e w6 hp6
    obtain ⟨A6, c6, rfl, hx6, H6⟩ := hp6.plain
    clear hp6
    have y6 : Ext w w6 := y5.trans hx6
    have z6 : Ext w1 w6 := z5.trans hx6
    go_wp2_with fail
    refine Calls.mono (impl_LongestUse _ m w6 (HM.out.up z6)) ?_
    rintro e w7 ⟨rfl, hx7⟩
    rw [Hlg.out.1, Hlg.out.2]
    have y7 : Ext w w7 := y6.trans hx7
    have z7 : Ext w1 w7 := z6.trans hx7
    go_wp2_with fail
    refine Calls.mono (spec_LongestUse _ m w7 (HM.out.up z7) Hn.out.nsm) ?_
    rintro e w8 ⟨rfl, hx8⟩
    rw [Hlg.out.1, Hlg.out.2]
    have y8 : Ext w w8 := y7.trans hx8
    have z8 : Ext w1 w8 := z7.trans hx8
    go_wp2_with fail
    refine Calls.mono (laws_likeMarks9 _ _ x w8 (H5.out.up (hx6.trans (hx7.trans hx8))) (H6.out.up (hx7.trans hx8))) ?_
    rintro e w9 ⟨rfl, hx9⟩
    have y9 : Ext w w9 := y8.trans hx9
    have z9 : Ext w1 w9 := z8.trans hx9
    go_wp2_with fail
    refine Calls.mono (impl_AreMarks _ m w9 (HM.out.up z9)) ?_
    rintro e w10 ⟨rfl, hx10⟩
    rw [Hok.out]
    have y10 : Ext w w10 := y9.trans hx10
    have z10 : Ext w1 w10 := z9.trans hx10
    by_cases her : er = 0
    · subst her
      obtain ⟨k1, k2⟩ := Hbk.out rfl
      have Hk1 := Lib.hid k1
      have Hk2 := Lib.hid k2
      clear k1 k2
      go_wp2_with fail
      refine Calls.mono (impl_MarksText _ x w10 (H5.out.up (((hx6.trans hx7).trans hx8).trans (hx9.trans hx10))) (Ht.out.ext y10)) ?_
      rintro e w11 ⟨rfl, hx11⟩
      rw [Hk1.out, Hk2.out]
      have y11 : Ext w w11 := y10.trans hx11
      have z11 : Ext w1 w11 := z10.trans hx11
      go_wp2_with fail
      go_ret
      exact ⟨rfl, y11⟩
    · have T9 : (er == 0) = false := by simpa using her
      go_wp2_with fail
      go_ret
      exact ⟨rfl, y10⟩
  have Hmk := Lib.hid hok
  have Hmt := Lib.hid (mtx_ok hok).1
  have Hok := Lib.hid (B_true hok)
  have hbk := tx_back hok
  rw [Htb.out] at hbk
  have Hback := Lib.hid hbk
  have hts : tb.size ≤ 1048576 := by rw [← Htb.out]; have := mtxB_size m; omega
  clear hbk
  by_cases h0 : m.length = 0
  · have Hlg := Lib.hid (lng_nil hok h0)
    have hm0 : m = [] := List.eq_nil_of_length_eq_zero h0
    subst hm0
    clear hok h0
    go_wp2_with fail
    refine Calls.mono (impl_MarksText _ [] w1 HM.out (Ht.out.ext hx1)) ?_
    rintro e w2 ⟨rfl, hx2⟩
    rw [Htb.out, Hmt.out]
    have y2 : Ext w w2 := hx1.trans hx2
    go_wp2_with fail
    refine Calls.mono (spec_MarksText _ [] w2 (HM.out.up hx2) Hn.out.nsm) ?_
    rintro e w3 ⟨rfl, hx3⟩
    rw [Htb.out, Hmt.out]
    have y3 : Ext w w3 := y2.trans hx3
    have z3 : Ext w1 w3 := hx2.trans hx3
    go_wp2_with fail
    refine Calls.mono (spec_DrawReadMarks cn _ w3 (H.out.up y3)) ?_
    rintro e w4 ⟨s, rfl, hss, hx4⟩
    have y4 : Ext w w4 := y3.trans hx4
    have z4 : Ext w1 w4 := z3.trans hx4
    have T2 := str_same s
    go_wp2_with fail
    refine Calls.mono (impl_ReadMarks s w4 hss (Ht.out.ext y4) (Hm.out.ext y4) (Hsy.out.ext y4) (Hra.out.ext y4)) ?_
    intro e w5 hp5
    obtain ⟨A5, c5, rfl, hx5, H5⟩ := hp5.plain
    clear hp5
    have y5 : Ext w w5 := y4.trans hx5
    have z5 : Ext w1 w5 := z4.trans hx5
    have Hbk := Lib.hid (fun (h : rmE s.data.toList = 0) => rd_back h)
    have Hsp := Lib.hid (fun W => spec_ReadMarks s W hss)
    generalize rmL s.data.toList = x at *
    generalize rmE s.data.toList = er at *
    go_wp2_with fail
    refine Calls.mono (Hsp.out w5) ?_
    intro e w6 hp6
    obtain ⟨A6, c6, rfl, hx6, H6⟩ := hp6.plain
    clear hp6
    have y6 : Ext w w6 := y5.trans hx6
    have z6 : Ext w1 w6 := z5.trans hx6
    go_wp2_with fail
    refine Calls.mono (impl_LongestUse _ [] w6 (HM.out.up z6)) ?_
    rintro e w7 ⟨rfl, hx7⟩
    rw [Hlg.out.1, Hlg.out.2]
    have y7 : Ext w w7 := y6.trans hx7
    have z7 : Ext w1 w7 := z6.trans hx7
    go_wp2_with fail
    refine Calls.mono (spec_LongestUse _ [] w7 (HM.out.up z7) Hn.out.nsm) ?_
    rintro e w8 ⟨rfl, hx8⟩
    rw [Hlg.out.1, Hlg.out.2]
    have y8 : Ext w w8 := y7.trans hx8
    have z8 : Ext w1 w8 := z7.trans hx8
    go_wp2_with fail
    refine Calls.mono (laws_likeMarks9 _ _ x w8 (H5.out.up (hx6.trans (hx7.trans hx8))) (H6.out.up (hx7.trans hx8))) ?_
    rintro e w9 ⟨rfl, hx9⟩
    have y9 : Ext w w9 := y8.trans hx9
    have z9 : Ext w1 w9 := z8.trans hx9
    go_wp2_with fail
    refine Calls.mono (impl_AreMarks _ [] w9 (HM.out.up z9)) ?_
    rintro e w10 ⟨rfl, hx10⟩
    rw [Hok.out]
    have y10 : Ext w w10 := y9.trans hx10
    have z10 : Ext w1 w10 := z9.trans hx10
    by_cases her : er = 0
    · subst her
      obtain ⟨k1, k2⟩ := Hbk.out rfl
      have Hk1 := Lib.hid k1
      have Hk2 := Lib.hid k2
      clear k1 k2
      go_wp2_with fail
      refine Calls.mono (impl_MarksText _ x w10 (H5.out.up (((hx6.trans hx7).trans hx8).trans (hx9.trans hx10))) (Ht.out.ext y10)) ?_
      rintro e w11 ⟨rfl, hx11⟩
      rw [Hk1.out, Hk2.out]
      have y11 : Ext w w11 := y10.trans hx11
      have z11 : Ext w1 w11 := z10.trans hx11
      go_wp2_with fail
      refine Calls.mono (impl_ReadMarks tb w11 hts (Ht.out.ext y11) (Hm.out.ext y11) (Hsy.out.ext y11) (Hra.out.ext y11)) ?_
      intro e v1 hq1
      obtain ⟨A8, c8, rfl, hv1, H8⟩ := hq1.plain
      rw [Hback.out.1, Hback.out.2]
      rw [Hback.out.2] at H8
      clear hq1
      have yv : Ext w v1 := y11.trans hv1
      have zv : Ext w1 v1 := z11.trans hv1
      go_wp2_with fail
      refine Calls.mono (laws_likeMarks9 _ _ [] v1 H8.out (HM.out.up zv)) ?_
      rintro e v2 ⟨rfl, hv2⟩
      have yv2 : Ext w v2 := yv.trans hv2
      go_wp2_with fail
      go_ret
      exact ⟨rfl, yv2⟩
    · have T9 : (er == 0) = false := by simpa using her
      go_wp2_with fail
      refine Calls.mono (impl_ReadMarks tb w10 hts (Ht.out.ext y10) (Hm.out.ext y10) (Hsy.out.ext y10) (Hra.out.ext y10)) ?_
      intro e v1 hq1
      obtain ⟨A8, c8, rfl, hv1, H8⟩ := hq1.plain
      rw [Hback.out.1, Hback.out.2]
      rw [Hback.out.2] at H8
      clear hq1
      have yv : Ext w v1 := y10.trans hv1
      have zv : Ext w1 v1 := z10.trans hv1
      go_wp2_with fail
      refine Calls.mono (laws_likeMarks9 _ _ [] v1 H8.out (HM.out.up zv)) ?_
      rintro e v2 ⟨rfl, hv2⟩
      have yv2 : Ext w v2 := yv.trans hv2
      go_wp2_with fail
      go_ret
      exact ⟨rfl, yv2⟩
  · have hlo := lng_ok hok h0
    obtain ⟨hpos, b, hbv, hbl, hbest⟩ := lng_best hlo.1
    have Hlg := Lib.hid (And.intro hlo.1 hbv)
    have Hbest := Lib.hid hbest
    clear hok hlo hbv hbest
    go_wp2_with fail
    refine Calls.mono (impl_MarksText _ m w1 HM.out (Ht.out.ext hx1)) ?_
    rintro e w2 ⟨rfl, hx2⟩
    rw [Htb.out, Hmt.out]
    have y2 : Ext w w2 := hx1.trans hx2
    go_wp2_with fail
    refine Calls.mono (spec_MarksText _ m w2 (HM.out.up hx2) Hn.out.nsm) ?_
    rintro e w3 ⟨rfl, hx3⟩
    rw [Htb.out, Hmt.out]
    have y3 : Ext w w3 := y2.trans hx3
    have z3 : Ext w1 w3 := hx2.trans hx3
    go_wp2_with fail
    refine Calls.mono (spec_DrawReadMarks cn _ w3 (H.out.up y3)) ?_
    rintro e w4 ⟨s, rfl, hss, hx4⟩
    have y4 : Ext w w4 := y3.trans hx4
    have z4 : Ext w1 w4 := z3.trans hx4
    have T2 := str_same s
    go_wp2_with fail
    refine Calls.mono (impl_ReadMarks s w4 hss (Ht.out.ext y4) (Hm.out.ext y4) (Hsy.out.ext y4) (Hra.out.ext y4)) ?_
    intro e w5 hp5
    obtain ⟨A5, c5, rfl, hx5, H5⟩ := hp5.plain
    clear hp5
    have y5 : Ext w w5 := y4.trans hx5
    have z5 : Ext w1 w5 := z4.trans hx5
    have Hbk := Lib.hid (fun (h : rmE s.data.toList = 0) => rd_back h)
    have Hsp := Lib.hid (fun W => spec_ReadMarks s W hss)
    generalize rmL s.data.toList = x at *
    generalize rmE s.data.toList = er at *
    go_wp2_with fail
    refine Calls.mono (Hsp.out w5) ?_
    intro e w6 hp6
    obtain ⟨A6, c6, rfl, hx6, H6⟩ := hp6.plain
    clear hp6
    have y6 : Ext w w6 := y5.trans hx6
    have z6 : Ext w1 w6 := z5.trans hx6
    go_wp2_with fail
    refine Calls.mono (impl_LongestUse _ m w6 (HM.out.up z6)) ?_
    rintro e w7 ⟨rfl, hx7⟩
    rw [Hlg.out.1, Hlg.out.2]
    have y7 : Ext w w7 := y6.trans hx7
    have z7 : Ext w1 w7 := z6.trans hx7
    go_wp2_with fail
    refine Calls.mono (spec_LongestUse _ m w7 (HM.out.up z7) Hn.out.nsm) ?_
    rintro e w8 ⟨rfl, hx8⟩
    rw [Hlg.out.1, Hlg.out.2]
    have y8 : Ext w w8 := y7.trans hx8
    have z8 : Ext w1 w8 := z7.trans hx8
    go_wp2_with fail
    refine Calls.mono (laws_likeMarks9 _ _ x w8 (H5.out.up (hx6.trans (hx7.trans hx8))) (H6.out.up (hx7.trans hx8))) ?_
    rintro e w9 ⟨rfl, hx9⟩
    have y9 : Ext w w9 := y8.trans hx9
    have z9 : Ext w1 w9 := z8.trans hx9
    go_wp2_with fail
    refine Calls.mono (impl_AreMarks _ m w9 (HM.out.up z9)) ?_
    rintro e w10 ⟨rfl, hx10⟩
    rw [Hok.out]
    have y10 : Ext w w10 := y9.trans hx10
    have z10 : Ext w1 w10 := z9.trans hx10
    by_cases her : er = 0
    · subst her
      obtain ⟨k1, k2⟩ := Hbk.out rfl
      have Hk1 := Lib.hid k1
      have Hk2 := Lib.hid k2
      clear k1 k2
      go_wp2_with fail
      refine Calls.mono (impl_MarksText _ x w10 (H5.out.up (((hx6.trans hx7).trans hx8).trans (hx9.trans hx10))) (Ht.out.ext y10)) ?_
      rintro e w11 ⟨rfl, hx11⟩
      rw [Hk1.out, Hk2.out]
      have y11 : Ext w w11 := y10.trans hx11
      have z11 : Ext w1 w11 := z10.trans hx11
      go_wp2_with fail
      refine Calls.mono (laws_roll cn _ 1601 w11 (H.out.up y11)) ?_
      rintro e u1 ⟨bd, rfl, hbd, hu1, hdi⟩
      have Hdi := Lib.hid hdi
      clear hdi
      go_wp2_with fail
      refine Calls.mono (laws_below cn bd _ (m.length : Int) w11 u1 ((H.out.up y11).ext hu1 (Nat.le_refl _)) hbd hu1 Hdi.out (by omega)) ?_
      rintro e u2 ⟨rk, rfl, hk0, hk1, hu2⟩
      obtain ⟨k, rfl⟩ := Int.eq_ofNat_of_zero_le hk0
      have hk : k < m.length := by omega
      have yu : Ext w u2 := y11.trans hu2
      have zu : Ext w1 u2 := z11.trans hu2
      have Hmu := Lib.hid (HM.out.up zu)
      obtain ⟨bb, oo, eA, _, hbb, a1, a2, a3⟩ := Hmu.out.at_ (i := k) hk
      subst eA
      obtain ⟨b', o', e', _, _, b1, b2, b3⟩ := Hmu.out.at_ (i := b) hbl
      injection e' with e'
      injection e' with e1 e2
      subst e1 e2
      clear a1 b1
      have hbst := Hbest.out k hk
      obtain ⟨⟨_, ⟨f0, f1⟩, ⟨t0, t1⟩, _⟩, _⟩ := Hmk.out.2 k hk
      obtain ⟨⟨_, ⟨f0', f1'⟩, ⟨t0', t1'⟩, _⟩, _⟩ := Hmk.out.2 b hbl
      have W1 : IntKind.i64.wrap ((nspAt m k).to - (nspAt m k).fr) = (nspAt m k).to - (nspAt m k).fr := IntWalk.i64_in _ (by omega)
      have W2 : IntKind.i64.wrap ((nspAt m b).to - (nspAt m b).fr) = (nspAt m b).to - (nspAt m b).fr := IntWalk.i64_in _ (by omega)
      have T5 : decide ((nspAt m b).to - (nspAt m b).fr < (nspAt m k).to - (nspAt m k).fr) = false := decide_eq_false (by omega)
      have hbi : (b : Int) < (m.length : Int) := by omega
      have hb0 : (0 : Int) ≤ (b : Int) := by omega
      go_wp2_with fail
      (refine wp_region_onto prog_mixed (by kernel_rfl) ?_; (repeat (go_big_quiet_step ((fail)))); refine onto_end ?_; intro u3 hu3)
      have yu3 : Ext w u3 := yu.trans hu3
      have zu3 : Ext w1 u3 := zu.trans hu3
      go_wp2_with fail
      refine Calls.mono (impl_ReadMarks tb u3 hts (Ht.out.ext yu3) (Hm.out.ext yu3) (Hsy.out.ext yu3) (Hra.out.ext yu3)) ?_
      intro e v1 hq1
      obtain ⟨A8, c8, rfl, hv1, H8⟩ := hq1.plain
      rw [Hback.out.1, Hback.out.2]
      rw [Hback.out.2] at H8
      clear hq1
      have yv : Ext w v1 := yu3.trans hv1
      have zv : Ext w1 v1 := zu3.trans hv1
      go_wp2_with fail
      refine Calls.mono (laws_likeMarks9 _ _ m v1 H8.out (HM.out.up zv)) ?_
      rintro e v2 ⟨rfl, hv2⟩
      have yv2 : Ext w v2 := yv.trans hv2
      go_wp2_with fail
      go_ret
      exact ⟨rfl, yv2⟩
    · have T9 : (er == 0) = false := by simpa using her
      go_wp2_with fail
      refine Calls.mono (laws_roll cn _ 1601 w10 (H.out.up y10)) ?_
      rintro e u1 ⟨bd, rfl, hbd, hu1, hdi⟩
      have Hdi := Lib.hid hdi
      clear hdi
      go_wp2_with fail
      refine Calls.mono (laws_below cn bd _ (m.length : Int) w10 u1 ((H.out.up y10).ext hu1 (Nat.le_refl _)) hbd hu1 Hdi.out (by omega)) ?_
      rintro e u2 ⟨rk, rfl, hk0, hk1, hu2⟩
      obtain ⟨k, rfl⟩ := Int.eq_ofNat_of_zero_le hk0
      have hk : k < m.length := by omega
      have yu : Ext w u2 := y10.trans hu2
      have zu : Ext w1 u2 := z10.trans hu2
      have Hmu := Lib.hid (HM.out.up zu)
      obtain ⟨bb, oo, eA, _, hbb, a1, a2, a3⟩ := Hmu.out.at_ (i := k) hk
      subst eA
      obtain ⟨b', o', e', _, _, b1, b2, b3⟩ := Hmu.out.at_ (i := b) hbl
      injection e' with e'
      injection e' with e1 e2
      subst e1 e2
      clear a1 b1
      have hbst := Hbest.out k hk
      obtain ⟨⟨_, ⟨f0, f1⟩, ⟨t0, t1⟩, _⟩, _⟩ := Hmk.out.2 k hk
      obtain ⟨⟨_, ⟨f0', f1'⟩, ⟨t0', t1'⟩, _⟩, _⟩ := Hmk.out.2 b hbl
      have W1 : IntKind.i64.wrap ((nspAt m k).to - (nspAt m k).fr) = (nspAt m k).to - (nspAt m k).fr := IntWalk.i64_in _ (by omega)
      have W2 : IntKind.i64.wrap ((nspAt m b).to - (nspAt m b).fr) = (nspAt m b).to - (nspAt m b).fr := IntWalk.i64_in _ (by omega)
      have T5 : decide ((nspAt m b).to - (nspAt m b).fr < (nspAt m k).to - (nspAt m k).fr) = false := decide_eq_false (by omega)
      have hbi : (b : Int) < (m.length : Int) := by omega
      have hb0 : (0 : Int) ≤ (b : Int) := by omega
      go_wp2_with fail
      (refine wp_region_onto prog_mixed (by kernel_rfl) ?_; (repeat (go_big_quiet_step ((fail)))); refine onto_end ?_; intro u3 hu3)
      have yu3 : Ext w u3 := yu.trans hu3
      have zu3 : Ext w1 u3 := zu.trans hu3
      go_wp2_with fail
      refine Calls.mono (impl_ReadMarks tb u3 hts (Ht.out.ext yu3) (Hm.out.ext yu3) (Hsy.out.ext yu3) (Hra.out.ext yu3)) ?_
      intro e v1 hq1
      obtain ⟨A8, c8, rfl, hv1, H8⟩ := hq1.plain
      rw [Hback.out.1, Hback.out.2]
      rw [Hback.out.2] at H8
      clear hq1
      have yv : Ext w v1 := yu3.trans hv1
      have zv : Ext w1 v1 := zu3.trans hv1
      go_wp2_with fail
      refine Calls.mono (laws_likeMarks9 _ _ m v1 H8.out (HM.out.up zv)) ?_
      rintro e v2 ⟨rfl, hv2⟩
      have yv2 : Ext w v2 := yv.trans hv2
      go_wp2_with fail
      go_ret
      exact ⟨rfl, yv2⟩
end Go.Proofs.YtbddkmlfjghllaaGreatDoor
