/- The law FnSolutions, walked out of the contracts of the draws, the program's functions and the reference's. -/
import Derived.Test.YtfajmlkiidnhlaaQ3Yc
import Derived.Test.YtfajmlkiidnhlaaQ3Dn
import Derived.Test.YtfajmlkiidnhlaaQ3Fp
import Derived.Test.YtfajmlkiidnhlaaQ3Fq
import Derived.Test.YtfajmlkiidnhlaaQ3Ha
import Derived.Test.YtfajmlkiidnhlaaQ3K
import Derived.Deep.RegionHeld3
import Derived.IntWalk
namespace Go.Proofs.Ytfajmlkiidnhlaa
set_option linter.unusedVariables false
set_option linter.unusedSimpArgs false
open Go.RowKit
attribute [local go_sem] cell_onto

theorem DNetXX.plain {w w' : World} {e : Ending} (h : DNetXX w e w') : ∃ As cs Ak ck n x y, e = .returned (.tuple #[.agg #[.slice As n.sets.length cs, .slice Ak n.links.length ck], .int .i64 x, .int .i64 y]) ∧ Ext w w' ∧ Hid (NetIn w' (.slice As n.sets.length cs) (.slice Ak n.links.length ck) n) := by
  obtain ⟨s, k, n, x, y, he, hx, h1⟩ := h
  have h2 := h1.all (Nat.le_refl _)
  obtain ⟨As, cs, Ak, ck, rfl, rfl⟩ := h2.out2
  exact ⟨As, cs, Ak, ck, n, x, y, he, hx, h2⟩
set_option maxRecDepth 100000 in
set_option maxHeartbeats 8000000 in
theorem law_FnSolutions (v : Value) (cn : Nat) (w : World) (h : Byts w v cn) : Calls Try.prog 4 #[v] w (RetX (.bool true) w) := by
  obtain ⟨A, c, rfl⟩ := h.len
  have HX := Lib.hid h
  clear h
  go_enter Try.func4, Try.ntmps4
  go_wp2_with fail
  by_cases hbig : cn ≤ 4096
  case neg =>
    refine Calls.mono (laws_big_yes cn A c w hbig) ?_
    rintro e w' ⟨rfl, rfl⟩
    go_wp2_with fail
    go_ret
    exact ⟨rfl, (by repeat (first | exact Ext.refl _ | assumption | refine Ext.alloc ?_ _ | refine Ext.drew ?_ | refine Ext.drewN ?_ _ | refine Ext.setCell ?_ (by first | (simp; done) | (simp; omega) | omega) _ | refine Ext.trans ?_ (by assumption)))⟩
  have H := Lib.hid (HX.out.few hbig)
  refine Calls.mono (laws_big_no cn A c w hbig) ?_
  rintro e w' ⟨rfl, rfl⟩
  clear HX hbig
  go_wp2_with fail
  refine Calls.mono (spec_DrawFirstSolution cn _ _ (H.out.up (by repeat (first | exact Ext.refl _ | assumption | refine Ext.alloc ?_ _ | refine Ext.drew ?_ | refine Ext.drewN ?_ _ | refine Ext.setCell ?_ (by first | (simp; done) | (simp; omega) | omega) _ | refine Ext.trans ?_ (by assumption))))) ?_
  intro e wN hp
  obtain ⟨Ns, Ncs, Nk, Nck, n, rfl, hxN, HN⟩ := hp.plain
  clear hp
  have hz1 : w.heap.size ≤ wN.heap.size := hxN.size
  obtain ⟨wb2, hwb2⟩ : ∃ x : World, x = wN.alloc (.cells #[.slice Ns n.sets.length Ncs, .slice Nk n.links.length Nck] 27) := ⟨_, rfl⟩
  have hxwb2 : Ext wN wb2 := by rw [hwb2]; exact (by repeat (first | exact Ext.refl _ | assumption | refine Ext.alloc ?_ _ | refine Ext.drew ?_ | refine Ext.drewN ?_ _ | refine Ext.setCell ?_ (by first | (simp; done) | (simp; omega) | omega) _ | refine Ext.trans ?_ (by assumption)))
  have Hba := Lib.hid (show Boxed wb2 wN.heap.size [.slice Ns n.sets.length Ncs, .slice Nk n.links.length Nck] from by rw [hwb2]; exact Boxed.new wN [.slice Ns n.sets.length Ncs, .slice Nk n.links.length Nck] 27)
  go_wp2_with fail
  rw [← hwb2]
  clear hwb2
  have hz2 : wN.heap.size ≤ wb2.heap.size := hxwb2.size
  have ba0 := Hba.out.at0
  have ba1 := Hba.out.at1
  have bag := Hba.out.1
  refine Calls.mono (impl_FirstSolution _ _ n _ (HN.out.up (hxwb2.trans (by repeat (first | exact Ext.refl _ | assumption | refine Ext.alloc ?_ _ | refine Ext.drew ?_ | refine Ext.drewN ?_ _ | refine Ext.setCell ?_ (by first | (simp; done) | (simp; omega) | omega) _ | refine Ext.trans ?_ (by assumption)))))) ?_
  intro e wD hp
  obtain ⟨Da, Dc, rfl, hxD, ID⟩ := hp.plain
  clear hp
  have hz3 : wb2.heap.size ≤ wD.heap.size := hxD.size
  clear ba0 ba1 bag
  have ba := Hba.out.ext hxD
  clear Hba
  have ba0 := ba.at0
  have ba1 := ba.at1
  have bag := ba.1
  have Hba := Lib.hid ba
  clear ba
  go_wp2_with fail
  refine Calls.mono (spec_FirstSolution _ _ n _ (HN.out.up ((hxwb2.trans hxD).trans (by repeat (first | exact Ext.refl _ | assumption | refine Ext.alloc ?_ _ | refine Ext.drew ?_ | refine Ext.drewN ?_ _ | refine Ext.setCell ?_ (by first | (simp; done) | (simp; omega) | omega) _ | refine Ext.trans ?_ (by assumption)))))) ?_
  intro e wM hp
  obtain ⟨Ma, Mc, rfl, hxM, IM⟩ := hp.plain
  clear hp
  have hz4 : wD.heap.size ≤ wM.heap.size := hxM.size
  clear ba0 ba1 bag
  have ba := Hba.out.ext hxM
  clear Hba
  have ba0 := ba.at0
  have ba1 := ba.at1
  have bag := ba.1
  have Hba := Lib.hid ba
  clear ba
  go_wp2_with fail
  refine Calls.mono (impl_HasSolution _ _ n _ (HN.out.up (((hxwb2.trans hxD).trans hxM).trans (by repeat (first | exact Ext.refl _ | assumption | refine Ext.alloc ?_ _ | refine Ext.drew ?_ | refine Ext.drewN ?_ _ | refine Ext.setCell ?_ (by first | (simp; done) | (simp; omega) | omega) _ | refine Ext.trans ?_ (by assumption)))))) ?_
  rintro e wh1 ⟨rfl, hxh1⟩
  rw [codeE_ch n]
  have hz5 : wM.heap.size ≤ wh1.heap.size := hxh1.size
  clear ba0 ba1 bag
  have ba := Hba.out.ext hxh1
  clear Hba
  have ba0 := ba.at0
  have ba1 := ba.at1
  have bag := ba.1
  have Hba := Lib.hid ba
  clear ba
  go_wp2_with fail
  refine Calls.mono (spec_HasSolution _ _ n _ (HN.out.up ((((hxwb2.trans hxD).trans hxM).trans hxh1).trans (by repeat (first | exact Ext.refl _ | assumption | refine Ext.alloc ?_ _ | refine Ext.drew ?_ | refine Ext.drewN ?_ _ | refine Ext.setCell ?_ (by first | (simp; done) | (simp; omega) | omega) _ | refine Ext.trans ?_ (by assumption)))))) ?_
  rintro e wh2 ⟨rfl, hxh2⟩
  rw [codeE_ch n]
  have hz6 : wh1.heap.size ≤ wh2.heap.size := hxh2.size
  clear ba0 ba1 bag
  have ba := Hba.out.ext hxh2
  clear Hba
  have ba0 := ba.at0
  have ba1 := ba.at1
  have bag := ba.1
  have Hba := Lib.hid ba
  clear ba
  go_wp2_with fail
  refine Calls.mono (impl_CountChoices _ _ n _ (HN.out.up (((((hxwb2.trans hxD).trans hxM).trans hxh1).trans hxh2).trans (by repeat (first | exact Ext.refl _ | assumption | refine Ext.alloc ?_ _ | refine Ext.drew ?_ | refine Ext.drewN ?_ _ | refine Ext.setCell ?_ (by first | (simp; done) | (simp; omega) | omega) _ | refine Ext.trans ?_ (by assumption)))))) ?_
  rintro e wc1 ⟨rfl, hxc1⟩
  have hz7 : wh2.heap.size ≤ wc1.heap.size := hxc1.size
  clear ba0 ba1 bag
  have ba := Hba.out.ext hxc1
  clear Hba
  have ba0 := ba.at0
  have ba1 := ba.at1
  have bag := ba.1
  have Hba := Lib.hid ba
  clear ba
  go_wp2_with fail
  refine Calls.mono (spec_CountChoices _ _ n _ (HN.out.up ((((((hxwb2.trans hxD).trans hxM).trans hxh1).trans hxh2).trans hxc1).trans (by repeat (first | exact Ext.refl _ | assumption | refine Ext.alloc ?_ _ | refine Ext.drew ?_ | refine Ext.drewN ?_ _ | refine Ext.setCell ?_ (by first | (simp; done) | (simp; omega) | omega) _ | refine Ext.trans ?_ (by assumption)))))) ?_
  rintro e wc2 ⟨rfl, hxc2⟩
  have hz8 : wc1.heap.size ≤ wc2.heap.size := hxc2.size
  clear ba0 ba1 bag
  have ba := Hba.out.ext hxc2
  clear Hba
  have ba0 := ba.at0
  have ba1 := ba.at1
  have bag := ba.1
  have Hba := Lib.hid ba
  clear ba
  go_wp2_with fail
  refine Calls.mono (spec_DrawCertainOrder cn _ _ (H.out.up ((((((((hxN.trans hxwb2).trans hxD).trans hxM).trans hxh1).trans hxh2).trans hxc1).trans hxc2).trans (by repeat (first | exact Ext.refl _ | assumption | refine Ext.alloc ?_ _ | refine Ext.drew ?_ | refine Ext.drewN ?_ _ | refine Ext.setCell ?_ (by first | (simp; done) | (simp; omega) | omega) _ | refine Ext.trans ?_ (by assumption)))))) ?_
  intro e wP hp
  obtain ⟨Ps, Pcs, Pk, Pck, a, x, y, rfl, hxP, HP⟩ := hp.plain
  clear hp
  have hz9 : wc2.heap.size ≤ wP.heap.size := hxP.size
  clear ba0 ba1 bag
  have ba := Hba.out.ext hxP
  clear Hba
  have ba0 := ba.at0
  have ba1 := ba.at1
  have bag := ba.1
  have Hba := Lib.hid ba
  clear ba
  obtain ⟨wb10, hwb10⟩ : ∃ x : World, x = wP.alloc (.cells #[.slice Ps a.sets.length Pcs, .slice Pk a.links.length Pck] 27) := ⟨_, rfl⟩
  have hxwb10 : Ext wP wb10 := by rw [hwb10]; exact (by repeat (first | exact Ext.refl _ | assumption | refine Ext.alloc ?_ _ | refine Ext.drew ?_ | refine Ext.drewN ?_ _ | refine Ext.setCell ?_ (by first | (simp; done) | (simp; omega) | omega) _ | refine Ext.trans ?_ (by assumption)))
  have Hbb := Lib.hid (show Boxed wb10 wP.heap.size [.slice Ps a.sets.length Pcs, .slice Pk a.links.length Pck] from by rw [hwb10]; exact Boxed.new wP [.slice Ps a.sets.length Pcs, .slice Pk a.links.length Pck] 27)
  go_wp2_with fail
  rw [← hwb10]
  clear hwb10
  have hz10 : wP.heap.size ≤ wb10.heap.size := hxwb10.size
  clear ba0 ba1 bag
  have ba := Hba.out.ext hxwb10
  clear Hba
  have ba0 := ba.at0
  have ba1 := ba.at1
  have bag := ba.1
  have Hba := Lib.hid ba
  clear ba
  have bb0 := Hbb.out.at0
  have bb1 := Hbb.out.at1
  have bbg := Hbb.out.1
  refine Calls.mono (impl_CertainOrder _ _ a x y _ (HP.out.up (hxwb10.trans (by repeat (first | exact Ext.refl _ | assumption | refine Ext.alloc ?_ _ | refine Ext.drew ?_ | refine Ext.drewN ?_ _ | refine Ext.setCell ?_ (by first | (simp; done) | (simp; omega) | omega) _ | refine Ext.trans ?_ (by assumption)))))) ?_
  rintro e wo1 ⟨rfl, hxo1⟩
  have hz11 : wb10.heap.size ≤ wo1.heap.size := hxo1.size
  clear ba0 ba1 bag
  have ba := Hba.out.ext hxo1
  clear Hba
  have ba0 := ba.at0
  have ba1 := ba.at1
  have bag := ba.1
  have Hba := Lib.hid ba
  clear ba
  clear bb0 bb1 bbg
  have bb := Hbb.out.ext hxo1
  clear Hbb
  have bb0 := bb.at0
  have bb1 := bb.at1
  have bbg := bb.1
  have Hbb := Lib.hid bb
  clear bb
  go_wp2_with fail
  refine Calls.mono (spec_CertainOrder _ _ a x y _ (HP.out.up ((hxwb10.trans hxo1).trans (by repeat (first | exact Ext.refl _ | assumption | refine Ext.alloc ?_ _ | refine Ext.drew ?_ | refine Ext.drewN ?_ _ | refine Ext.setCell ?_ (by first | (simp; done) | (simp; omega) | omega) _ | refine Ext.trans ?_ (by assumption)))))) ?_
  rintro e wo2 ⟨rfl, hxo2⟩
  have hz12 : wo1.heap.size ≤ wo2.heap.size := hxo2.size
  clear ba0 ba1 bag
  have ba := Hba.out.ext hxo2
  clear Hba
  have ba0 := ba.at0
  have ba1 := ba.at1
  have bag := ba.1
  have Hba := Lib.hid ba
  clear ba
  clear bb0 bb1 bbg
  have bb := Hbb.out.ext hxo2
  clear Hbb
  have bb0 := bb.at0
  have bb1 := bb.at1
  have bbg := bb.1
  have Hbb := Lib.hid bb
  clear bb
  go_wp2_with fail
  refine Calls.mono (laws_likeInts _ _ (firL n) _ (ID.out.up (((((((((hxM.trans hxh1).trans hxh2).trans hxc1).trans hxc2).trans hxP).trans hxwb10).trans hxo1).trans hxo2).trans (by repeat (first | exact Ext.refl _ | assumption | refine Ext.alloc ?_ _ | refine Ext.drew ?_ | refine Ext.drewN ?_ _ | refine Ext.setCell ?_ (by first | (simp; done) | (simp; omega) | omega) _ | refine Ext.trans ?_ (by assumption))))) (IM.out.up ((((((((hxh1.trans hxh2).trans hxc1).trans hxc2).trans hxP).trans hxwb10).trans hxo1).trans hxo2).trans (by repeat (first | exact Ext.refl _ | assumption | refine Ext.alloc ?_ _ | refine Ext.drew ?_ | refine Ext.drewN ?_ _ | refine Ext.setCell ?_ (by first | (simp; done) | (simp; omega) | omega) _ | refine Ext.trans ?_ (by assumption)))))) ?_
  rintro e wt1 ⟨rfl, hxt1⟩
  have hz13 : wo2.heap.size ≤ wt1.heap.size := hxt1.size
  clear ba0 ba1 bag
  have ba := Hba.out.ext hxt1
  clear Hba
  have ba0 := ba.at0
  have ba1 := ba.at1
  have bag := ba.1
  have Hba := Lib.hid ba
  clear ba
  clear bb0 bb1 bbg
  have bb := Hbb.out.ext hxt1
  clear Hbb
  have bb0 := bb.at0
  have bb1 := bb.at1
  have bbg := bb.1
  have Hbb := Lib.hid bb
  clear bb
  by_cases h5 : ordE a x y = 0 ∧ ordV a x y = true
  · obtain ⟨h5, h6⟩ := h5
    have ho := ord_first h5 h6
    go_wp2_with fail
    refine Calls.mono (impl_FirstSolution _ _ a _ (HP.out.up ((((hxwb10.trans hxo1).trans hxo2).trans hxt1).trans (by repeat (first | exact Ext.refl _ | assumption | refine Ext.alloc ?_ _ | refine Ext.drew ?_ | refine Ext.drewN ?_ _ | refine Ext.setCell ?_ (by first | (simp; done) | (simp; omega) | omega) _ | refine Ext.trans ?_ (by assumption)))))) ?_
    intro e wF hp
    obtain ⟨Fa, Fc, rfl, hxF, IF⟩ := hp.plain
    clear hp
    have hz14 : wt1.heap.size ≤ wF.heap.size := hxF.size
    clear ba0 ba1 bag
    have ba := Hba.out.ext hxF
    clear Hba
    have ba0 := ba.at0
    have ba1 := ba.at1
    have bag := ba.1
    have Hba := Lib.hid ba
    clear ba
    clear bb0 bb1 bbg
    have bb := Hbb.out.ext hxF
    clear Hbb
    have bb0 := bb.at0
    have bb1 := bb.at1
    have bbg := bb.1
    have Hbb := Lib.hid bb
    clear bb
    have Hh5 := Lib.hid h5
    have Hh6 := Lib.hid h6
    rcases ho with h7 | ⟨h7, x0, x1, y0, y1, hxy⟩
    · rw [h7]
      go_wp2_with fail
      (refine wp_region_onto prog_mixed (by kernel_rfl) ?_; (repeat (go_big_quiet_step ((fail)))); refine onto_end ?_; intro w9 hx9)
      have hz15 : wF.heap.size ≤ w9.heap.size := hx9.size
      clear ba0 ba1 bag
      have ba := Hba.out.ext hx9
      clear Hba
      have ba0 := ba.at0
      have ba1 := ba.at1
      have bag := ba.1
      have Hba := Lib.hid ba
      clear ba
      clear bb0 bb1 bbg
      have bb := Hbb.out.ext hx9
      clear Hbb
      have bb0 := bb.at0
      have bb1 := bb.at1
      have bbg := bb.1
      have Hbb := Lib.hid bb
      clear bb
      by_cases h1 : codeE n true = 0
      case neg =>
        have e1 := firE_no h1
        rw [codeE_ch n] at e1 h1
        have h1f : (chE n == 0) = false := by simpa using h1
        have e2 : (firE n == chE n) = true := by rw [e1]; simp
        go_wp2_with fail
        go_ret
        exact ⟨rfl, (((((((((((((((hxN.trans hxwb2).trans hxD).trans hxM).trans hxh1).trans hxh2).trans hxc1).trans hxc2).trans hxP).trans hxwb10).trans hxo1).trans hxo2).trans hxt1).trans hxF).trans hx9).trans (by repeat (first | exact Ext.refl _ | assumption | refine Ext.alloc ?_ _ | refine Ext.drew ?_ | refine Ext.drewN ?_ _ | refine Ext.setCell ?_ (by first | (simp; done) | (simp; omega) | omega) _ | refine Ext.trans ?_ (by assumption))))⟩
      have e0 : chE n = 0 := by rw [← codeE_ch n]; exact h1
      by_cases h2 : Sol n
      case neg =>
        have e3 := firE_none h1 h2
        have e4 : hasV n = false := by rw [hasV_ok h1, B_false h2]
        go_wp2_with fail
        go_ret
        exact ⟨rfl, (((((((((((((((hxN.trans hxwb2).trans hxD).trans hxM).trans hxh1).trans hxh2).trans hxc1).trans hxc2).trans hxP).trans hxwb10).trans hxo1).trans hxo2).trans hxt1).trans hxF).trans hx9).trans (by repeat (first | exact Ext.refl _ | assumption | refine Ext.alloc ?_ _ | refine Ext.drew ?_ | refine Ext.drewN ?_ _ | refine Ext.setCell ?_ (by first | (simp; done) | (simp; omega) | omega) _ | refine Ext.trans ?_ (by assumption))))⟩
      have e4 : hasV n = true := by rw [hasV_ok h1, B_true h2]
      obtain ⟨k1, k2, k3, -, -, k6⟩ := first_sol h1 h2
      go_wp2_with fail
      refine Calls.mono (impl_DoSolve _ _ _ n (firL n) _ (HN.out.up ((((((((((((((hxwb2.trans hxD).trans hxM).trans hxh1).trans hxh2).trans hxc1).trans hxc2).trans hxP).trans hxwb10).trans hxo1).trans hxo2).trans hxt1).trans hxF).trans hx9).trans (by repeat (first | exact Ext.refl _ | assumption | refine Ext.alloc ?_ _ | refine Ext.drew ?_ | refine Ext.drewN ?_ _ | refine Ext.setCell ?_ (by first | (simp; done) | (simp; omega) | omega) _ | refine Ext.trans ?_ (by assumption))))) (ID.out.up ((((((((((((hxM.trans hxh1).trans hxh2).trans hxc1).trans hxc2).trans hxP).trans hxwb10).trans hxo1).trans hxo2).trans hxt1).trans hxF).trans hx9).trans (by repeat (first | exact Ext.refl _ | assumption | refine Ext.alloc ?_ _ | refine Ext.drew ?_ | refine Ext.drewN ?_ _ | refine Ext.setCell ?_ (by first | (simp; done) | (simp; omega) | omega) _ | refine Ext.trans ?_ (by assumption)))))) ?_
      rintro e wu1 ⟨rfl, hxu1⟩
      rw [k2, k3]
      have hz16 : w9.heap.size ≤ wu1.heap.size := hxu1.size
      clear ba0 ba1 bag
      have ba := Hba.out.ext hxu1
      clear Hba
      have ba0 := ba.at0
      have ba1 := ba.at1
      have bag := ba.1
      have Hba := Lib.hid ba
      clear ba
      clear bb0 bb1 bbg
      have bb := Hbb.out.ext hxu1
      clear Hbb
      have bb0 := bb.at0
      have bb1 := bb.at1
      have bbg := bb.1
      have Hbb := Lib.hid bb
      clear bb
      have k7 : decide (0 < chV n) = true := decide_eq_true k6
      go_wp2_with fail
      go_ret
      exact ⟨rfl, (((((((((((((((hxN.trans hxwb2).trans hxD).trans hxM).trans hxh1).trans hxh2).trans hxc1).trans hxc2).trans hxP).trans hxwb10).trans hxo1).trans hxo2).trans hxt1).trans hxF).trans hx9).trans hxu1)⟩
    · rw [h7]
      obtain ⟨xn, rfl⟩ := Int.eq_ofNat_of_zero_le x0
      obtain ⟨yn, rfl⟩ := Int.eq_ofNat_of_zero_le y0
      rw [Int.toNat_natCast, Int.toNat_natCast] at hxy
      obtain ⟨b2, o2, rfl, _, hb2, h2x⟩ := IF.out.at_ (i := xn) (by omega)
      obtain ⟨b3, o3, e3, _, hb3, h2y⟩ := IF.out.at_ (i := yn) (by omega)
      injection e3 with e3
      injection e3 with e3 e4
      subst e3 e4
      have n1 : ¬ (firL a).length ≤ xn := by omega
      have n2 : ¬ (firL a).length ≤ yn := by omega
      have d1 : decide (((firL a).length : Int) ≤ (xn : Int)) = false := decide_eq_false (by omega)
      have d2 : decide (((firL a).length : Int) ≤ (yn : Int)) = false := decide_eq_false (by omega)
      have d3 : decide (inAt (firL a) yn ≤ inAt (firL a) xn) = false := decide_eq_false (by omega)
      have c1 : ¬ ((firL a).length : Int) ≤ (xn : Int) := by omega
      have c2 : ¬ ((firL a).length : Int) ≤ (yn : Int) := by omega
      have c3 : ¬ inAt (firL a) yn ≤ inAt (firL a) xn := by omega
      go_wp2_with fail
      (refine wp_region_onto prog_mixed (by kernel_rfl) ?_; (repeat (go_big_quiet_step ((fail)))); refine onto_end ?_; intro w9 hx9)
      have hz15 : wF.heap.size ≤ w9.heap.size := hx9.size
      clear ba0 ba1 bag
      have ba := Hba.out.ext hx9
      clear Hba
      have ba0 := ba.at0
      have ba1 := ba.at1
      have bag := ba.1
      have Hba := Lib.hid ba
      clear ba
      clear bb0 bb1 bbg
      have bb := Hbb.out.ext hx9
      clear Hbb
      have bb0 := bb.at0
      have bb1 := bb.at1
      have bbg := bb.1
      have Hbb := Lib.hid bb
      clear bb
      by_cases h1 : codeE n true = 0
      case neg =>
        have e1 := firE_no h1
        rw [codeE_ch n] at e1 h1
        have h1f : (chE n == 0) = false := by simpa using h1
        have e2 : (firE n == chE n) = true := by rw [e1]; simp
        go_wp2_with fail
        go_ret
        exact ⟨rfl, (((((((((((((((hxN.trans hxwb2).trans hxD).trans hxM).trans hxh1).trans hxh2).trans hxc1).trans hxc2).trans hxP).trans hxwb10).trans hxo1).trans hxo2).trans hxt1).trans hxF).trans hx9).trans (by repeat (first | exact Ext.refl _ | assumption | refine Ext.alloc ?_ _ | refine Ext.drew ?_ | refine Ext.drewN ?_ _ | refine Ext.setCell ?_ (by first | (simp; done) | (simp; omega) | omega) _ | refine Ext.trans ?_ (by assumption))))⟩
      have e0 : chE n = 0 := by rw [← codeE_ch n]; exact h1
      by_cases h2 : Sol n
      case neg =>
        have e3 := firE_none h1 h2
        have e4 : hasV n = false := by rw [hasV_ok h1, B_false h2]
        go_wp2_with fail
        go_ret
        exact ⟨rfl, (((((((((((((((hxN.trans hxwb2).trans hxD).trans hxM).trans hxh1).trans hxh2).trans hxc1).trans hxc2).trans hxP).trans hxwb10).trans hxo1).trans hxo2).trans hxt1).trans hxF).trans hx9).trans (by repeat (first | exact Ext.refl _ | assumption | refine Ext.alloc ?_ _ | refine Ext.drew ?_ | refine Ext.drewN ?_ _ | refine Ext.setCell ?_ (by first | (simp; done) | (simp; omega) | omega) _ | refine Ext.trans ?_ (by assumption))))⟩
      have e4 : hasV n = true := by rw [hasV_ok h1, B_true h2]
      obtain ⟨k1, k2, k3, -, -, k6⟩ := first_sol h1 h2
      go_wp2_with fail
      refine Calls.mono (impl_DoSolve _ _ _ n (firL n) _ (HN.out.up ((((((((((((((hxwb2.trans hxD).trans hxM).trans hxh1).trans hxh2).trans hxc1).trans hxc2).trans hxP).trans hxwb10).trans hxo1).trans hxo2).trans hxt1).trans hxF).trans hx9).trans (by repeat (first | exact Ext.refl _ | assumption | refine Ext.alloc ?_ _ | refine Ext.drew ?_ | refine Ext.drewN ?_ _ | refine Ext.setCell ?_ (by first | (simp; done) | (simp; omega) | omega) _ | refine Ext.trans ?_ (by assumption))))) (ID.out.up ((((((((((((hxM.trans hxh1).trans hxh2).trans hxc1).trans hxc2).trans hxP).trans hxwb10).trans hxo1).trans hxo2).trans hxt1).trans hxF).trans hx9).trans (by repeat (first | exact Ext.refl _ | assumption | refine Ext.alloc ?_ _ | refine Ext.drew ?_ | refine Ext.drewN ?_ _ | refine Ext.setCell ?_ (by first | (simp; done) | (simp; omega) | omega) _ | refine Ext.trans ?_ (by assumption)))))) ?_
      rintro e wu1 ⟨rfl, hxu1⟩
      rw [k2, k3]
      have hz16 : w9.heap.size ≤ wu1.heap.size := hxu1.size
      clear ba0 ba1 bag
      have ba := Hba.out.ext hxu1
      clear Hba
      have ba0 := ba.at0
      have ba1 := ba.at1
      have bag := ba.1
      have Hba := Lib.hid ba
      clear ba
      clear bb0 bb1 bbg
      have bb := Hbb.out.ext hxu1
      clear Hbb
      have bb0 := bb.at0
      have bb1 := bb.at1
      have bbg := bb.1
      have Hbb := Lib.hid bb
      clear bb
      have k7 : decide (0 < chV n) = true := decide_eq_true k6
      go_wp2_with fail
      go_ret
      exact ⟨rfl, (((((((((((((((hxN.trans hxwb2).trans hxD).trans hxM).trans hxh1).trans hxh2).trans hxc1).trans hxc2).trans hxP).trans hxwb10).trans hxo1).trans hxo2).trans hxt1).trans hxF).trans hx9).trans hxu1)⟩
  · have h5f : (ordE a x y == 0 && ordV a x y) = false := by
      cases hv : (ordE a x y == 0 && ordV a x y) with
      | false => rfl
      | true =>
        rw [Bool.and_eq_true, beq_iff_eq] at hv
        exact absurd hv h5
    by_cases h6 : ordE a x y = 0
    · have h7 : ordV a x y = false := by
        cases hv : ordV a x y with
        | false => rfl
        | true => exact absurd ⟨h6, hv⟩ h5
      clear h5 h5f
      by_cases h1 : codeE n true = 0
      case neg =>
        have e1 := firE_no h1
        rw [codeE_ch n] at e1 h1
        have h1f : (chE n == 0) = false := by simpa using h1
        have e2 : (firE n == chE n) = true := by rw [e1]; simp
        go_wp2_with fail
        go_ret
        exact ⟨rfl, (((((((((((((hxN.trans hxwb2).trans hxD).trans hxM).trans hxh1).trans hxh2).trans hxc1).trans hxc2).trans hxP).trans hxwb10).trans hxo1).trans hxo2).trans hxt1).trans (by repeat (first | exact Ext.refl _ | assumption | refine Ext.alloc ?_ _ | refine Ext.drew ?_ | refine Ext.drewN ?_ _ | refine Ext.setCell ?_ (by first | (simp; done) | (simp; omega) | omega) _ | refine Ext.trans ?_ (by assumption))))⟩
      have e0 : chE n = 0 := by rw [← codeE_ch n]; exact h1
      by_cases h2 : Sol n
      case neg =>
        have e3 := firE_none h1 h2
        have e4 : hasV n = false := by rw [hasV_ok h1, B_false h2]
        go_wp2_with fail
        go_ret
        exact ⟨rfl, (((((((((((((hxN.trans hxwb2).trans hxD).trans hxM).trans hxh1).trans hxh2).trans hxc1).trans hxc2).trans hxP).trans hxwb10).trans hxo1).trans hxo2).trans hxt1).trans (by repeat (first | exact Ext.refl _ | assumption | refine Ext.alloc ?_ _ | refine Ext.drew ?_ | refine Ext.drewN ?_ _ | refine Ext.setCell ?_ (by first | (simp; done) | (simp; omega) | omega) _ | refine Ext.trans ?_ (by assumption))))⟩
      have e4 : hasV n = true := by rw [hasV_ok h1, B_true h2]
      obtain ⟨k1, k2, k3, -, -, k6⟩ := first_sol h1 h2
      go_wp2_with fail
      refine Calls.mono (impl_DoSolve _ _ _ n (firL n) _ (HN.out.up ((((((((((((hxwb2.trans hxD).trans hxM).trans hxh1).trans hxh2).trans hxc1).trans hxc2).trans hxP).trans hxwb10).trans hxo1).trans hxo2).trans hxt1).trans (by repeat (first | exact Ext.refl _ | assumption | refine Ext.alloc ?_ _ | refine Ext.drew ?_ | refine Ext.drewN ?_ _ | refine Ext.setCell ?_ (by first | (simp; done) | (simp; omega) | omega) _ | refine Ext.trans ?_ (by assumption))))) (ID.out.up ((((((((((hxM.trans hxh1).trans hxh2).trans hxc1).trans hxc2).trans hxP).trans hxwb10).trans hxo1).trans hxo2).trans hxt1).trans (by repeat (first | exact Ext.refl _ | assumption | refine Ext.alloc ?_ _ | refine Ext.drew ?_ | refine Ext.drewN ?_ _ | refine Ext.setCell ?_ (by first | (simp; done) | (simp; omega) | omega) _ | refine Ext.trans ?_ (by assumption)))))) ?_
      rintro e wu1 ⟨rfl, hxu1⟩
      rw [k2, k3]
      have hz14 : wt1.heap.size ≤ wu1.heap.size := hxu1.size
      clear ba0 ba1 bag
      have ba := Hba.out.ext hxu1
      clear Hba
      have ba0 := ba.at0
      have ba1 := ba.at1
      have bag := ba.1
      have Hba := Lib.hid ba
      clear ba
      clear bb0 bb1 bbg
      have bb := Hbb.out.ext hxu1
      clear Hbb
      have bb0 := bb.at0
      have bb1 := bb.at1
      have bbg := bb.1
      have Hbb := Lib.hid bb
      clear bb
      have k7 : decide (0 < chV n) = true := decide_eq_true k6
      go_wp2_with fail
      go_ret
      exact ⟨rfl, (((((((((((((hxN.trans hxwb2).trans hxD).trans hxM).trans hxh1).trans hxh2).trans hxc1).trans hxc2).trans hxP).trans hxwb10).trans hxo1).trans hxo2).trans hxt1).trans hxu1)⟩
    · have h7 : (ordE a x y == 0) = false := by simpa using h6
      clear h5 h5f
      by_cases h1 : codeE n true = 0
      case neg =>
        have e1 := firE_no h1
        rw [codeE_ch n] at e1 h1
        have h1f : (chE n == 0) = false := by simpa using h1
        have e2 : (firE n == chE n) = true := by rw [e1]; simp
        go_wp2_with fail
        go_ret
        exact ⟨rfl, (((((((((((((hxN.trans hxwb2).trans hxD).trans hxM).trans hxh1).trans hxh2).trans hxc1).trans hxc2).trans hxP).trans hxwb10).trans hxo1).trans hxo2).trans hxt1).trans (by repeat (first | exact Ext.refl _ | assumption | refine Ext.alloc ?_ _ | refine Ext.drew ?_ | refine Ext.drewN ?_ _ | refine Ext.setCell ?_ (by first | (simp; done) | (simp; omega) | omega) _ | refine Ext.trans ?_ (by assumption))))⟩
      have e0 : chE n = 0 := by rw [← codeE_ch n]; exact h1
      by_cases h2 : Sol n
      case neg =>
        have e3 := firE_none h1 h2
        have e4 : hasV n = false := by rw [hasV_ok h1, B_false h2]
        go_wp2_with fail
        go_ret
        exact ⟨rfl, (((((((((((((hxN.trans hxwb2).trans hxD).trans hxM).trans hxh1).trans hxh2).trans hxc1).trans hxc2).trans hxP).trans hxwb10).trans hxo1).trans hxo2).trans hxt1).trans (by repeat (first | exact Ext.refl _ | assumption | refine Ext.alloc ?_ _ | refine Ext.drew ?_ | refine Ext.drewN ?_ _ | refine Ext.setCell ?_ (by first | (simp; done) | (simp; omega) | omega) _ | refine Ext.trans ?_ (by assumption))))⟩
      have e4 : hasV n = true := by rw [hasV_ok h1, B_true h2]
      obtain ⟨k1, k2, k3, -, -, k6⟩ := first_sol h1 h2
      go_wp2_with fail
      refine Calls.mono (impl_DoSolve _ _ _ n (firL n) _ (HN.out.up ((((((((((((hxwb2.trans hxD).trans hxM).trans hxh1).trans hxh2).trans hxc1).trans hxc2).trans hxP).trans hxwb10).trans hxo1).trans hxo2).trans hxt1).trans (by repeat (first | exact Ext.refl _ | assumption | refine Ext.alloc ?_ _ | refine Ext.drew ?_ | refine Ext.drewN ?_ _ | refine Ext.setCell ?_ (by first | (simp; done) | (simp; omega) | omega) _ | refine Ext.trans ?_ (by assumption))))) (ID.out.up ((((((((((hxM.trans hxh1).trans hxh2).trans hxc1).trans hxc2).trans hxP).trans hxwb10).trans hxo1).trans hxo2).trans hxt1).trans (by repeat (first | exact Ext.refl _ | assumption | refine Ext.alloc ?_ _ | refine Ext.drew ?_ | refine Ext.drewN ?_ _ | refine Ext.setCell ?_ (by first | (simp; done) | (simp; omega) | omega) _ | refine Ext.trans ?_ (by assumption)))))) ?_
      rintro e wu1 ⟨rfl, hxu1⟩
      rw [k2, k3]
      have hz14 : wt1.heap.size ≤ wu1.heap.size := hxu1.size
      clear ba0 ba1 bag
      have ba := Hba.out.ext hxu1
      clear Hba
      have ba0 := ba.at0
      have ba1 := ba.at1
      have bag := ba.1
      have Hba := Lib.hid ba
      clear ba
      clear bb0 bb1 bbg
      have bb := Hbb.out.ext hxu1
      clear Hbb
      have bb0 := bb.at0
      have bb1 := bb.at1
      have bbg := bb.1
      have Hbb := Lib.hid bb
      clear bb
      have k7 : decide (0 < chV n) = true := decide_eq_true k6
      go_wp2_with fail
      go_ret
      exact ⟨rfl, (((((((((((((hxN.trans hxwb2).trans hxD).trans hxM).trans hxh1).trans hxh2).trans hxc1).trans hxc2).trans hxP).trans hxwb10).trans hxo1).trans hxo2).trans hxt1).trans hxu1)⟩
end Go.Proofs.Ytfajmlkiidnhlaa
