/- The law FnTop, walked out of the contracts of the draws, the program's functions and the reference's. -/
import Derived.Test.YtfajmlkiidnhlaaGreatQ3Yc
import Derived.Test.YtfajmlkiidnhlaaGreatQ3Yb
import Derived.Test.YtfajmlkiidnhlaaGreatQ3Cf
import Derived.Test.YtfajmlkiidnhlaaGreatQ3Ha
import Derived.Test.YtfajmlkiidnhlaaGreatQ3K
import Derived.Test.YtfajmlkiidnhlaaGreatQ3Ic
import Derived.Test.YtfajmlkiidnhlaaGreatQ3St
import Derived.Test.YtfajmlkiidnhlaaGreatQ3Hb
import Derived.Test.YtfajmlkiidnhlaaGreatQ3Ny
import Derived.Deep.RegionHeld3
import Derived.IntWalk
namespace Go.Proofs.YtfajmlkiidnhlaaGreat
set_option linter.unusedVariables false
set_option linter.unusedSimpArgs false
open Go.RowKit
attribute [local go_sem] cell_onto

theorem NewNet3.plainT {m : Net} {x c0 : Int} {w w' : World} {e : Ending} (h : NewNet3 m x c0 w e w') : ∃ As cs Ak ck, e = .returned (.tuple #[.agg #[.slice As m.sets.length cs, .slice Ak m.links.length ck], .int .i64 x, .int .i64 c0]) ∧ Ext w w' ∧ Hid (NetIn w' (.slice As m.sets.length cs) (.slice Ak m.links.length ck) m) := by
  obtain ⟨s, k, he, hx, h1⟩ := h
  have h2 := h1.at_.all (Nat.le_refl _)
  obtain ⟨As, cs, Ak, ck, rfl, rfl⟩ := h2.out2
  exact ⟨As, cs, Ak, ck, he, hx, h2⟩
set_option maxRecDepth 100000 in
set_option maxHeartbeats 8000000 in
theorem law_FnTop (v : Value) (cn : Nat) (w : World) (h : Byts w v cn) : Calls Tryz.prog 3 #[v] w (RetX (.bool true) w) := by
  obtain ⟨A, c, rfl⟩ := h.len
  have HX := Lib.hid h
  clear h
  go_enter Tryz.func3, Tryz.ntmps3
  go_wp2_with fail
  by_cases hbig : cn ≤ 4096
  case neg =>
    refine Calls.mono (laws_big_yes cn A c w hbig) ?_
    rintro e w' ⟨rfl, rfl⟩
    go_wp2_with fail
    go_ret
    exact ⟨rfl, (by repeat (first | exact Ext.refl _ | assumption | refine Ext.alloc ?_ _ | refine Ext.drew ?_ | refine Ext.drewN ?_ _ | refine Ext.setCell ?_ (by first | (simp; done) | (simp; omega) | omega) _ | refine Ext.trans ?_ (by assumption)))⟩
  have H := Lib.hid (HX.out.few hbig)
  refine Calls.mono (laws_big_no cn A c w hbig) ?_
  rintro e w' ⟨rfl, rfl⟩
  clear HX hbig
  go_wp2_with fail
  refine Calls.mono (spec_DrawFindConflict cn _ _ (H.out.up (by repeat (first | exact Ext.refl _ | assumption | refine Ext.alloc ?_ _ | refine Ext.drew ?_ | refine Ext.drewN ?_ _ | refine Ext.setCell ?_ (by first | (simp; done) | (simp; omega) | omega) _ | refine Ext.trans ?_ (by assumption))))) ?_
  intro e wN hp
  obtain ⟨Ns, Ncs, Nk, Nck, n, rfl, hxN, HN⟩ := hp.plain
  clear hp
  have hz1 : w.heap.size ≤ wN.heap.size := hxN.size
  obtain ⟨wb2, hwb2⟩ : ∃ x : World, x = wN.alloc (.cells #[.slice Ns n.sets.length Ncs, .slice Nk n.links.length Nck] 27) := ⟨_, rfl⟩
  have hxwb2 : Ext wN wb2 := by rw [hwb2]; exact (by repeat (first | exact Ext.refl _ | assumption | refine Ext.alloc ?_ _ | refine Ext.drew ?_ | refine Ext.drewN ?_ _ | refine Ext.setCell ?_ (by first | (simp; done) | (simp; omega) | omega) _ | refine Ext.trans ?_ (by assumption)))
  have Hba := Lib.hid (show Boxed wb2 wN.heap.size [.slice Ns n.sets.length Ncs, .slice Nk n.links.length Nck] from by rw [hwb2]; exact Boxed.new wN [.slice Ns n.sets.length Ncs, .slice Nk n.links.length Nck] 27)
  go_wp2_with fail
  rw [← hwb2]
  clear hwb2
  have hz2 : wN.heap.size ≤ wb2.heap.size := hxwb2.size
  have ba0 := Hba.out.at0
  have ba1 := Hba.out.at1
  have bag := Hba.out.1
  refine Calls.mono (impl_HasSolution _ _ n _ (HN.out.up (hxwb2.trans (by repeat (first | exact Ext.refl _ | assumption | refine Ext.alloc ?_ _ | refine Ext.drew ?_ | refine Ext.drewN ?_ _ | refine Ext.setCell ?_ (by first | (simp; done) | (simp; omega) | omega) _ | refine Ext.trans ?_ (by assumption)))))) ?_
  rintro e wh1 ⟨rfl, hxh1⟩
  have hz3 : wb2.heap.size ≤ wh1.heap.size := hxh1.size
  clear ba0 ba1 bag
  have ba := Hba.out.ext hxh1
  clear Hba
  have ba0 := ba.at0
  have ba1 := ba.at1
  have bag := ba.1
  have Hba := Lib.hid ba
  clear ba
  go_wp2_with fail
  refine Calls.mono (spec_HasSolution _ _ n _ (HN.out.up ((hxwb2.trans hxh1).trans (by repeat (first | exact Ext.refl _ | assumption | refine Ext.alloc ?_ _ | refine Ext.drew ?_ | refine Ext.drewN ?_ _ | refine Ext.setCell ?_ (by first | (simp; done) | (simp; omega) | omega) _ | refine Ext.trans ?_ (by assumption)))))) ?_
  rintro e wh2 ⟨rfl, hxh2⟩
  have hz4 : wh1.heap.size ≤ wh2.heap.size := hxh2.size
  clear ba0 ba1 bag
  have ba := Hba.out.ext hxh2
  clear Hba
  have ba0 := ba.at0
  have ba1 := ba.at1
  have bag := ba.1
  have Hba := Lib.hid ba
  clear ba
  go_wp2_with fail
  refine Calls.mono (impl_FindConflict _ _ n _ (HN.out.up (((hxwb2.trans hxh1).trans hxh2).trans (by repeat (first | exact Ext.refl _ | assumption | refine Ext.alloc ?_ _ | refine Ext.drew ?_ | refine Ext.drewN ?_ _ | refine Ext.setCell ?_ (by first | (simp; done) | (simp; omega) | omega) _ | refine Ext.trans ?_ (by assumption)))))) ?_
  intro e wC hp
  obtain ⟨Ca, Cc, rfl, hxC, IC⟩ := hp.plain
  clear hp
  have hz5 : wh2.heap.size ≤ wC.heap.size := hxC.size
  clear ba0 ba1 bag
  have ba := Hba.out.ext hxC
  clear Hba
  have ba0 := ba.at0
  have ba1 := ba.at1
  have bag := ba.1
  have Hba := Lib.hid ba
  clear ba
  go_wp2_with fail
  refine Calls.mono (spec_FindConflict _ _ n _ (HN.out.up ((((hxwb2.trans hxh1).trans hxh2).trans hxC).trans (by repeat (first | exact Ext.refl _ | assumption | refine Ext.alloc ?_ _ | refine Ext.drew ?_ | refine Ext.drewN ?_ _ | refine Ext.setCell ?_ (by first | (simp; done) | (simp; omega) | omega) _ | refine Ext.trans ?_ (by assumption)))))) ?_
  intro e wK hp
  obtain ⟨Ka, Kc, rfl, hxK, IK⟩ := hp.plain
  clear hp
  have hz6 : wC.heap.size ≤ wK.heap.size := hxK.size
  clear ba0 ba1 bag
  have ba := Hba.out.ext hxK
  clear Hba
  have ba0 := ba.at0
  have ba1 := ba.at1
  have bag := ba.1
  have Hba := Lib.hid ba
  clear ba
  go_wp2_with fail
  refine Calls.mono (impl_SmallestRepair _ _ n _ (HN.out.up (((((hxwb2.trans hxh1).trans hxh2).trans hxC).trans hxK).trans (by repeat (first | exact Ext.refl _ | assumption | refine Ext.alloc ?_ _ | refine Ext.drew ?_ | refine Ext.drewN ?_ _ | refine Ext.setCell ?_ (by first | (simp; done) | (simp; omega) | omega) _ | refine Ext.trans ?_ (by assumption)))))) ?_
  intro e wR hp
  obtain ⟨Ra, Rc, rfl, hxR, IR⟩ := hp.plain
  clear hp
  have hz7 : wK.heap.size ≤ wR.heap.size := hxR.size
  clear ba0 ba1 bag
  have ba := Hba.out.ext hxR
  clear Hba
  have ba0 := ba.at0
  have ba1 := ba.at1
  have bag := ba.1
  have Hba := Lib.hid ba
  clear ba
  go_wp2_with fail
  refine Calls.mono (spec_SmallestRepair _ _ n _ (HN.out.up ((((((hxwb2.trans hxh1).trans hxh2).trans hxC).trans hxK).trans hxR).trans (by repeat (first | exact Ext.refl _ | assumption | refine Ext.alloc ?_ _ | refine Ext.drew ?_ | refine Ext.drewN ?_ _ | refine Ext.setCell ?_ (by first | (simp; done) | (simp; omega) | omega) _ | refine Ext.trans ?_ (by assumption)))))) ?_
  intro e wM hp
  obtain ⟨Ma, Mc, rfl, hxM, IM⟩ := hp.plain
  clear hp
  have hz8 : wR.heap.size ≤ wM.heap.size := hxM.size
  clear ba0 ba1 bag
  have ba := Hba.out.ext hxM
  clear Hba
  have ba0 := ba.at0
  have ba1 := ba.at1
  have bag := ba.1
  have Hba := Lib.hid ba
  clear ba
  go_wp2_with fail
  refine Calls.mono (impl_FirstSolution _ _ n _ (HN.out.up (((((((hxwb2.trans hxh1).trans hxh2).trans hxC).trans hxK).trans hxR).trans hxM).trans (by repeat (first | exact Ext.refl _ | assumption | refine Ext.alloc ?_ _ | refine Ext.drew ?_ | refine Ext.drewN ?_ _ | refine Ext.setCell ?_ (by first | (simp; done) | (simp; omega) | omega) _ | refine Ext.trans ?_ (by assumption)))))) ?_
  intro e wD hp
  obtain ⟨Da, Dc, rfl, hxD, ID⟩ := hp.plain
  clear hp
  have hz9 : wM.heap.size ≤ wD.heap.size := hxD.size
  clear ba0 ba1 bag
  have ba := Hba.out.ext hxD
  clear Hba
  have ba0 := ba.at0
  have ba1 := ba.at1
  have bag := ba.1
  have Hba := Lib.hid ba
  clear ba
  go_wp2_with fail
  refine Calls.mono (spec_FirstSolution _ _ n _ (HN.out.up ((((((((hxwb2.trans hxh1).trans hxh2).trans hxC).trans hxK).trans hxR).trans hxM).trans hxD).trans (by repeat (first | exact Ext.refl _ | assumption | refine Ext.alloc ?_ _ | refine Ext.drew ?_ | refine Ext.drewN ?_ _ | refine Ext.setCell ?_ (by first | (simp; done) | (simp; omega) | omega) _ | refine Ext.trans ?_ (by assumption)))))) ?_
  intro e wE hp
  obtain ⟨Ea, Ec, rfl, hxE, IE⟩ := hp.plain
  clear hp
  have hz10 : wD.heap.size ≤ wE.heap.size := hxE.size
  clear ba0 ba1 bag
  have ba := Hba.out.ext hxE
  clear Hba
  have ba0 := ba.at0
  have ba1 := ba.at1
  have bag := ba.1
  have Hba := Lib.hid ba
  clear ba
  go_wp2_with fail
  refine Calls.mono (laws_likeInts _ _ (fcL n) _ (IC.out.up (((((hxK.trans hxR).trans hxM).trans hxD).trans hxE).trans (by repeat (first | exact Ext.refl _ | assumption | refine Ext.alloc ?_ _ | refine Ext.drew ?_ | refine Ext.drewN ?_ _ | refine Ext.setCell ?_ (by first | (simp; done) | (simp; omega) | omega) _ | refine Ext.trans ?_ (by assumption))))) (IK.out.up ((((hxR.trans hxM).trans hxD).trans hxE).trans (by repeat (first | exact Ext.refl _ | assumption | refine Ext.alloc ?_ _ | refine Ext.drew ?_ | refine Ext.drewN ?_ _ | refine Ext.setCell ?_ (by first | (simp; done) | (simp; omega) | omega) _ | refine Ext.trans ?_ (by assumption)))))) ?_
  rintro e wt1 ⟨rfl, hxt1⟩
  have hz11 : wE.heap.size ≤ wt1.heap.size := hxt1.size
  clear ba0 ba1 bag
  have ba := Hba.out.ext hxt1
  clear Hba
  have ba0 := ba.at0
  have ba1 := ba.at1
  have bag := ba.1
  have Hba := Lib.hid ba
  clear ba
  go_wp2_with fail
  refine Calls.mono (laws_likeInts _ _ (smL n) _ (IR.out.up ((((hxM.trans hxD).trans hxE).trans hxt1).trans (by repeat (first | exact Ext.refl _ | assumption | refine Ext.alloc ?_ _ | refine Ext.drew ?_ | refine Ext.drewN ?_ _ | refine Ext.setCell ?_ (by first | (simp; done) | (simp; omega) | omega) _ | refine Ext.trans ?_ (by assumption))))) (IM.out.up (((hxD.trans hxE).trans hxt1).trans (by repeat (first | exact Ext.refl _ | assumption | refine Ext.alloc ?_ _ | refine Ext.drew ?_ | refine Ext.drewN ?_ _ | refine Ext.setCell ?_ (by first | (simp; done) | (simp; omega) | omega) _ | refine Ext.trans ?_ (by assumption)))))) ?_
  rintro e wt2 ⟨rfl, hxt2⟩
  have hz12 : wt1.heap.size ≤ wt2.heap.size := hxt2.size
  clear ba0 ba1 bag
  have ba := Hba.out.ext hxt2
  clear Hba
  have ba0 := ba.at0
  have ba1 := ba.at1
  have bag := ba.1
  have Hba := Lib.hid ba
  clear ba
  go_wp2_with fail
  refine Calls.mono (laws_likeInts _ _ (firL n) _ (ID.out.up (((hxE.trans hxt1).trans hxt2).trans (by repeat (first | exact Ext.refl _ | assumption | refine Ext.alloc ?_ _ | refine Ext.drew ?_ | refine Ext.drewN ?_ _ | refine Ext.setCell ?_ (by first | (simp; done) | (simp; omega) | omega) _ | refine Ext.trans ?_ (by assumption))))) (IE.out.up ((hxt1.trans hxt2).trans (by repeat (first | exact Ext.refl _ | assumption | refine Ext.alloc ?_ _ | refine Ext.drew ?_ | refine Ext.drewN ?_ _ | refine Ext.setCell ?_ (by first | (simp; done) | (simp; omega) | omega) _ | refine Ext.trans ?_ (by assumption)))))) ?_
  rintro e wt3 ⟨rfl, hxt3⟩
  have hz13 : wt2.heap.size ≤ wt3.heap.size := hxt3.size
  clear ba0 ba1 bag
  have ba := Hba.out.ext hxt3
  clear Hba
  have ba0 := ba.at0
  have ba1 := ba.at1
  have bag := ba.1
  have Hba := Lib.hid ba
  clear ba
  by_cases h1 : codeE n true = 0
  case neg =>
    have h1f : (codeE n true == 0) = false := by simpa using h1
    go_wp2_with fail
    go_ret
    exact ⟨rfl, (((((((((((((hxN.trans hxwb2).trans hxh1).trans hxh2).trans hxC).trans hxK).trans hxR).trans hxM).trans hxD).trans hxE).trans hxt1).trans hxt2).trans hxt3).trans (by repeat (first | exact Ext.refl _ | assumption | refine Ext.alloc ?_ _ | refine Ext.drew ?_ | refine Ext.drewN ?_ _ | refine Ext.setCell ?_ (by first | (simp; done) | (simp; omega) | omega) _ | refine Ext.trans ?_ (by assumption))))⟩
  by_cases h2 : Sol n
  · have e4 : hasV n = true := by rw [hasV_ok h1, B_true h2]
    have Hh1 := Lib.hid h1
    obtain ⟨k1, k2, k3, -, -, -⟩ := first_sol h1 h2
    have Hk2 := Lib.hid k2
    have Hk3 := Lib.hid k3
    clear k2 k3
    go_wp2_with fail
    refine Calls.mono (impl_DoSolve _ _ _ n (firL n) _ (HN.out.up ((((((((((((hxwb2.trans hxh1).trans hxh2).trans hxC).trans hxK).trans hxR).trans hxM).trans hxD).trans hxE).trans hxt1).trans hxt2).trans hxt3).trans (by repeat (first | exact Ext.refl _ | assumption | refine Ext.alloc ?_ _ | refine Ext.drew ?_ | refine Ext.drewN ?_ _ | refine Ext.setCell ?_ (by first | (simp; done) | (simp; omega) | omega) _ | refine Ext.trans ?_ (by assumption))))) (ID.out.up ((((hxE.trans hxt1).trans hxt2).trans hxt3).trans (by repeat (first | exact Ext.refl _ | assumption | refine Ext.alloc ?_ _ | refine Ext.drew ?_ | refine Ext.drewN ?_ _ | refine Ext.setCell ?_ (by first | (simp; done) | (simp; omega) | omega) _ | refine Ext.trans ?_ (by assumption)))))) ?_
    rintro e wu1 ⟨rfl, hxu1⟩
    rw [Hk2.out, Hk3.out]
    have hz14 : wt3.heap.size ≤ wu1.heap.size := hxu1.size
    clear ba0 ba1 bag
    have ba := Hba.out.ext hxu1
    clear Hba
    have ba0 := ba.at0
    have ba1 := ba.at1
    have bag := ba.1
    have Hba := Lib.hid ba
    clear ba
    go_wp2_with fail
    refine Calls.mono (impl_NarrowAll _ _ n _ (HN.out.up (((((((((((((hxwb2.trans hxh1).trans hxh2).trans hxC).trans hxK).trans hxR).trans hxM).trans hxD).trans hxE).trans hxt1).trans hxt2).trans hxt3).trans hxu1).trans (by repeat (first | exact Ext.refl _ | assumption | refine Ext.alloc ?_ _ | refine Ext.drew ?_ | refine Ext.drewN ?_ _ | refine Ext.setCell ?_ (by first | (simp; done) | (simp; omega) | omega) _ | refine Ext.trans ?_ (by assumption)))))) ?_
    intro e wP hp
    obtain ⟨Ps, Pcs, Pk, Pck, rfl, hxP, HP⟩ := hp.plainT
    clear hp
    have hz15 : wu1.heap.size ≤ wP.heap.size := hxP.size
    clear ba0 ba1 bag
    have ba := Hba.out.ext hxP
    clear Hba
    have ba0 := ba.at0
    have ba1 := ba.at1
    have bag := ba.1
    have Hba := Lib.hid ba
    clear ba
    rcases top_nar Hh1.out h2 with q1 | ⟨q1, q2, q3⟩
    · go_wp2_with fail
      go_ret
      exact ⟨rfl, (((((((((((((((hxN.trans hxwb2).trans hxh1).trans hxh2).trans hxC).trans hxK).trans hxR).trans hxM).trans hxD).trans hxE).trans hxt1).trans hxt2).trans hxt3).trans hxu1).trans hxP).trans (by repeat (first | exact Ext.refl _ | assumption | refine Ext.alloc ?_ _ | refine Ext.drew ?_ | refine Ext.drewN ?_ _ | refine Ext.setCell ?_ (by first | (simp; done) | (simp; omega) | omega) _ | refine Ext.trans ?_ (by assumption))))⟩
    · have Hq2 := Lib.hid q2
      have Hq3 := Lib.hid q3
      clear q2 q3
      obtain ⟨wb16, hwb16⟩ : ∃ x : World, x = wP.alloc (.cells #[.slice Ps (naV n).sets.length Pcs, .slice Pk (naV n).links.length Pck] 27) := ⟨_, rfl⟩
      have hxwb16 : Ext wP wb16 := by rw [hwb16]; exact (by repeat (first | exact Ext.refl _ | assumption | refine Ext.alloc ?_ _ | refine Ext.drew ?_ | refine Ext.drewN ?_ _ | refine Ext.setCell ?_ (by first | (simp; done) | (simp; omega) | omega) _ | refine Ext.trans ?_ (by assumption)))
      have Hbb := Lib.hid (show Boxed wb16 wP.heap.size [.slice Ps (naV n).sets.length Pcs, .slice Pk (naV n).links.length Pck] from by rw [hwb16]; exact Boxed.new wP [.slice Ps (naV n).sets.length Pcs, .slice Pk (naV n).links.length Pck] 27)
      go_wp2_with fail
      rw [← hwb16]
      clear hwb16
      have hz16 : wP.heap.size ≤ wb16.heap.size := hxwb16.size
      clear ba0 ba1 bag
      have ba := Hba.out.ext hxwb16
      clear Hba
      have ba0 := ba.at0
      have ba1 := ba.at1
      have bag := ba.1
      have Hba := Lib.hid ba
      clear ba
      have bb0 := Hbb.out.at0
      have bb1 := Hbb.out.at1
      have bbg := Hbb.out.1
      refine Calls.mono (impl_DoSolve _ _ _ (naV n) (firL n) _ (HP.out.up (hxwb16.trans (by repeat (first | exact Ext.refl _ | assumption | refine Ext.alloc ?_ _ | refine Ext.drew ?_ | refine Ext.drewN ?_ _ | refine Ext.setCell ?_ (by first | (simp; done) | (simp; omega) | omega) _ | refine Ext.trans ?_ (by assumption))))) (ID.out.up (((((((hxE.trans hxt1).trans hxt2).trans hxt3).trans hxu1).trans hxP).trans hxwb16).trans (by repeat (first | exact Ext.refl _ | assumption | refine Ext.alloc ?_ _ | refine Ext.drew ?_ | refine Ext.drewN ?_ _ | refine Ext.setCell ?_ (by first | (simp; done) | (simp; omega) | omega) _ | refine Ext.trans ?_ (by assumption)))))) ?_
      rintro e wu2 ⟨rfl, hxu2⟩
      rw [Hq2.out, Hq3.out]
      have hz17 : wb16.heap.size ≤ wu2.heap.size := hxu2.size
      clear ba0 ba1 bag
      have ba := Hba.out.ext hxu2
      clear Hba
      have ba0 := ba.at0
      have ba1 := ba.at1
      have bag := ba.1
      have Hba := Lib.hid ba
      clear ba
      clear bb0 bb1 bbg
      have bb := Hbb.out.ext hxu2
      clear Hbb
      have bb0 := bb.at0
      have bb1 := bb.at1
      have bbg := bb.1
      have Hbb := Lib.hid bb
      clear bb
      go_wp2_with fail
      go_ret
      exact ⟨rfl, (((((((((((((((((hxN.trans hxwb2).trans hxh1).trans hxh2).trans hxC).trans hxK).trans hxR).trans hxM).trans hxD).trans hxE).trans hxt1).trans hxt2).trans hxt3).trans hxu1).trans hxP).trans hxwb16).trans hxu2).trans (by repeat (first | exact Ext.refl _ | assumption | refine Ext.alloc ?_ _ | refine Ext.drew ?_ | refine Ext.drewN ?_ _ | refine Ext.setCell ?_ (by first | (simp; done) | (simp; omega) | omega) _ | refine Ext.trans ?_ (by assumption))))⟩
  · have e4 : hasV n = false := by rw [hasV_ok h1, B_false h2]
    have Hh1 := Lib.hid h1
    rcases top_fc h1 h2 with ⟨f1, f2⟩ | f1
    case inr =>
      go_wp2_with fail
      go_ret
      exact ⟨rfl, (((((((((((((hxN.trans hxwb2).trans hxh1).trans hxh2).trans hxC).trans hxK).trans hxR).trans hxM).trans hxD).trans hxE).trans hxt1).trans hxt2).trans hxt3).trans (by repeat (first | exact Ext.refl _ | assumption | refine Ext.alloc ?_ _ | refine Ext.drew ?_ | refine Ext.drewN ?_ _ | refine Ext.setCell ?_ (by first | (simp; done) | (simp; omega) | omega) _ | refine Ext.trans ?_ (by assumption))))⟩
    obtain ⟨_, c2, c3⟩ := fc_conf f2 h2
    have Hf2 := Lib.hid f2
    have Hc2 := Lib.hid c2
    have Hc3 := Lib.hid c3
    clear f2 c2 c3
    go_wp2_with fail
    refine Calls.mono (impl_IsConflict _ _ _ n (fcL n) _ (HN.out.up ((((((((((((hxwb2.trans hxh1).trans hxh2).trans hxC).trans hxK).trans hxR).trans hxM).trans hxD).trans hxE).trans hxt1).trans hxt2).trans hxt3).trans (by repeat (first | exact Ext.refl _ | assumption | refine Ext.alloc ?_ _ | refine Ext.drew ?_ | refine Ext.drewN ?_ _ | refine Ext.setCell ?_ (by first | (simp; done) | (simp; omega) | omega) _ | refine Ext.trans ?_ (by assumption))))) (IC.out.up ((((((((hxK.trans hxR).trans hxM).trans hxD).trans hxE).trans hxt1).trans hxt2).trans hxt3).trans (by repeat (first | exact Ext.refl _ | assumption | refine Ext.alloc ?_ _ | refine Ext.drew ?_ | refine Ext.drewN ?_ _ | refine Ext.setCell ?_ (by first | (simp; done) | (simp; omega) | omega) _ | refine Ext.trans ?_ (by assumption)))))) ?_
    rintro e wv1 ⟨rfl, hxv1⟩
    rw [Hc2.out, Hc3.out]
    have hz14 : wt3.heap.size ≤ wv1.heap.size := hxv1.size
    clear ba0 ba1 bag
    have ba := Hba.out.ext hxv1
    clear Hba
    have ba0 := ba.at0
    have ba1 := ba.at1
    have bag := ba.1
    have Hba := Lib.hid ba
    clear ba
    rcases top_sm Hf2.out with s1 | s1
    case inr =>
      go_wp2_with fail
      go_ret
      exact ⟨rfl, ((((((((((((((hxN.trans hxwb2).trans hxh1).trans hxh2).trans hxC).trans hxK).trans hxR).trans hxM).trans hxD).trans hxE).trans hxt1).trans hxt2).trans hxt3).trans hxv1).trans (by repeat (first | exact Ext.refl _ | assumption | refine Ext.alloc ?_ _ | refine Ext.drew ?_ | refine Ext.drewN ?_ _ | refine Ext.setCell ?_ (by first | (simp; done) | (simp; omega) | omega) _ | refine Ext.trans ?_ (by assumption))))⟩
    obtain ⟨k1, k2, -, -⟩ := sm_law s1
    have Hk1 := Lib.hid k1
    have Hk2 := Lib.hid k2
    have Hs := Lib.hid (top_share h2 s1)
    clear k1 k2
    go_wp2_with fail
    refine Calls.mono (impl_IsRepair _ _ _ n (smL n) _ (HN.out.up (((((((((((((hxwb2.trans hxh1).trans hxh2).trans hxC).trans hxK).trans hxR).trans hxM).trans hxD).trans hxE).trans hxt1).trans hxt2).trans hxt3).trans hxv1).trans (by repeat (first | exact Ext.refl _ | assumption | refine Ext.alloc ?_ _ | refine Ext.drew ?_ | refine Ext.drewN ?_ _ | refine Ext.setCell ?_ (by first | (simp; done) | (simp; omega) | omega) _ | refine Ext.trans ?_ (by assumption))))) (IR.out.up (((((((hxM.trans hxD).trans hxE).trans hxt1).trans hxt2).trans hxt3).trans hxv1).trans (by repeat (first | exact Ext.refl _ | assumption | refine Ext.alloc ?_ _ | refine Ext.drew ?_ | refine Ext.drewN ?_ _ | refine Ext.setCell ?_ (by first | (simp; done) | (simp; omega) | omega) _ | refine Ext.trans ?_ (by assumption)))))) ?_
    rintro e wv2 ⟨rfl, hxv2⟩
    rw [Hk1.out, Hk2.out]
    have hz15 : wv1.heap.size ≤ wv2.heap.size := hxv2.size
    clear ba0 ba1 bag
    have ba := Hba.out.ext hxv2
    clear Hba
    have ba0 := ba.at0
    have ba1 := ba.at1
    have bag := ba.1
    have Hba := Lib.hid ba
    clear ba
    go_wp2_with fail
    have hsm := fcL_small n
    go_loopg [31] (fcL n).length (fun k i wr => ∃ j : Nat, j + k = (fcL n).length ∧ i = .int .i64 j ∧ Ext wv2 wr ∧ ∀ i, i < j → ¬ HasI (smL n) (inAt (fcL n) i))
    case atStart => exact ⟨0, by omega, rfl, (by repeat (first | exact Ext.refl _ | assumption | refine Ext.alloc ?_ _ | refine Ext.drew ?_ | refine Ext.drewN ?_ _ | refine Ext.setCell ?_ (by first | (simp; done) | (simp; omega) | omega) _ | refine Ext.trans ?_ (by assumption))), fun i hi => absurd hi (by omega)⟩
    case round =>
      obtain ⟨j, hj, rfl, hx, hok⟩ := hrel
      have Hok := Lib.hid hok
      clear hok
      by_cases hlt : j < (fcL n).length
      · obtain ⟨b, off, rfl, _, hb, h1e⟩ := (IK.out.up (((((((((hxR.trans hxM).trans hxD).trans hxE).trans hxt1).trans hxt2).trans hxt3).trans hxv1).trans hxv2).trans hx)).at_ hlt
        go_wp2_with fail
        refine Calls.mono (laws_hasInt _ (smL n) (inAt (fcL n) j) _ (IR.out.up ((((((((hxM.trans hxD).trans hxE).trans hxt1).trans hxt2).trans hxt3).trans hxv1).trans hxv2).trans (hx.trans (by repeat (first | exact Ext.refl _ | assumption | refine Ext.alloc ?_ _ | refine Ext.drew ?_ | refine Ext.drewN ?_ _ | refine Ext.setCell ?_ (by first | (simp; done) | (simp; omega) | omega) _ | refine Ext.trans ?_ (by assumption))))))) ?_
        rintro e wq ⟨rfl, hxq⟩
        by_cases hh : HasI (smL n) (inAt (fcL n) j)
        · rw [B_true hh]
          go_wp2_with fail
          go_ret
          exact ⟨rfl, ((((((((((((((hxN.trans hxwb2).trans hxh1).trans hxh2).trans hxC).trans hxK).trans hxR).trans hxM).trans hxD).trans hxE).trans hxt1).trans hxt2).trans hxt3).trans hxv1).trans hxv2).trans (hx.trans (by repeat (first | exact Ext.refl _ | assumption | refine Ext.alloc ?_ _ | refine Ext.drew ?_ | refine Ext.drewN ?_ _ | refine Ext.setCell ?_ (by first | (simp; done) | (simp; omega) | omega) _ | refine Ext.trans ?_ (by assumption))))⟩
        · rw [B_false hh]
          have Hh := Lib.hid hh
          clear hh
          go_wp2_with fail
          go_roundg ((fcL n).length - (j + 1))
          case measure => omega
          case rel =>
            refine ⟨j + 1, by omega, by go_num, (by repeat (first | exact Ext.refl _ | assumption | refine Ext.alloc ?_ _ | refine Ext.drew ?_ | refine Ext.drewN ?_ _ | refine Ext.setCell ?_ (by first | (simp; done) | (simp; omega) | omega) _ | refine Ext.trans ?_ (by assumption))), fun i hi => ?_⟩
            by_cases e : i = j
            · rw [e]; exact Hh.out
            · exact Hok.out i (by omega)
      · obtain ⟨i, hi, hh⟩ := Hs.out
        exact absurd hh (Hok.out i (by omega))
end Go.Proofs.YtfajmlkiidnhlaaGreat
