/- The law FnRepairs, walked out of the contracts of the draws, the program's functions and the reference's. -/
import Derived.Test.YtfajmlkiidnhlaaQ3Yc
import Derived.Test.YtfajmlkiidnhlaaQ3Dl
import Derived.Test.YtfajmlkiidnhlaaQ3Ye
import Derived.Test.YtfajmlkiidnhlaaQ3Rq
import Derived.Test.YtfajmlkiidnhlaaQ3Fp
import Derived.Test.YtfajmlkiidnhlaaQ3Ic
import Derived.Test.YtfajmlkiidnhlaaQ3Ss
import Derived.Test.YtfajmlkiidnhlaaQ3Gv
import Derived.Test.YtfajmlkiidnhlaaQ3Ha
import Derived.Test.YtfajmlkiidnhlaaQ3N
import Derived.Deep.RegionHeld3
import Derived.IntWalk
namespace Go.Proofs.Ytfajmlkiidnhlaa
set_option linter.unusedVariables false
set_option linter.unusedSimpArgs false
open Go.RowKit
attribute [local go_sem] cell_onto

set_option maxRecDepth 100000 in
set_option maxHeartbeats 8000000 in
theorem law_FnRepairs (v : Value) (cn : Nat) (w : World) (h : Byts w v cn) : Calls Try.prog 5 #[v] w (RetX (.bool true) w) := by
  obtain ⟨A, c, rfl⟩ := h.len
  have HX := Lib.hid h
  clear h
  go_enter Try.func5, Try.ntmps5
  go_wp2_with fail
  by_cases hbig : cn ≤ 4096
  case neg =>
    refine Calls.mono (laws_big_yes cn A c w hbig) ?_
    rintro e w' ⟨rfl, rfl⟩
    go_wp2_with fail
    go_ret
    exact ⟨rfl, (by repeat (first | exact Ext.refl _ | assumption | refine Ext.alloc ?_ _ | refine Ext.drew ?_ | refine Ext.drewN ?_ _ | refine Ext.setCell ?_ (by first | (simp; done) | (simp; omega) | omega) _ | refine Ext.trans ?_ (by assumption)))⟩
  have H := Lib.hid (HX.out.few hbig)
  refine Calls.mono (laws_big_no cn A c w hbig) ?_
  rintro e w' ⟨rfl, rfl⟩
  clear HX hbig
  go_wp2_with fail
  refine Calls.mono (spec_DrawSmallestRepair cn _ _ (H.out.up (by repeat (first | exact Ext.refl _ | assumption | refine Ext.alloc ?_ _ | refine Ext.drew ?_ | refine Ext.drewN ?_ _ | refine Ext.setCell ?_ (by first | (simp; done) | (simp; omega) | omega) _ | refine Ext.trans ?_ (by assumption))))) ?_
  intro e wN hp
  obtain ⟨Ns, Ncs, Nk, Nck, n, rfl, hxN, HN⟩ := hp.plain
  clear hp
  have hz1 : w.heap.size ≤ wN.heap.size := hxN.size
  obtain ⟨wb2, hwb2⟩ : ∃ x : World, x = wN.alloc (.cells #[.slice Ns n.sets.length Ncs, .slice Nk n.links.length Nck] 27) := ⟨_, rfl⟩
  have hxwb2 : Ext wN wb2 := by rw [hwb2]; exact (by repeat (first | exact Ext.refl _ | assumption | refine Ext.alloc ?_ _ | refine Ext.drew ?_ | refine Ext.drewN ?_ _ | refine Ext.setCell ?_ (by first | (simp; done) | (simp; omega) | omega) _ | refine Ext.trans ?_ (by assumption)))
  have Hba := Lib.hid (show Boxed wb2 wN.heap.size [.slice Ns n.sets.length Ncs, .slice Nk n.links.length Nck] from by rw [hwb2]; exact Boxed.new wN [.slice Ns n.sets.length Ncs, .slice Nk n.links.length Nck] 27)
  go_wp2_with fail
  rw [← hwb2]
  clear hwb2
  have hz2 : wN.heap.size ≤ wb2.heap.size := hxwb2.size
  have ba0 := Hba.out.at0
  have ba1 := Hba.out.at1
  have bag := Hba.out.1
  refine Calls.mono (impl_SmallestRepair _ _ n _ (HN.out.up (hxwb2.trans (by repeat (first | exact Ext.refl _ | assumption | refine Ext.alloc ?_ _ | refine Ext.drew ?_ | refine Ext.drewN ?_ _ | refine Ext.setCell ?_ (by first | (simp; done) | (simp; omega) | omega) _ | refine Ext.trans ?_ (by assumption)))))) ?_
  intro e wR hp
  obtain ⟨Ra, Rc, rfl, hxR, IR⟩ := hp.plain
  clear hp
  have hz3 : wb2.heap.size ≤ wR.heap.size := hxR.size
  clear ba0 ba1 bag
  have ba := Hba.out.ext hxR
  clear Hba
  have ba0 := ba.at0
  have ba1 := ba.at1
  have bag := ba.1
  have Hba := Lib.hid ba
  clear ba
  go_wp2_with fail
  refine Calls.mono (spec_SmallestRepair _ _ n _ (HN.out.up ((hxwb2.trans hxR).trans (by repeat (first | exact Ext.refl _ | assumption | refine Ext.alloc ?_ _ | refine Ext.drew ?_ | refine Ext.drewN ?_ _ | refine Ext.setCell ?_ (by first | (simp; done) | (simp; omega) | omega) _ | refine Ext.trans ?_ (by assumption)))))) ?_
  intro e wM hp
  obtain ⟨Ma, Mc, rfl, hxM, IM⟩ := hp.plain
  clear hp
  have hz4 : wR.heap.size ≤ wM.heap.size := hxM.size
  clear ba0 ba1 bag
  have ba := Hba.out.ext hxM
  clear Hba
  have ba0 := ba.at0
  have ba1 := ba.at1
  have bag := ba.1
  have Hba := Lib.hid ba
  clear ba
  go_wp2_with fail
  refine Calls.mono (spec_DrawGiveUp cn _ _ (H.out.up ((((hxN.trans hxwb2).trans hxR).trans hxM).trans (by repeat (first | exact Ext.refl _ | assumption | refine Ext.alloc ?_ _ | refine Ext.drew ?_ | refine Ext.drewN ?_ _ | refine Ext.setCell ?_ (by first | (simp; done) | (simp; omega) | omega) _ | refine Ext.trans ?_ (by assumption)))))) ?_
  intro e wP hp
  obtain ⟨Ps, Pcs, Pk, Pck, a, Pa, Pc, la, rfl, hxP, -, HP, IP⟩ := hp.plain
  clear hp
  have hz5 : wM.heap.size ≤ wP.heap.size := hxP.size
  clear ba0 ba1 bag
  have ba := Hba.out.ext hxP
  clear Hba
  have ba0 := ba.at0
  have ba1 := ba.at1
  have bag := ba.1
  have Hba := Lib.hid ba
  clear ba
  obtain ⟨wb6, hwb6⟩ : ∃ x : World, x = wP.alloc (.cells #[.slice Ps a.sets.length Pcs, .slice Pk a.links.length Pck] 27) := ⟨_, rfl⟩
  have hxwb6 : Ext wP wb6 := by rw [hwb6]; exact (by repeat (first | exact Ext.refl _ | assumption | refine Ext.alloc ?_ _ | refine Ext.drew ?_ | refine Ext.drewN ?_ _ | refine Ext.setCell ?_ (by first | (simp; done) | (simp; omega) | omega) _ | refine Ext.trans ?_ (by assumption)))
  have Hbb := Lib.hid (show Boxed wb6 wP.heap.size [.slice Ps a.sets.length Pcs, .slice Pk a.links.length Pck] from by rw [hwb6]; exact Boxed.new wP [.slice Ps a.sets.length Pcs, .slice Pk a.links.length Pck] 27)
  go_wp2_with fail
  rw [← hwb6]
  clear hwb6
  have hz6 : wP.heap.size ≤ wb6.heap.size := hxwb6.size
  clear ba0 ba1 bag
  have ba := Hba.out.ext hxwb6
  clear Hba
  have ba0 := ba.at0
  have ba1 := ba.at1
  have bag := ba.1
  have Hba := Lib.hid ba
  clear ba
  have bb0 := Hbb.out.at0
  have bb1 := Hbb.out.at1
  have bbg := Hbb.out.1
  refine Calls.mono (impl_GiveUp _ _ _ a la _ (HP.out.up (hxwb6.trans (by repeat (first | exact Ext.refl _ | assumption | refine Ext.alloc ?_ _ | refine Ext.drew ?_ | refine Ext.drewN ?_ _ | refine Ext.setCell ?_ (by first | (simp; done) | (simp; omega) | omega) _ | refine Ext.trans ?_ (by assumption))))) (IP.out.up (hxwb6.trans (by repeat (first | exact Ext.refl _ | assumption | refine Ext.alloc ?_ _ | refine Ext.drew ?_ | refine Ext.drewN ?_ _ | refine Ext.setCell ?_ (by first | (simp; done) | (simp; omega) | omega) _ | refine Ext.trans ?_ (by assumption)))))) ?_
  intro e wG hp
  obtain ⟨Gs, Gcs, Gk, Gck, rfl, hxG, HG⟩ := hp.plain
  clear hp
  have hz7 : wb6.heap.size ≤ wG.heap.size := hxG.size
  clear ba0 ba1 bag
  have ba := Hba.out.ext hxG
  clear Hba
  have ba0 := ba.at0
  have ba1 := ba.at1
  have bag := ba.1
  have Hba := Lib.hid ba
  clear ba
  clear bb0 bb1 bbg
  have bb := Hbb.out.ext hxG
  clear Hbb
  have bb0 := bb.at0
  have bb1 := bb.at1
  have bbg := bb.1
  have Hbb := Lib.hid bb
  clear bb
  obtain ⟨wb8, hwb8⟩ : ∃ x : World, x = wG.alloc (.cells #[.slice Gs (gvV a la).sets.length Gcs, .slice Gk (gvV a la).links.length Gck] 27) := ⟨_, rfl⟩
  have hxwb8 : Ext wG wb8 := by rw [hwb8]; exact (by repeat (first | exact Ext.refl _ | assumption | refine Ext.alloc ?_ _ | refine Ext.drew ?_ | refine Ext.drewN ?_ _ | refine Ext.setCell ?_ (by first | (simp; done) | (simp; omega) | omega) _ | refine Ext.trans ?_ (by assumption)))
  have Hbc := Lib.hid (show Boxed wb8 wG.heap.size [.slice Gs (gvV a la).sets.length Gcs, .slice Gk (gvV a la).links.length Gck] from by rw [hwb8]; exact Boxed.new wG [.slice Gs (gvV a la).sets.length Gcs, .slice Gk (gvV a la).links.length Gck] 27)
  go_wp2_with fail
  rw [← hwb8]
  clear hwb8
  have hz8 : wG.heap.size ≤ wb8.heap.size := hxwb8.size
  clear ba0 ba1 bag
  have ba := Hba.out.ext hxwb8
  clear Hba
  have ba0 := ba.at0
  have ba1 := ba.at1
  have bag := ba.1
  have Hba := Lib.hid ba
  clear ba
  clear bb0 bb1 bbg
  have bb := Hbb.out.ext hxwb8
  clear Hbb
  have bb0 := bb.at0
  have bb1 := bb.at1
  have bbg := bb.1
  have Hbb := Lib.hid bb
  clear bb
  have bc0 := Hbc.out.at0
  have bc1 := Hbc.out.at1
  have bcg := Hbc.out.1
  refine Calls.mono (spec_GiveUp _ _ _ a la _ (HP.out.up (((hxwb6.trans hxG).trans hxwb8).trans (by repeat (first | exact Ext.refl _ | assumption | refine Ext.alloc ?_ _ | refine Ext.drew ?_ | refine Ext.drewN ?_ _ | refine Ext.setCell ?_ (by first | (simp; done) | (simp; omega) | omega) _ | refine Ext.trans ?_ (by assumption))))) (IP.out.up (((hxwb6.trans hxG).trans hxwb8).trans (by repeat (first | exact Ext.refl _ | assumption | refine Ext.alloc ?_ _ | refine Ext.drew ?_ | refine Ext.drewN ?_ _ | refine Ext.setCell ?_ (by first | (simp; done) | (simp; omega) | omega) _ | refine Ext.trans ?_ (by assumption)))))) ?_
  intro e wQ hp
  obtain ⟨Qs, Qcs, Qk, Qck, rfl, hxQ, HQ⟩ := hp.plain
  clear hp
  have hz9 : wb8.heap.size ≤ wQ.heap.size := hxQ.size
  clear ba0 ba1 bag
  have ba := Hba.out.ext hxQ
  clear Hba
  have ba0 := ba.at0
  have ba1 := ba.at1
  have bag := ba.1
  have Hba := Lib.hid ba
  clear ba
  clear bb0 bb1 bbg
  have bb := Hbb.out.ext hxQ
  clear Hbb
  have bb0 := bb.at0
  have bb1 := bb.at1
  have bbg := bb.1
  have Hbb := Lib.hid bb
  clear bb
  clear bc0 bc1 bcg
  have bc := Hbc.out.ext hxQ
  clear Hbc
  have bc0 := bc.at0
  have bc1 := bc.at1
  have bcg := bc.1
  have Hbc := Lib.hid bc
  clear bc
  obtain ⟨wb10, hwb10⟩ : ∃ x : World, x = wQ.alloc (.cells #[.slice Qs (gvV a la).sets.length Qcs, .slice Qk (gvV a la).links.length Qck] 27) := ⟨_, rfl⟩
  have hxwb10 : Ext wQ wb10 := by rw [hwb10]; exact (by repeat (first | exact Ext.refl _ | assumption | refine Ext.alloc ?_ _ | refine Ext.drew ?_ | refine Ext.drewN ?_ _ | refine Ext.setCell ?_ (by first | (simp; done) | (simp; omega) | omega) _ | refine Ext.trans ?_ (by assumption)))
  have Hbd := Lib.hid (show Boxed wb10 wQ.heap.size [.slice Qs (gvV a la).sets.length Qcs, .slice Qk (gvV a la).links.length Qck] from by rw [hwb10]; exact Boxed.new wQ [.slice Qs (gvV a la).sets.length Qcs, .slice Qk (gvV a la).links.length Qck] 27)
  go_wp2_with fail
  rw [← hwb10]
  clear hwb10
  have hz10 : wQ.heap.size ≤ wb10.heap.size := hxwb10.size
  clear ba0 ba1 bag
  have ba := Hba.out.ext hxwb10
  clear Hba
  have ba0 := ba.at0
  have ba1 := ba.at1
  have bag := ba.1
  have Hba := Lib.hid ba
  clear ba
  clear bb0 bb1 bbg
  have bb := Hbb.out.ext hxwb10
  clear Hbb
  have bb0 := bb.at0
  have bb1 := bb.at1
  have bbg := bb.1
  have Hbb := Lib.hid bb
  clear bb
  clear bc0 bc1 bcg
  have bc := Hbc.out.ext hxwb10
  clear Hbc
  have bc0 := bc.at0
  have bc1 := bc.at1
  have bcg := bc.1
  have Hbc := Lib.hid bc
  clear bc
  have bd0 := Hbd.out.at0
  have bd1 := Hbd.out.at1
  have bdg := Hbd.out.1
  refine Calls.mono (spec_DrawIsRepair cn _ _ (H.out.up ((((((((((hxN.trans hxwb2).trans hxR).trans hxM).trans hxP).trans hxwb6).trans hxG).trans hxwb8).trans hxQ).trans hxwb10).trans (by repeat (first | exact Ext.refl _ | assumption | refine Ext.alloc ?_ _ | refine Ext.drew ?_ | refine Ext.drewN ?_ _ | refine Ext.setCell ?_ (by first | (simp; done) | (simp; omega) | omega) _ | refine Ext.trans ?_ (by assumption)))))) ?_
  intro e wB hp
  obtain ⟨Bs, Bcs, Bk, Bck, b, Ba, Bc, lb, rfl, hxB, -, HB, IB⟩ := hp.plain
  clear hp
  have hz11 : wb10.heap.size ≤ wB.heap.size := hxB.size
  clear ba0 ba1 bag
  have ba := Hba.out.ext hxB
  clear Hba
  have ba0 := ba.at0
  have ba1 := ba.at1
  have bag := ba.1
  have Hba := Lib.hid ba
  clear ba
  clear bb0 bb1 bbg
  have bb := Hbb.out.ext hxB
  clear Hbb
  have bb0 := bb.at0
  have bb1 := bb.at1
  have bbg := bb.1
  have Hbb := Lib.hid bb
  clear bb
  clear bc0 bc1 bcg
  have bc := Hbc.out.ext hxB
  clear Hbc
  have bc0 := bc.at0
  have bc1 := bc.at1
  have bcg := bc.1
  have Hbc := Lib.hid bc
  clear bc
  clear bd0 bd1 bdg
  have bd := Hbd.out.ext hxB
  clear Hbd
  have bd0 := bd.at0
  have bd1 := bd.at1
  have bdg := bd.1
  have Hbd := Lib.hid bd
  clear bd
  obtain ⟨wb12, hwb12⟩ : ∃ x : World, x = wB.alloc (.cells #[.slice Bs b.sets.length Bcs, .slice Bk b.links.length Bck] 27) := ⟨_, rfl⟩
  have hxwb12 : Ext wB wb12 := by rw [hwb12]; exact (by repeat (first | exact Ext.refl _ | assumption | refine Ext.alloc ?_ _ | refine Ext.drew ?_ | refine Ext.drewN ?_ _ | refine Ext.setCell ?_ (by first | (simp; done) | (simp; omega) | omega) _ | refine Ext.trans ?_ (by assumption)))
  have Hbe := Lib.hid (show Boxed wb12 wB.heap.size [.slice Bs b.sets.length Bcs, .slice Bk b.links.length Bck] from by rw [hwb12]; exact Boxed.new wB [.slice Bs b.sets.length Bcs, .slice Bk b.links.length Bck] 27)
  go_wp2_with fail
  rw [← hwb12]
  clear hwb12
  have hz12 : wB.heap.size ≤ wb12.heap.size := hxwb12.size
  clear ba0 ba1 bag
  have ba := Hba.out.ext hxwb12
  clear Hba
  have ba0 := ba.at0
  have ba1 := ba.at1
  have bag := ba.1
  have Hba := Lib.hid ba
  clear ba
  clear bb0 bb1 bbg
  have bb := Hbb.out.ext hxwb12
  clear Hbb
  have bb0 := bb.at0
  have bb1 := bb.at1
  have bbg := bb.1
  have Hbb := Lib.hid bb
  clear bb
  clear bc0 bc1 bcg
  have bc := Hbc.out.ext hxwb12
  clear Hbc
  have bc0 := bc.at0
  have bc1 := bc.at1
  have bcg := bc.1
  have Hbc := Lib.hid bc
  clear bc
  clear bd0 bd1 bdg
  have bd := Hbd.out.ext hxwb12
  clear Hbd
  have bd0 := bd.at0
  have bd1 := bd.at1
  have bdg := bd.1
  have Hbd := Lib.hid bd
  clear bd
  have be0 := Hbe.out.at0
  have be1 := Hbe.out.at1
  have beg := Hbe.out.1
  refine Calls.mono (impl_IsRepair _ _ _ b lb _ (HB.out.up (hxwb12.trans (by repeat (first | exact Ext.refl _ | assumption | refine Ext.alloc ?_ _ | refine Ext.drew ?_ | refine Ext.drewN ?_ _ | refine Ext.setCell ?_ (by first | (simp; done) | (simp; omega) | omega) _ | refine Ext.trans ?_ (by assumption))))) (IB.out.up (hxwb12.trans (by repeat (first | exact Ext.refl _ | assumption | refine Ext.alloc ?_ _ | refine Ext.drew ?_ | refine Ext.drewN ?_ _ | refine Ext.setCell ?_ (by first | (simp; done) | (simp; omega) | omega) _ | refine Ext.trans ?_ (by assumption)))))) ?_
  rintro e wi0 ⟨rfl, hxi0⟩
  have hz13 : wb12.heap.size ≤ wi0.heap.size := hxi0.size
  clear ba0 ba1 bag
  have ba := Hba.out.ext hxi0
  clear Hba
  have ba0 := ba.at0
  have ba1 := ba.at1
  have bag := ba.1
  have Hba := Lib.hid ba
  clear ba
  clear bb0 bb1 bbg
  have bb := Hbb.out.ext hxi0
  clear Hbb
  have bb0 := bb.at0
  have bb1 := bb.at1
  have bbg := bb.1
  have Hbb := Lib.hid bb
  clear bb
  clear bc0 bc1 bcg
  have bc := Hbc.out.ext hxi0
  clear Hbc
  have bc0 := bc.at0
  have bc1 := bc.at1
  have bcg := bc.1
  have Hbc := Lib.hid bc
  clear bc
  clear bd0 bd1 bdg
  have bd := Hbd.out.ext hxi0
  clear Hbd
  have bd0 := bd.at0
  have bd1 := bd.at1
  have bdg := bd.1
  have Hbd := Lib.hid bd
  clear bd
  clear be0 be1 beg
  have be := Hbe.out.ext hxi0
  clear Hbe
  have be0 := be.at0
  have be1 := be.at1
  have beg := be.1
  have Hbe := Lib.hid be
  clear be
  go_wp2_with fail
  refine Calls.mono (spec_IsRepair _ _ _ b lb _ (HB.out.up ((hxwb12.trans hxi0).trans (by repeat (first | exact Ext.refl _ | assumption | refine Ext.alloc ?_ _ | refine Ext.drew ?_ | refine Ext.drewN ?_ _ | refine Ext.setCell ?_ (by first | (simp; done) | (simp; omega) | omega) _ | refine Ext.trans ?_ (by assumption))))) (IB.out.up ((hxwb12.trans hxi0).trans (by repeat (first | exact Ext.refl _ | assumption | refine Ext.alloc ?_ _ | refine Ext.drew ?_ | refine Ext.drewN ?_ _ | refine Ext.setCell ?_ (by first | (simp; done) | (simp; omega) | omega) _ | refine Ext.trans ?_ (by assumption)))))) ?_
  rintro e wi1 ⟨rfl, hxi1⟩
  have hz14 : wi0.heap.size ≤ wi1.heap.size := hxi1.size
  clear ba0 ba1 bag
  have ba := Hba.out.ext hxi1
  clear Hba
  have ba0 := ba.at0
  have ba1 := ba.at1
  have bag := ba.1
  have Hba := Lib.hid ba
  clear ba
  clear bb0 bb1 bbg
  have bb := Hbb.out.ext hxi1
  clear Hbb
  have bb0 := bb.at0
  have bb1 := bb.at1
  have bbg := bb.1
  have Hbb := Lib.hid bb
  clear bb
  clear bc0 bc1 bcg
  have bc := Hbc.out.ext hxi1
  clear Hbc
  have bc0 := bc.at0
  have bc1 := bc.at1
  have bcg := bc.1
  have Hbc := Lib.hid bc
  clear bc
  clear bd0 bd1 bdg
  have bd := Hbd.out.ext hxi1
  clear Hbd
  have bd0 := bd.at0
  have bd1 := bd.at1
  have bdg := bd.1
  have Hbd := Lib.hid bd
  clear bd
  clear be0 be1 beg
  have be := Hbe.out.ext hxi1
  clear Hbe
  have be0 := be.at0
  have be1 := be.at1
  have beg := be.1
  have Hbe := Lib.hid be
  clear be
  go_wp2_with fail
  refine Calls.mono (spec_DrawCountStatements cn _ _ (H.out.up ((((((((((((((hxN.trans hxwb2).trans hxR).trans hxM).trans hxP).trans hxwb6).trans hxG).trans hxwb8).trans hxQ).trans hxwb10).trans hxB).trans hxwb12).trans hxi0).trans hxi1).trans (by repeat (first | exact Ext.refl _ | assumption | refine Ext.alloc ?_ _ | refine Ext.drew ?_ | refine Ext.drewN ?_ _ | refine Ext.setCell ?_ (by first | (simp; done) | (simp; omega) | omega) _ | refine Ext.trans ?_ (by assumption)))))) ?_
  intro e wC hp
  obtain ⟨Cs, Ccs, Ck, Cck, cc, rfl, hxC, HC⟩ := hp.plain
  clear hp
  have hz15 : wi1.heap.size ≤ wC.heap.size := hxC.size
  clear ba0 ba1 bag
  have ba := Hba.out.ext hxC
  clear Hba
  have ba0 := ba.at0
  have ba1 := ba.at1
  have bag := ba.1
  have Hba := Lib.hid ba
  clear ba
  clear bb0 bb1 bbg
  have bb := Hbb.out.ext hxC
  clear Hbb
  have bb0 := bb.at0
  have bb1 := bb.at1
  have bbg := bb.1
  have Hbb := Lib.hid bb
  clear bb
  clear bc0 bc1 bcg
  have bc := Hbc.out.ext hxC
  clear Hbc
  have bc0 := bc.at0
  have bc1 := bc.at1
  have bcg := bc.1
  have Hbc := Lib.hid bc
  clear bc
  clear bd0 bd1 bdg
  have bd := Hbd.out.ext hxC
  clear Hbd
  have bd0 := bd.at0
  have bd1 := bd.at1
  have bdg := bd.1
  have Hbd := Lib.hid bd
  clear bd
  clear be0 be1 beg
  have be := Hbe.out.ext hxC
  clear Hbe
  have be0 := be.at0
  have be1 := be.at1
  have beg := be.1
  have Hbe := Lib.hid be
  clear be
  obtain ⟨wb16, hwb16⟩ : ∃ x : World, x = wC.alloc (.cells #[.slice Cs cc.sets.length Ccs, .slice Ck cc.links.length Cck] 27) := ⟨_, rfl⟩
  have hxwb16 : Ext wC wb16 := by rw [hwb16]; exact (by repeat (first | exact Ext.refl _ | assumption | refine Ext.alloc ?_ _ | refine Ext.drew ?_ | refine Ext.drewN ?_ _ | refine Ext.setCell ?_ (by first | (simp; done) | (simp; omega) | omega) _ | refine Ext.trans ?_ (by assumption)))
  have Hbf := Lib.hid (show Boxed wb16 wC.heap.size [.slice Cs cc.sets.length Ccs, .slice Ck cc.links.length Cck] from by rw [hwb16]; exact Boxed.new wC [.slice Cs cc.sets.length Ccs, .slice Ck cc.links.length Cck] 27)
  go_wp2_with fail
  rw [← hwb16]
  clear hwb16
  have hz16 : wC.heap.size ≤ wb16.heap.size := hxwb16.size
  clear ba0 ba1 bag
  have ba := Hba.out.ext hxwb16
  clear Hba
  have ba0 := ba.at0
  have ba1 := ba.at1
  have bag := ba.1
  have Hba := Lib.hid ba
  clear ba
  clear bb0 bb1 bbg
  have bb := Hbb.out.ext hxwb16
  clear Hbb
  have bb0 := bb.at0
  have bb1 := bb.at1
  have bbg := bb.1
  have Hbb := Lib.hid bb
  clear bb
  clear bc0 bc1 bcg
  have bc := Hbc.out.ext hxwb16
  clear Hbc
  have bc0 := bc.at0
  have bc1 := bc.at1
  have bcg := bc.1
  have Hbc := Lib.hid bc
  clear bc
  clear bd0 bd1 bdg
  have bd := Hbd.out.ext hxwb16
  clear Hbd
  have bd0 := bd.at0
  have bd1 := bd.at1
  have bdg := bd.1
  have Hbd := Lib.hid bd
  clear bd
  clear be0 be1 beg
  have be := Hbe.out.ext hxwb16
  clear Hbe
  have be0 := be.at0
  have be1 := be.at1
  have beg := be.1
  have Hbe := Lib.hid be
  clear be
  have bf0 := Hbf.out.at0
  have bf1 := Hbf.out.at1
  have bfg := Hbf.out.1
  refine Calls.mono (impl_CountStatements _ _ cc _ (HC.out.up (hxwb16.trans (by repeat (first | exact Ext.refl _ | assumption | refine Ext.alloc ?_ _ | refine Ext.drew ?_ | refine Ext.drewN ?_ _ | refine Ext.setCell ?_ (by first | (simp; done) | (simp; omega) | omega) _ | refine Ext.trans ?_ (by assumption)))))) ?_
  rintro e wj0 ⟨rfl, hxj0⟩
  have hz17 : wb16.heap.size ≤ wj0.heap.size := hxj0.size
  clear ba0 ba1 bag
  have ba := Hba.out.ext hxj0
  clear Hba
  have ba0 := ba.at0
  have ba1 := ba.at1
  have bag := ba.1
  have Hba := Lib.hid ba
  clear ba
  clear bb0 bb1 bbg
  have bb := Hbb.out.ext hxj0
  clear Hbb
  have bb0 := bb.at0
  have bb1 := bb.at1
  have bbg := bb.1
  have Hbb := Lib.hid bb
  clear bb
  clear bc0 bc1 bcg
  have bc := Hbc.out.ext hxj0
  clear Hbc
  have bc0 := bc.at0
  have bc1 := bc.at1
  have bcg := bc.1
  have Hbc := Lib.hid bc
  clear bc
  clear bd0 bd1 bdg
  have bd := Hbd.out.ext hxj0
  clear Hbd
  have bd0 := bd.at0
  have bd1 := bd.at1
  have bdg := bd.1
  have Hbd := Lib.hid bd
  clear bd
  clear be0 be1 beg
  have be := Hbe.out.ext hxj0
  clear Hbe
  have be0 := be.at0
  have be1 := be.at1
  have beg := be.1
  have Hbe := Lib.hid be
  clear be
  clear bf0 bf1 bfg
  have bf := Hbf.out.ext hxj0
  clear Hbf
  have bf0 := bf.at0
  have bf1 := bf.at1
  have bfg := bf.1
  have Hbf := Lib.hid bf
  clear bf
  go_wp2_with fail
  refine Calls.mono (spec_CountStatements _ _ cc _ (HC.out.up ((hxwb16.trans hxj0).trans (by repeat (first | exact Ext.refl _ | assumption | refine Ext.alloc ?_ _ | refine Ext.drew ?_ | refine Ext.drewN ?_ _ | refine Ext.setCell ?_ (by first | (simp; done) | (simp; omega) | omega) _ | refine Ext.trans ?_ (by assumption)))))) ?_
  rintro e wj1 ⟨rfl, hxj1⟩
  have hz18 : wj0.heap.size ≤ wj1.heap.size := hxj1.size
  clear ba0 ba1 bag
  have ba := Hba.out.ext hxj1
  clear Hba
  have ba0 := ba.at0
  have ba1 := ba.at1
  have bag := ba.1
  have Hba := Lib.hid ba
  clear ba
  clear bb0 bb1 bbg
  have bb := Hbb.out.ext hxj1
  clear Hbb
  have bb0 := bb.at0
  have bb1 := bb.at1
  have bbg := bb.1
  have Hbb := Lib.hid bb
  clear bb
  clear bc0 bc1 bcg
  have bc := Hbc.out.ext hxj1
  clear Hbc
  have bc0 := bc.at0
  have bc1 := bc.at1
  have bcg := bc.1
  have Hbc := Lib.hid bc
  clear bc
  clear bd0 bd1 bdg
  have bd := Hbd.out.ext hxj1
  clear Hbd
  have bd0 := bd.at0
  have bd1 := bd.at1
  have bdg := bd.1
  have Hbd := Lib.hid bd
  clear bd
  clear be0 be1 beg
  have be := Hbe.out.ext hxj1
  clear Hbe
  have be0 := be.at0
  have be1 := be.at1
  have beg := be.1
  have Hbe := Lib.hid be
  clear be
  clear bf0 bf1 bfg
  have bf := Hbf.out.ext hxj1
  clear Hbf
  have bf0 := bf.at0
  have bf1 := bf.at1
  have bfg := bf.1
  have Hbf := Lib.hid bf
  clear bf
  go_wp2_with fail
  refine Calls.mono (laws_likeInts _ _ (smL n) _ (IR.out.up (((((((((((((((hxM.trans hxP).trans hxwb6).trans hxG).trans hxwb8).trans hxQ).trans hxwb10).trans hxB).trans hxwb12).trans hxi0).trans hxi1).trans hxC).trans hxwb16).trans hxj0).trans hxj1).trans (by repeat (first | exact Ext.refl _ | assumption | refine Ext.alloc ?_ _ | refine Ext.drew ?_ | refine Ext.drewN ?_ _ | refine Ext.setCell ?_ (by first | (simp; done) | (simp; omega) | omega) _ | refine Ext.trans ?_ (by assumption))))) (IM.out.up ((((((((((((((hxP.trans hxwb6).trans hxG).trans hxwb8).trans hxQ).trans hxwb10).trans hxB).trans hxwb12).trans hxi0).trans hxi1).trans hxC).trans hxwb16).trans hxj0).trans hxj1).trans (by repeat (first | exact Ext.refl _ | assumption | refine Ext.alloc ?_ _ | refine Ext.drew ?_ | refine Ext.drewN ?_ _ | refine Ext.setCell ?_ (by first | (simp; done) | (simp; omega) | omega) _ | refine Ext.trans ?_ (by assumption)))))) ?_
  rintro e wt1 ⟨rfl, hxt1⟩
  have hz19 : wj1.heap.size ≤ wt1.heap.size := hxt1.size
  clear ba0 ba1 bag
  have ba := Hba.out.ext hxt1
  clear Hba
  have ba0 := ba.at0
  have ba1 := ba.at1
  have bag := ba.1
  have Hba := Lib.hid ba
  clear ba
  clear bb0 bb1 bbg
  have bb := Hbb.out.ext hxt1
  clear Hbb
  have bb0 := bb.at0
  have bb1 := bb.at1
  have bbg := bb.1
  have Hbb := Lib.hid bb
  clear bb
  clear bc0 bc1 bcg
  have bc := Hbc.out.ext hxt1
  clear Hbc
  have bc0 := bc.at0
  have bc1 := bc.at1
  have bcg := bc.1
  have Hbc := Lib.hid bc
  clear bc
  clear bd0 bd1 bdg
  have bd := Hbd.out.ext hxt1
  clear Hbd
  have bd0 := bd.at0
  have bd1 := bd.at1
  have bdg := bd.1
  have Hbd := Lib.hid bd
  clear bd
  clear be0 be1 beg
  have be := Hbe.out.ext hxt1
  clear Hbe
  have be0 := be.at0
  have be1 := be.at1
  have beg := be.1
  have Hbe := Lib.hid be
  clear be
  clear bf0 bf1 bfg
  have bf := Hbf.out.ext hxt1
  clear Hbf
  have bf0 := bf.at0
  have bf1 := bf.at1
  have bfg := bf.1
  have Hbf := Lib.hid bf
  clear bf
  go_wp2_with fail
  refine Calls.mono (laws_likeNetworks9 _ _ _ _ (gvV a la) _ (HG.out.up ((((((((((((hxwb8.trans hxQ).trans hxwb10).trans hxB).trans hxwb12).trans hxi0).trans hxi1).trans hxC).trans hxwb16).trans hxj0).trans hxj1).trans hxt1).trans (by repeat (first | exact Ext.refl _ | assumption | refine Ext.alloc ?_ _ | refine Ext.drew ?_ | refine Ext.drewN ?_ _ | refine Ext.setCell ?_ (by first | (simp; done) | (simp; omega) | omega) _ | refine Ext.trans ?_ (by assumption))))) (HQ.out.up ((((((((((hxwb10.trans hxB).trans hxwb12).trans hxi0).trans hxi1).trans hxC).trans hxwb16).trans hxj0).trans hxj1).trans hxt1).trans (by repeat (first | exact Ext.refl _ | assumption | refine Ext.alloc ?_ _ | refine Ext.drew ?_ | refine Ext.drewN ?_ _ | refine Ext.setCell ?_ (by first | (simp; done) | (simp; omega) | omega) _ | refine Ext.trans ?_ (by assumption)))))) ?_
  rintro e wt2 ⟨rfl, hxt2⟩
  have hz20 : wt1.heap.size ≤ wt2.heap.size := hxt2.size
  clear ba0 ba1 bag
  have ba := Hba.out.ext hxt2
  clear Hba
  have ba0 := ba.at0
  have ba1 := ba.at1
  have bag := ba.1
  have Hba := Lib.hid ba
  clear ba
  clear bb0 bb1 bbg
  have bb := Hbb.out.ext hxt2
  clear Hbb
  have bb0 := bb.at0
  have bb1 := bb.at1
  have bbg := bb.1
  have Hbb := Lib.hid bb
  clear bb
  clear bc0 bc1 bcg
  have bc := Hbc.out.ext hxt2
  clear Hbc
  have bc0 := bc.at0
  have bc1 := bc.at1
  have bcg := bc.1
  have Hbc := Lib.hid bc
  clear bc
  clear bd0 bd1 bdg
  have bd := Hbd.out.ext hxt2
  clear Hbd
  have bd0 := bd.at0
  have bd1 := bd.at1
  have bdg := bd.1
  have Hbd := Lib.hid bd
  clear bd
  clear be0 be1 beg
  have be := Hbe.out.ext hxt2
  clear Hbe
  have be0 := be.at0
  have be1 := be.at1
  have beg := be.1
  have Hbe := Lib.hid be
  clear be
  clear bf0 bf1 bfg
  have bf := Hbf.out.ext hxt2
  clear Hbf
  have bf0 := bf.at0
  have bf1 := bf.at1
  have bfg := bf.1
  have Hbf := Lib.hid bf
  clear bf
  by_cases h1 : blE b lb = 0
  · obtain ⟨j1, j2, j3⟩ := rep_give h1
    go_wp2_with fail
    refine Calls.mono (impl_GiveUp _ _ _ b lb _ (HB.out.up (((((((((hxwb12.trans hxi0).trans hxi1).trans hxC).trans hxwb16).trans hxj0).trans hxj1).trans hxt1).trans hxt2).trans (by repeat (first | exact Ext.refl _ | assumption | refine Ext.alloc ?_ _ | refine Ext.drew ?_ | refine Ext.drewN ?_ _ | refine Ext.setCell ?_ (by first | (simp; done) | (simp; omega) | omega) _ | refine Ext.trans ?_ (by assumption))))) (IB.out.up (((((((((hxwb12.trans hxi0).trans hxi1).trans hxC).trans hxwb16).trans hxj0).trans hxj1).trans hxt1).trans hxt2).trans (by repeat (first | exact Ext.refl _ | assumption | refine Ext.alloc ?_ _ | refine Ext.drew ?_ | refine Ext.drewN ?_ _ | refine Ext.setCell ?_ (by first | (simp; done) | (simp; omega) | omega) _ | refine Ext.trans ?_ (by assumption)))))) ?_
    intro e wv1 hp
    obtain ⟨Vs, Vcs, Vk, Vck, rfl, hxv1, HV⟩ := hp.plain
    clear hp
    rw [j1]
    have hz21 : wt2.heap.size ≤ wv1.heap.size := hxv1.size
    clear ba0 ba1 bag
    have ba := Hba.out.ext hxv1
    clear Hba
    have ba0 := ba.at0
    have ba1 := ba.at1
    have bag := ba.1
    have Hba := Lib.hid ba
    clear ba
    clear bb0 bb1 bbg
    have bb := Hbb.out.ext hxv1
    clear Hbb
    have bb0 := bb.at0
    have bb1 := bb.at1
    have bbg := bb.1
    have Hbb := Lib.hid bb
    clear bb
    clear bc0 bc1 bcg
    have bc := Hbc.out.ext hxv1
    clear Hbc
    have bc0 := bc.at0
    have bc1 := bc.at1
    have bcg := bc.1
    have Hbc := Lib.hid bc
    clear bc
    clear bd0 bd1 bdg
    have bd := Hbd.out.ext hxv1
    clear Hbd
    have bd0 := bd.at0
    have bd1 := bd.at1
    have bdg := bd.1
    have Hbd := Lib.hid bd
    clear bd
    clear be0 be1 beg
    have be := Hbe.out.ext hxv1
    clear Hbe
    have be0 := be.at0
    have be1 := be.at1
    have beg := be.1
    have Hbe := Lib.hid be
    clear be
    clear bf0 bf1 bfg
    have bf := Hbf.out.ext hxv1
    clear Hbf
    have bf0 := bf.at0
    have bf1 := bf.at1
    have bfg := bf.1
    have Hbf := Lib.hid bf
    clear bf
    obtain ⟨wb22, hwb22⟩ : ∃ x : World, x = wv1.alloc (.cells #[.slice Vs (gvV b lb).sets.length Vcs, .slice Vk (gvV b lb).links.length Vck] 27) := ⟨_, rfl⟩
    have hxwb22 : Ext wv1 wb22 := by rw [hwb22]; exact (by repeat (first | exact Ext.refl _ | assumption | refine Ext.alloc ?_ _ | refine Ext.drew ?_ | refine Ext.drewN ?_ _ | refine Ext.setCell ?_ (by first | (simp; done) | (simp; omega) | omega) _ | refine Ext.trans ?_ (by assumption)))
    have Hbg := Lib.hid (show Boxed wb22 wv1.heap.size [.slice Vs (gvV b lb).sets.length Vcs, .slice Vk (gvV b lb).links.length Vck] from by rw [hwb22]; exact Boxed.new wv1 [.slice Vs (gvV b lb).sets.length Vcs, .slice Vk (gvV b lb).links.length Vck] 27)
    go_wp2_with fail
    rw [← hwb22]
    clear hwb22
    have hz22 : wv1.heap.size ≤ wb22.heap.size := hxwb22.size
    clear ba0 ba1 bag
    have ba := Hba.out.ext hxwb22
    clear Hba
    have ba0 := ba.at0
    have ba1 := ba.at1
    have bag := ba.1
    have Hba := Lib.hid ba
    clear ba
    clear bb0 bb1 bbg
    have bb := Hbb.out.ext hxwb22
    clear Hbb
    have bb0 := bb.at0
    have bb1 := bb.at1
    have bbg := bb.1
    have Hbb := Lib.hid bb
    clear bb
    clear bc0 bc1 bcg
    have bc := Hbc.out.ext hxwb22
    clear Hbc
    have bc0 := bc.at0
    have bc1 := bc.at1
    have bcg := bc.1
    have Hbc := Lib.hid bc
    clear bc
    clear bd0 bd1 bdg
    have bd := Hbd.out.ext hxwb22
    clear Hbd
    have bd0 := bd.at0
    have bd1 := bd.at1
    have bdg := bd.1
    have Hbd := Lib.hid bd
    clear bd
    clear be0 be1 beg
    have be := Hbe.out.ext hxwb22
    clear Hbe
    have be0 := be.at0
    have be1 := be.at1
    have beg := be.1
    have Hbe := Lib.hid be
    clear be
    clear bf0 bf1 bfg
    have bf := Hbf.out.ext hxwb22
    clear Hbf
    have bf0 := bf.at0
    have bf1 := bf.at1
    have bfg := bf.1
    have Hbf := Lib.hid bf
    clear bf
    have bg0 := Hbg.out.at0
    have bg1 := Hbg.out.at1
    have bgg := Hbg.out.1
    refine Calls.mono (impl_HasSolution _ _ (gvV b lb) _ (HV.out.up (hxwb22.trans (by repeat (first | exact Ext.refl _ | assumption | refine Ext.alloc ?_ _ | refine Ext.drew ?_ | refine Ext.drewN ?_ _ | refine Ext.setCell ?_ (by first | (simp; done) | (simp; omega) | omega) _ | refine Ext.trans ?_ (by assumption)))))) ?_
    rintro e wv2 ⟨rfl, hxv2⟩
    rw [j2, j3]
    have hz23 : wb22.heap.size ≤ wv2.heap.size := hxv2.size
    clear ba0 ba1 bag
    have ba := Hba.out.ext hxv2
    clear Hba
    have ba0 := ba.at0
    have ba1 := ba.at1
    have bag := ba.1
    have Hba := Lib.hid ba
    clear ba
    clear bb0 bb1 bbg
    have bb := Hbb.out.ext hxv2
    clear Hbb
    have bb0 := bb.at0
    have bb1 := bb.at1
    have bbg := bb.1
    have Hbb := Lib.hid bb
    clear bb
    clear bc0 bc1 bcg
    have bc := Hbc.out.ext hxv2
    clear Hbc
    have bc0 := bc.at0
    have bc1 := bc.at1
    have bcg := bc.1
    have Hbc := Lib.hid bc
    clear bc
    clear bd0 bd1 bdg
    have bd := Hbd.out.ext hxv2
    clear Hbd
    have bd0 := bd.at0
    have bd1 := bd.at1
    have bdg := bd.1
    have Hbd := Lib.hid bd
    clear bd
    clear be0 be1 beg
    have be := Hbe.out.ext hxv2
    clear Hbe
    have be0 := be.at0
    have be1 := be.at1
    have beg := be.1
    have Hbe := Lib.hid be
    clear be
    clear bf0 bf1 bfg
    have bf := Hbf.out.ext hxv2
    clear Hbf
    have bf0 := bf.at0
    have bf1 := bf.at1
    have bfg := bf.1
    have Hbf := Lib.hid bf
    clear bf
    clear bg0 bg1 bgg
    have bg := Hbg.out.ext hxv2
    clear Hbg
    have bg0 := bg.at0
    have bg1 := bg.at1
    have bgg := bg.1
    have Hbg := Lib.hid bg
    clear bg
    clear j1 j2 j3 h1
    by_cases h2 : smE n = 0
    case neg =>
      have h2f : (smE n == 0) = false := by simpa using h2
      go_wp2_with fail
      go_ret
      exact ⟨rfl, (((((((((((((((((((((((hxN.trans hxwb2).trans hxR).trans hxM).trans hxP).trans hxwb6).trans hxG).trans hxwb8).trans hxQ).trans hxwb10).trans hxB).trans hxwb12).trans hxi0).trans hxi1).trans hxC).trans hxwb16).trans hxj0).trans hxj1).trans hxt1).trans hxt2).trans hxv1).trans hxwb22).trans hxv2).trans (by repeat (first | exact Ext.refl _ | assumption | refine Ext.alloc ?_ _ | refine Ext.drew ?_ | refine Ext.drewN ?_ _ | refine Ext.setCell ?_ (by first | (simp; done) | (simp; omega) | omega) _ | refine Ext.trans ?_ (by assumption))))⟩
    obtain ⟨k1, k2, k3, k4⟩ := sm_law h2
    have hlt : ¬ (2 : Int) < ((smL n).length : Int) := by omega
    go_wp2_with fail
    refine Calls.mono (impl_IsRepair _ _ _ n (smL n) _ (HN.out.up ((((((((((((((((((((((hxwb2.trans hxR).trans hxM).trans hxP).trans hxwb6).trans hxG).trans hxwb8).trans hxQ).trans hxwb10).trans hxB).trans hxwb12).trans hxi0).trans hxi1).trans hxC).trans hxwb16).trans hxj0).trans hxj1).trans hxt1).trans hxt2).trans hxv1).trans hxwb22).trans hxv2).trans (by repeat (first | exact Ext.refl _ | assumption | refine Ext.alloc ?_ _ | refine Ext.drew ?_ | refine Ext.drewN ?_ _ | refine Ext.setCell ?_ (by first | (simp; done) | (simp; omega) | omega) _ | refine Ext.trans ?_ (by assumption))))) (IR.out.up ((((((((((((((((((((hxM.trans hxP).trans hxwb6).trans hxG).trans hxwb8).trans hxQ).trans hxwb10).trans hxB).trans hxwb12).trans hxi0).trans hxi1).trans hxC).trans hxwb16).trans hxj0).trans hxj1).trans hxt1).trans hxt2).trans hxv1).trans hxwb22).trans hxv2).trans (by repeat (first | exact Ext.refl _ | assumption | refine Ext.alloc ?_ _ | refine Ext.drew ?_ | refine Ext.drewN ?_ _ | refine Ext.setCell ?_ (by first | (simp; done) | (simp; omega) | omega) _ | refine Ext.trans ?_ (by assumption)))))) ?_
    rintro e wu1 ⟨rfl, hxu1⟩
    rw [k1, k2]
    have hz24 : wv2.heap.size ≤ wu1.heap.size := hxu1.size
    clear ba0 ba1 bag
    have ba := Hba.out.ext hxu1
    clear Hba
    have ba0 := ba.at0
    have ba1 := ba.at1
    have bag := ba.1
    have Hba := Lib.hid ba
    clear ba
    clear bb0 bb1 bbg
    have bb := Hbb.out.ext hxu1
    clear Hbb
    have bb0 := bb.at0
    have bb1 := bb.at1
    have bbg := bb.1
    have Hbb := Lib.hid bb
    clear bb
    clear bc0 bc1 bcg
    have bc := Hbc.out.ext hxu1
    clear Hbc
    have bc0 := bc.at0
    have bc1 := bc.at1
    have bcg := bc.1
    have Hbc := Lib.hid bc
    clear bc
    clear bd0 bd1 bdg
    have bd := Hbd.out.ext hxu1
    clear Hbd
    have bd0 := bd.at0
    have bd1 := bd.at1
    have bdg := bd.1
    have Hbd := Lib.hid bd
    clear bd
    clear be0 be1 beg
    have be := Hbe.out.ext hxu1
    clear Hbe
    have be0 := be.at0
    have be1 := be.at1
    have beg := be.1
    have Hbe := Lib.hid be
    clear be
    clear bf0 bf1 bfg
    have bf := Hbf.out.ext hxu1
    clear Hbf
    have bf0 := bf.at0
    have bf1 := bf.at1
    have bfg := bf.1
    have Hbf := Lib.hid bf
    clear bf
    clear bg0 bg1 bgg
    have bg := Hbg.out.ext hxu1
    clear Hbg
    have bg0 := bg.at0
    have bg1 := bg.at1
    have bgg := bg.1
    have Hbg := Lib.hid bg
    clear bg
    by_cases h0 : (smL n).length = 0
    case pos =>
      have h0i : ((smL n).length : Int) = 0 := by omega
      go_wp2_with fail
      go_ret
      exact ⟨rfl, (((((((((((((((((((((((hxN.trans hxwb2).trans hxR).trans hxM).trans hxP).trans hxwb6).trans hxG).trans hxwb8).trans hxQ).trans hxwb10).trans hxB).trans hxwb12).trans hxi0).trans hxi1).trans hxC).trans hxwb16).trans hxj0).trans hxj1).trans hxt1).trans hxt2).trans hxv1).trans hxwb22).trans hxv2).trans hxu1)⟩
    have h0i : ¬ ((smL n).length : Int) = 0 := by omega
    have h0f : (((smL n).length : Int) == 0) = false := by simpa using h0i
    have h1i : (1 : Int) ≤ ((smL n).length : Int) := by omega
    obtain ⟨k5, k6⟩ := k4 (fun hh => h0 (by rw [hh]; rfl))
    obtain ⟨rb, ro, hRa, _, hrb, _⟩ := (IR.out.up ((((((((((((((((((((hxM.trans hxP).trans hxwb6).trans hxG).trans hxwb8).trans hxQ).trans hxwb10).trans hxB).trans hxwb12).trans hxi0).trans hxi1).trans hxC).trans hxwb16).trans hxj0).trans hxj1).trans hxt1).trans hxt2).trans hxv1).trans hxwb22).trans hxv2).trans hxu1)).at_ (i := 0) (by omega)
    have IT := Lib.hid ((IR.out.up ((((((((((((((((((((hxM.trans hxP).trans hxwb6).trans hxG).trans hxwb8).trans hxQ).trans hxwb10).trans hxB).trans hxwb12).trans hxi0).trans hxi1).trans hxC).trans hxwb16).trans hxj0).trans hxj1).trans hxt1).trans hxt2).trans hxv1).trans hxwb22).trans hxv2).trans hxu1)).tail2 hRa (by omega))
    subst hRa
    have hRcap := IR.out.cap_le
    have hci : ((smL n).length : Int) ≤ (Rc : Int) := by omega
    go_wp2_with fail
    (refine wp_region_onto prog_mixed (by kernel_rfl) ?_; (repeat (go_big_quiet_step ((go_at_call 39; exact onto_callX (impl_IsRepair _ _ _ n (smL n).tail _ (HN.out.up (((((((((((((((((((((((hxwb2.trans hxR).trans hxM).trans hxP).trans hxwb6).trans hxG).trans hxwb8).trans hxQ).trans hxwb10).trans hxB).trans hxwb12).trans hxi0).trans hxi1).trans hxC).trans hxwb16).trans hxj0).trans hxj1).trans hxt1).trans hxt2).trans hxv1).trans hxwb22).trans hxv2).trans hxu1).trans (onto_ext _ _))) (IT.out.up (onto_ext _ _))))))); refine onto_end ?_; intro w9 hx9)
    have hz25 : wu1.heap.size ≤ w9.heap.size := hx9.size
    clear ba0 ba1 bag
    have ba := Hba.out.ext hx9
    clear Hba
    have ba0 := ba.at0
    have ba1 := ba.at1
    have bag := ba.1
    have Hba := Lib.hid ba
    clear ba
    clear bb0 bb1 bbg
    have bb := Hbb.out.ext hx9
    clear Hbb
    have bb0 := bb.at0
    have bb1 := bb.at1
    have bbg := bb.1
    have Hbb := Lib.hid bb
    clear bb
    clear bc0 bc1 bcg
    have bc := Hbc.out.ext hx9
    clear Hbc
    have bc0 := bc.at0
    have bc1 := bc.at1
    have bcg := bc.1
    have Hbc := Lib.hid bc
    clear bc
    clear bd0 bd1 bdg
    have bd := Hbd.out.ext hx9
    clear Hbd
    have bd0 := bd.at0
    have bd1 := bd.at1
    have bdg := bd.1
    have Hbd := Lib.hid bd
    clear bd
    clear be0 be1 beg
    have be := Hbe.out.ext hx9
    clear Hbe
    have be0 := be.at0
    have be1 := be.at1
    have beg := be.1
    have Hbe := Lib.hid be
    clear be
    clear bf0 bf1 bfg
    have bf := Hbf.out.ext hx9
    clear Hbf
    have bf0 := bf.at0
    have bf1 := bf.at1
    have bfg := bf.1
    have Hbf := Lib.hid bf
    clear bf
    clear bg0 bg1 bgg
    have bg := Hbg.out.ext hx9
    clear Hbg
    have bg0 := bg.at0
    have bg1 := bg.at1
    have bgg := bg.1
    have Hbg := Lib.hid bg
    clear bg
    rw [k5, k6]
    go_wp2_with fail
    all_goals
      go_ret
      exact ⟨rfl, ((((((((((((((((((((((((hxN.trans hxwb2).trans hxR).trans hxM).trans hxP).trans hxwb6).trans hxG).trans hxwb8).trans hxQ).trans hxwb10).trans hxB).trans hxwb12).trans hxi0).trans hxi1).trans hxC).trans hxwb16).trans hxj0).trans hxj1).trans hxt1).trans hxt2).trans hxv1).trans hxwb22).trans hxv2).trans hxu1).trans hx9)⟩
  · have h1f : (blE b lb == 0) = false := by simpa using h1
    by_cases h2 : smE n = 0
    case neg =>
      have h2f : (smE n == 0) = false := by simpa using h2
      go_wp2_with fail
      go_ret
      exact ⟨rfl, ((((((((((((((((((((hxN.trans hxwb2).trans hxR).trans hxM).trans hxP).trans hxwb6).trans hxG).trans hxwb8).trans hxQ).trans hxwb10).trans hxB).trans hxwb12).trans hxi0).trans hxi1).trans hxC).trans hxwb16).trans hxj0).trans hxj1).trans hxt1).trans hxt2).trans (by repeat (first | exact Ext.refl _ | assumption | refine Ext.alloc ?_ _ | refine Ext.drew ?_ | refine Ext.drewN ?_ _ | refine Ext.setCell ?_ (by first | (simp; done) | (simp; omega) | omega) _ | refine Ext.trans ?_ (by assumption))))⟩
    obtain ⟨k1, k2, k3, k4⟩ := sm_law h2
    have hlt : ¬ (2 : Int) < ((smL n).length : Int) := by omega
    go_wp2_with fail
    refine Calls.mono (impl_IsRepair _ _ _ n (smL n) _ (HN.out.up (((((((((((((((((((hxwb2.trans hxR).trans hxM).trans hxP).trans hxwb6).trans hxG).trans hxwb8).trans hxQ).trans hxwb10).trans hxB).trans hxwb12).trans hxi0).trans hxi1).trans hxC).trans hxwb16).trans hxj0).trans hxj1).trans hxt1).trans hxt2).trans (by repeat (first | exact Ext.refl _ | assumption | refine Ext.alloc ?_ _ | refine Ext.drew ?_ | refine Ext.drewN ?_ _ | refine Ext.setCell ?_ (by first | (simp; done) | (simp; omega) | omega) _ | refine Ext.trans ?_ (by assumption))))) (IR.out.up (((((((((((((((((hxM.trans hxP).trans hxwb6).trans hxG).trans hxwb8).trans hxQ).trans hxwb10).trans hxB).trans hxwb12).trans hxi0).trans hxi1).trans hxC).trans hxwb16).trans hxj0).trans hxj1).trans hxt1).trans hxt2).trans (by repeat (first | exact Ext.refl _ | assumption | refine Ext.alloc ?_ _ | refine Ext.drew ?_ | refine Ext.drewN ?_ _ | refine Ext.setCell ?_ (by first | (simp; done) | (simp; omega) | omega) _ | refine Ext.trans ?_ (by assumption)))))) ?_
    rintro e wu1 ⟨rfl, hxu1⟩
    rw [k1, k2]
    have hz21 : wt2.heap.size ≤ wu1.heap.size := hxu1.size
    clear ba0 ba1 bag
    have ba := Hba.out.ext hxu1
    clear Hba
    have ba0 := ba.at0
    have ba1 := ba.at1
    have bag := ba.1
    have Hba := Lib.hid ba
    clear ba
    clear bb0 bb1 bbg
    have bb := Hbb.out.ext hxu1
    clear Hbb
    have bb0 := bb.at0
    have bb1 := bb.at1
    have bbg := bb.1
    have Hbb := Lib.hid bb
    clear bb
    clear bc0 bc1 bcg
    have bc := Hbc.out.ext hxu1
    clear Hbc
    have bc0 := bc.at0
    have bc1 := bc.at1
    have bcg := bc.1
    have Hbc := Lib.hid bc
    clear bc
    clear bd0 bd1 bdg
    have bd := Hbd.out.ext hxu1
    clear Hbd
    have bd0 := bd.at0
    have bd1 := bd.at1
    have bdg := bd.1
    have Hbd := Lib.hid bd
    clear bd
    clear be0 be1 beg
    have be := Hbe.out.ext hxu1
    clear Hbe
    have be0 := be.at0
    have be1 := be.at1
    have beg := be.1
    have Hbe := Lib.hid be
    clear be
    clear bf0 bf1 bfg
    have bf := Hbf.out.ext hxu1
    clear Hbf
    have bf0 := bf.at0
    have bf1 := bf.at1
    have bfg := bf.1
    have Hbf := Lib.hid bf
    clear bf
    by_cases h0 : (smL n).length = 0
    case pos =>
      have h0i : ((smL n).length : Int) = 0 := by omega
      go_wp2_with fail
      go_ret
      exact ⟨rfl, ((((((((((((((((((((hxN.trans hxwb2).trans hxR).trans hxM).trans hxP).trans hxwb6).trans hxG).trans hxwb8).trans hxQ).trans hxwb10).trans hxB).trans hxwb12).trans hxi0).trans hxi1).trans hxC).trans hxwb16).trans hxj0).trans hxj1).trans hxt1).trans hxt2).trans hxu1)⟩
    have h0i : ¬ ((smL n).length : Int) = 0 := by omega
    have h0f : (((smL n).length : Int) == 0) = false := by simpa using h0i
    have h1i : (1 : Int) ≤ ((smL n).length : Int) := by omega
    obtain ⟨k5, k6⟩ := k4 (fun hh => h0 (by rw [hh]; rfl))
    obtain ⟨rb, ro, hRa, _, hrb, _⟩ := (IR.out.up (((((((((((((((((hxM.trans hxP).trans hxwb6).trans hxG).trans hxwb8).trans hxQ).trans hxwb10).trans hxB).trans hxwb12).trans hxi0).trans hxi1).trans hxC).trans hxwb16).trans hxj0).trans hxj1).trans hxt1).trans hxt2).trans hxu1)).at_ (i := 0) (by omega)
    have IT := Lib.hid ((IR.out.up (((((((((((((((((hxM.trans hxP).trans hxwb6).trans hxG).trans hxwb8).trans hxQ).trans hxwb10).trans hxB).trans hxwb12).trans hxi0).trans hxi1).trans hxC).trans hxwb16).trans hxj0).trans hxj1).trans hxt1).trans hxt2).trans hxu1)).tail2 hRa (by omega))
    subst hRa
    have hRcap := IR.out.cap_le
    have hci : ((smL n).length : Int) ≤ (Rc : Int) := by omega
    go_wp2_with fail
    (refine wp_region_onto prog_mixed (by kernel_rfl) ?_; (repeat (go_big_quiet_step ((go_at_call 39; exact onto_callX (impl_IsRepair _ _ _ n (smL n).tail _ (HN.out.up ((((((((((((((((((((hxwb2.trans hxR).trans hxM).trans hxP).trans hxwb6).trans hxG).trans hxwb8).trans hxQ).trans hxwb10).trans hxB).trans hxwb12).trans hxi0).trans hxi1).trans hxC).trans hxwb16).trans hxj0).trans hxj1).trans hxt1).trans hxt2).trans hxu1).trans (onto_ext _ _))) (IT.out.up (onto_ext _ _))))))); refine onto_end ?_; intro w9 hx9)
    have hz22 : wu1.heap.size ≤ w9.heap.size := hx9.size
    clear ba0 ba1 bag
    have ba := Hba.out.ext hx9
    clear Hba
    have ba0 := ba.at0
    have ba1 := ba.at1
    have bag := ba.1
    have Hba := Lib.hid ba
    clear ba
    clear bb0 bb1 bbg
    have bb := Hbb.out.ext hx9
    clear Hbb
    have bb0 := bb.at0
    have bb1 := bb.at1
    have bbg := bb.1
    have Hbb := Lib.hid bb
    clear bb
    clear bc0 bc1 bcg
    have bc := Hbc.out.ext hx9
    clear Hbc
    have bc0 := bc.at0
    have bc1 := bc.at1
    have bcg := bc.1
    have Hbc := Lib.hid bc
    clear bc
    clear bd0 bd1 bdg
    have bd := Hbd.out.ext hx9
    clear Hbd
    have bd0 := bd.at0
    have bd1 := bd.at1
    have bdg := bd.1
    have Hbd := Lib.hid bd
    clear bd
    clear be0 be1 beg
    have be := Hbe.out.ext hx9
    clear Hbe
    have be0 := be.at0
    have be1 := be.at1
    have beg := be.1
    have Hbe := Lib.hid be
    clear be
    clear bf0 bf1 bfg
    have bf := Hbf.out.ext hx9
    clear Hbf
    have bf0 := bf.at0
    have bf1 := bf.at1
    have bfg := bf.1
    have Hbf := Lib.hid bf
    clear bf
    rw [k5, k6]
    go_wp2_with fail
    all_goals
      go_ret
      exact ⟨rfl, (((((((((((((((((((((hxN.trans hxwb2).trans hxR).trans hxM).trans hxP).trans hxwb6).trans hxG).trans hxwb8).trans hxQ).trans hxwb10).trans hxB).trans hxwb12).trans hxi0).trans hxi1).trans hxC).trans hxwb16).trans hxj0).trans hxj1).trans hxt1).trans hxt2).trans hxu1).trans hx9)⟩
end Go.Proofs.Ytfajmlkiidnhlaa
