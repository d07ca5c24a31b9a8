/- The law FnContradictions, walked out of the contracts of the draws, the program's functions and the reference's. -/
import Derived.Test.YtfmnkojjkjkdeaaGreatDoorQ3Yc
import Derived.Test.YtfmnkojjkjkdeaaGreatDoorQ3Ic
import Derived.Test.YtfmnkojjkjkdeaaGreatDoorQ3Zt
import Derived.Test.YtfmnkojjkjkdeaaGreatDoorQ3Ha
import Derived.Test.YtfmnkojjkjkdeaaGreatDoorQ3Tf
import Derived.Deep.RegionHeld3
import Derived.Deep.RegionLaw
import Derived.IntWalk
namespace Go.Proofs.YtfmnkojjkjkdeaaGreatDoor
set_option linter.unusedVariables false
set_option linter.unusedSimpArgs false
open Go.RowKit
attribute [local go_sem] cell_onto

/-- one number of a list, as Go cuts it out -/
theorem Ints.one {w : World} {lo hi b off c j m : Nat} {l : List Int} (h : Ints w lo hi (.slice (some ⟨b, off, none⟩) m c) l) (hj : j < l.length) : Ints w lo hi (.slice (some ⟨b, off + j, none⟩) 1 (c - j)) [inAt l j] := by
  obtain ⟨hm, A', c', e, hc, hr⟩ := h
  injection e with e1 e2 e3
  subst e3
  obtain ⟨b', off', e4, h1, h2, h3⟩ := hr (by omega)
  rw [← e1] at e4
  injection e4 with e4
  injection e4 with e5 e6
  subst e5 e6
  refine ⟨by unfold maxLen; simp, _, _, rfl, by simp; omega, fun _ => ⟨b, off + j, rfl, h1, h2, fun i hi => ?_⟩⟩
  have : i = 0 := by simpa using hi
  subst this
  rw [Nat.add_zero, h3 j (by omega)]
  rfl
set_option maxRecDepth 100000 in
set_option maxHeartbeats 16000000 in
theorem law_FnContradictions (v : Value) (cn : Nat) (w : World) (h : Byts w v cn) (ht : TabW w) : Calls Tryz.prog 3 #[v] w (RetX (.bool true) w) := by
  obtain ⟨A, c, rfl⟩ := h.len
  have HX0 := Lib.hid h
  have Ht := Lib.hid ht
  clear h ht
  go_enter Tryz.func3, Tryz.ntmps3
  go_wp2_with fail
  by_cases hbig : cn ≤ 4096
  case neg =>
    refine Calls.mono (laws_big_yes cn A c w hbig) ?_
    rintro e w' ⟨rfl, rfl⟩
    go_wp2_with fail
    go_ret
    exact ⟨rfl, (by repeat (first | exact Ext.refl _ | assumption | refine Ext.alloc ?_ _ | refine Ext.drew ?_ | refine Ext.drewN ?_ _ | refine Ext.setCell ?_ (by first | (simp; done) | (simp; omega) | omega) _ | refine Ext.trans ?_ (by assumption)))⟩
  have H := Lib.hid (HX0.out.few hbig)
  refine Calls.mono (laws_big_no cn A c w hbig) ?_
  rintro e w' ⟨rfl, rfl⟩
  clear HX0 hbig
  go_wp2_with fail
  refine Calls.mono (spec_DrawIsConflict cn _ _ (H.out.up (by repeat (first | exact Ext.refl _ | assumption | refine Ext.alloc ?_ _ | refine Ext.drew ?_ | refine Ext.drewN ?_ _ | refine Ext.setCell ?_ (by first | (simp; done) | (simp; omega) | omega) _ | refine Ext.trans ?_ (by assumption))))) ?_
  intro e wN hp
  obtain ⟨Ns, Ncs, Nk, Nck, n, Na, Nc, l, rfl, hxN, -, HN, IN⟩ := hp.plain
  clear hp
  have hz1 : w.heap.size ≤ wN.heap.size := hxN.size
  obtain ⟨wb2, hwb2⟩ : ∃ x : World, x = wN.alloc (.cells #[.slice Ns n.sets.length Ncs, .slice Nk n.links.length Nck] 27) := ⟨_, rfl⟩
  have hxwb2 : Ext wN wb2 := by rw [hwb2]; exact (by repeat (first | exact Ext.refl _ | assumption | refine Ext.alloc ?_ _ | refine Ext.drew ?_ | refine Ext.drewN ?_ _ | refine Ext.setCell ?_ (by first | (simp; done) | (simp; omega) | omega) _ | refine Ext.trans ?_ (by assumption)))
  have Hba := Lib.hid (show Boxed wb2 wN.heap.size [.slice Ns n.sets.length Ncs, .slice Nk n.links.length Nck] from by rw [hwb2]; exact Boxed.new wN [.slice Ns n.sets.length Ncs, .slice Nk n.links.length Nck] 27)
  go_wp2_with fail
  rw [← hwb2]
  clear hwb2
  have hz2 : wN.heap.size ≤ wb2.heap.size := hxwb2.size
  have ba0 := Hba.out.at0
  have ba1 := Hba.out.at1
  have bag := Hba.out.1
  refine Calls.mono (impl_IsConflict _ _ _ n l _ (HN.out.up (hxwb2.trans (by repeat (first | exact Ext.refl _ | assumption | refine Ext.alloc ?_ _ | refine Ext.drew ?_ | refine Ext.drewN ?_ _ | refine Ext.setCell ?_ (by first | (simp; done) | (simp; omega) | omega) _ | refine Ext.trans ?_ (by assumption))))) (IN.out.up (hxwb2.trans (by repeat (first | exact Ext.refl _ | assumption | refine Ext.alloc ?_ _ | refine Ext.drew ?_ | refine Ext.drewN ?_ _ | refine Ext.setCell ?_ (by first | (simp; done) | (simp; omega) | omega) _ | refine Ext.trans ?_ (by assumption)))))) ?_
  rintro e wi0 ⟨rfl, hxi0⟩
  have hz3 : wb2.heap.size ≤ wi0.heap.size := hxi0.size
  clear ba0 ba1 bag
  have ba := Hba.out.ext hxi0
  clear Hba
  have ba0 := ba.at0
  have ba1 := ba.at1
  have bag := ba.1
  have Hba := Lib.hid ba
  clear ba
  go_wp2_with fail
  refine Calls.mono (spec_IsConflict _ _ _ n l _ (HN.out.up ((hxwb2.trans hxi0).trans (by repeat (first | exact Ext.refl _ | assumption | refine Ext.alloc ?_ _ | refine Ext.drew ?_ | refine Ext.drewN ?_ _ | refine Ext.setCell ?_ (by first | (simp; done) | (simp; omega) | omega) _ | refine Ext.trans ?_ (by assumption))))) (IN.out.up ((hxwb2.trans hxi0).trans (by repeat (first | exact Ext.refl _ | assumption | refine Ext.alloc ?_ _ | refine Ext.drew ?_ | refine Ext.drewN ?_ _ | refine Ext.setCell ?_ (by first | (simp; done) | (simp; omega) | omega) _ | refine Ext.trans ?_ (by assumption)))))) ?_
  rintro e wi1 ⟨rfl, hxi1⟩
  have hz4 : wi0.heap.size ≤ wi1.heap.size := hxi1.size
  clear ba0 ba1 bag
  have ba := Hba.out.ext hxi1
  clear Hba
  have ba0 := ba.at0
  have ba1 := ba.at1
  have bag := ba.1
  have Hba := Lib.hid ba
  clear ba
  go_wp2_with fail
  refine Calls.mono (spec_DrawDoContradict cn _ _ (H.out.up ((((hxN.trans hxwb2).trans hxi0).trans hxi1).trans (by repeat (first | exact Ext.refl _ | assumption | refine Ext.alloc ?_ _ | refine Ext.drew ?_ | refine Ext.drewN ?_ _ | refine Ext.setCell ?_ (by first | (simp; done) | (simp; omega) | omega) _ | refine Ext.trans ?_ (by assumption)))))) ?_
  intro e wB hp
  obtain ⟨Bs, Bcs, Bk, Bck, b, Ba, Bc, lb, rfl, hxB, -, HB, IB⟩ := hp.plain
  clear hp
  have hz5 : wi1.heap.size ≤ wB.heap.size := hxB.size
  clear ba0 ba1 bag
  have ba := Hba.out.ext hxB
  clear Hba
  have ba0 := ba.at0
  have ba1 := ba.at1
  have bag := ba.1
  have Hba := Lib.hid ba
  clear ba
  obtain ⟨wb6, hwb6⟩ : ∃ x : World, x = wB.alloc (.cells #[.slice Bs b.sets.length Bcs, .slice Bk b.links.length Bck] 27) := ⟨_, rfl⟩
  have hxwb6 : Ext wB wb6 := by rw [hwb6]; exact (by repeat (first | exact Ext.refl _ | assumption | refine Ext.alloc ?_ _ | refine Ext.drew ?_ | refine Ext.drewN ?_ _ | refine Ext.setCell ?_ (by first | (simp; done) | (simp; omega) | omega) _ | refine Ext.trans ?_ (by assumption)))
  have Hbb := Lib.hid (show Boxed wb6 wB.heap.size [.slice Bs b.sets.length Bcs, .slice Bk b.links.length Bck] from by rw [hwb6]; exact Boxed.new wB [.slice Bs b.sets.length Bcs, .slice Bk b.links.length Bck] 27)
  go_wp2_with fail
  rw [← hwb6]
  clear hwb6
  have hz6 : wB.heap.size ≤ wb6.heap.size := hxwb6.size
  clear ba0 ba1 bag
  have ba := Hba.out.ext hxwb6
  clear Hba
  have ba0 := ba.at0
  have ba1 := ba.at1
  have bag := ba.1
  have Hba := Lib.hid ba
  clear ba
  have bb0 := Hbb.out.at0
  have bb1 := Hbb.out.at1
  have bbg := Hbb.out.1
  refine Calls.mono (impl_DoContradict _ _ _ b lb _ (HB.out.up (hxwb6.trans (by repeat (first | exact Ext.refl _ | assumption | refine Ext.alloc ?_ _ | refine Ext.drew ?_ | refine Ext.drewN ?_ _ | refine Ext.setCell ?_ (by first | (simp; done) | (simp; omega) | omega) _ | refine Ext.trans ?_ (by assumption))))) (IB.out.up (hxwb6.trans (by repeat (first | exact Ext.refl _ | assumption | refine Ext.alloc ?_ _ | refine Ext.drew ?_ | refine Ext.drewN ?_ _ | refine Ext.setCell ?_ (by first | (simp; done) | (simp; omega) | omega) _ | refine Ext.trans ?_ (by assumption)))))) ?_
  rintro e wj0 ⟨rfl, hxj0⟩
  have hz7 : wb6.heap.size ≤ wj0.heap.size := hxj0.size
  clear ba0 ba1 bag
  have ba := Hba.out.ext hxj0
  clear Hba
  have ba0 := ba.at0
  have ba1 := ba.at1
  have bag := ba.1
  have Hba := Lib.hid ba
  clear ba
  clear bb0 bb1 bbg
  have bb := Hbb.out.ext hxj0
  clear Hbb
  have bb0 := bb.at0
  have bb1 := bb.at1
  have bbg := bb.1
  have Hbb := Lib.hid bb
  clear bb
  go_wp2_with fail
  refine Calls.mono (spec_DoContradict _ _ _ b lb _ (HB.out.up ((hxwb6.trans hxj0).trans (by repeat (first | exact Ext.refl _ | assumption | refine Ext.alloc ?_ _ | refine Ext.drew ?_ | refine Ext.drewN ?_ _ | refine Ext.setCell ?_ (by first | (simp; done) | (simp; omega) | omega) _ | refine Ext.trans ?_ (by assumption))))) (IB.out.up ((hxwb6.trans hxj0).trans (by repeat (first | exact Ext.refl _ | assumption | refine Ext.alloc ?_ _ | refine Ext.drew ?_ | refine Ext.drewN ?_ _ | refine Ext.setCell ?_ (by first | (simp; done) | (simp; omega) | omega) _ | refine Ext.trans ?_ (by assumption)))))) ?_
  rintro e wj1 ⟨rfl, hxj1⟩
  have hz8 : wj0.heap.size ≤ wj1.heap.size := hxj1.size
  clear ba0 ba1 bag
  have ba := Hba.out.ext hxj1
  clear Hba
  have ba0 := ba.at0
  have ba1 := ba.at1
  have bag := ba.1
  have Hba := Lib.hid ba
  clear ba
  clear bb0 bb1 bbg
  have bb := Hbb.out.ext hxj1
  clear Hbb
  have bb0 := bb.at0
  have bb1 := bb.at1
  have bbg := bb.1
  have Hbb := Lib.hid bb
  clear bb
  go_wp2_with fail
  refine Calls.mono (spec_DrawDisputedStatements cn _ _ (H.out.up ((((((((hxN.trans hxwb2).trans hxi0).trans hxi1).trans hxB).trans hxwb6).trans hxj0).trans hxj1).trans (by repeat (first | exact Ext.refl _ | assumption | refine Ext.alloc ?_ _ | refine Ext.drew ?_ | refine Ext.drewN ?_ _ | refine Ext.setCell ?_ (by first | (simp; done) | (simp; omega) | omega) _ | refine Ext.trans ?_ (by assumption)))))) ?_
  intro e wM hp
  obtain ⟨Ms, Mcs, Mk, Mck, m, rfl, hxM, HM⟩ := hp.plain
  clear hp
  have hz9 : wj1.heap.size ≤ wM.heap.size := hxM.size
  clear ba0 ba1 bag
  have ba := Hba.out.ext hxM
  clear Hba
  have ba0 := ba.at0
  have ba1 := ba.at1
  have bag := ba.1
  have Hba := Lib.hid ba
  clear ba
  clear bb0 bb1 bbg
  have bb := Hbb.out.ext hxM
  clear Hbb
  have bb0 := bb.at0
  have bb1 := bb.at1
  have bbg := bb.1
  have Hbb := Lib.hid bb
  clear bb
  obtain ⟨wb10, hwb10⟩ : ∃ x : World, x = wM.alloc (.cells #[.slice Ms m.sets.length Mcs, .slice Mk m.links.length Mck] 27) := ⟨_, rfl⟩
  have hxwb10 : Ext wM wb10 := by rw [hwb10]; exact (by repeat (first | exact Ext.refl _ | assumption | refine Ext.alloc ?_ _ | refine Ext.drew ?_ | refine Ext.drewN ?_ _ | refine Ext.setCell ?_ (by first | (simp; done) | (simp; omega) | omega) _ | refine Ext.trans ?_ (by assumption)))
  have Hbc := Lib.hid (show Boxed wb10 wM.heap.size [.slice Ms m.sets.length Mcs, .slice Mk m.links.length Mck] from by rw [hwb10]; exact Boxed.new wM [.slice Ms m.sets.length Mcs, .slice Mk m.links.length Mck] 27)
  go_wp2_with fail
  rw [← hwb10]
  clear hwb10
  have hz10 : wM.heap.size ≤ wb10.heap.size := hxwb10.size
  clear ba0 ba1 bag
  have ba := Hba.out.ext hxwb10
  clear Hba
  have ba0 := ba.at0
  have ba1 := ba.at1
  have bag := ba.1
  have Hba := Lib.hid ba
  clear ba
  clear bb0 bb1 bbg
  have bb := Hbb.out.ext hxwb10
  clear Hbb
  have bb0 := bb.at0
  have bb1 := bb.at1
  have bbg := bb.1
  have Hbb := Lib.hid bb
  clear bb
  have bc0 := Hbc.out.at0
  have bc1 := Hbc.out.at1
  have bcg := Hbc.out.1
  refine Calls.mono (impl_DisputedStatements _ _ m _ (HM.out.up (hxwb10.trans (by repeat (first | exact Ext.refl _ | assumption | refine Ext.alloc ?_ _ | refine Ext.drew ?_ | refine Ext.drewN ?_ _ | refine Ext.setCell ?_ (by first | (simp; done) | (simp; omega) | omega) _ | refine Ext.trans ?_ (by assumption)))))) ?_
  intro e wD hp
  obtain ⟨Da, Dc, rfl, hxD, ID⟩ := hp.plain
  clear hp
  have hz11 : wb10.heap.size ≤ wD.heap.size := hxD.size
  clear ba0 ba1 bag
  have ba := Hba.out.ext hxD
  clear Hba
  have ba0 := ba.at0
  have ba1 := ba.at1
  have bag := ba.1
  have Hba := Lib.hid ba
  clear ba
  clear bb0 bb1 bbg
  have bb := Hbb.out.ext hxD
  clear Hbb
  have bb0 := bb.at0
  have bb1 := bb.at1
  have bbg := bb.1
  have Hbb := Lib.hid bb
  clear bb
  clear bc0 bc1 bcg
  have bc := Hbc.out.ext hxD
  clear Hbc
  have bc0 := bc.at0
  have bc1 := bc.at1
  have bcg := bc.1
  have Hbc := Lib.hid bc
  clear bc
  go_wp2_with fail
  refine Calls.mono (spec_DisputedStatements _ _ m _ (HM.out.up ((hxwb10.trans hxD).trans (by repeat (first | exact Ext.refl _ | assumption | refine Ext.alloc ?_ _ | refine Ext.drew ?_ | refine Ext.drewN ?_ _ | refine Ext.setCell ?_ (by first | (simp; done) | (simp; omega) | omega) _ | refine Ext.trans ?_ (by assumption)))))) ?_
  intro e wE hp
  obtain ⟨Ea, Ec, rfl, hxE, IE⟩ := hp.plain
  clear hp
  have hz12 : wD.heap.size ≤ wE.heap.size := hxE.size
  clear ba0 ba1 bag
  have ba := Hba.out.ext hxE
  clear Hba
  have ba0 := ba.at0
  have ba1 := ba.at1
  have bag := ba.1
  have Hba := Lib.hid ba
  clear ba
  clear bb0 bb1 bbg
  have bb := Hbb.out.ext hxE
  clear Hbb
  have bb0 := bb.at0
  have bb1 := bb.at1
  have bbg := bb.1
  have Hbb := Lib.hid bb
  clear bb
  clear bc0 bc1 bcg
  have bc := Hbc.out.ext hxE
  clear Hbc
  have bc0 := bc.at0
  have bc1 := bc.at1
  have bcg := bc.1
  have Hbc := Lib.hid bc
  clear bc
  go_wp2_with fail
  refine Calls.mono (spec_DrawStatementText cn _ _ (H.out.up ((((((((((((hxN.trans hxwb2).trans hxi0).trans hxi1).trans hxB).trans hxwb6).trans hxj0).trans hxj1).trans hxM).trans hxwb10).trans hxD).trans hxE).trans (by repeat (first | exact Ext.refl _ | assumption | refine Ext.alloc ?_ _ | refine Ext.drew ?_ | refine Ext.drewN ?_ _ | refine Ext.setCell ?_ (by first | (simp; done) | (simp; omega) | omega) _ | refine Ext.trans ?_ (by assumption)))))) ?_
  intro e wX hp
  obtain ⟨Xs, Xcs, Xk, Xck, xn, kx, rfl, hxX, HX⟩ := hp.plain
  clear hp
  have hz13 : wE.heap.size ≤ wX.heap.size := hxX.size
  clear ba0 ba1 bag
  have ba := Hba.out.ext hxX
  clear Hba
  have ba0 := ba.at0
  have ba1 := ba.at1
  have bag := ba.1
  have Hba := Lib.hid ba
  clear ba
  clear bb0 bb1 bbg
  have bb := Hbb.out.ext hxX
  clear Hbb
  have bb0 := bb.at0
  have bb1 := bb.at1
  have bbg := bb.1
  have Hbb := Lib.hid bb
  clear bb
  clear bc0 bc1 bcg
  have bc := Hbc.out.ext hxX
  clear Hbc
  have bc0 := bc.at0
  have bc1 := bc.at1
  have bcg := bc.1
  have Hbc := Lib.hid bc
  clear bc
  obtain ⟨wb14, hwb14⟩ : ∃ x : World, x = wX.alloc (.cells #[.slice Xs xn.sets.length Xcs, .slice Xk xn.links.length Xck] 27) := ⟨_, rfl⟩
  have hxwb14 : Ext wX wb14 := by rw [hwb14]; exact (by repeat (first | exact Ext.refl _ | assumption | refine Ext.alloc ?_ _ | refine Ext.drew ?_ | refine Ext.drewN ?_ _ | refine Ext.setCell ?_ (by first | (simp; done) | (simp; omega) | omega) _ | refine Ext.trans ?_ (by assumption)))
  have Hbd := Lib.hid (show Boxed wb14 wX.heap.size [.slice Xs xn.sets.length Xcs, .slice Xk xn.links.length Xck] from by rw [hwb14]; exact Boxed.new wX [.slice Xs xn.sets.length Xcs, .slice Xk xn.links.length Xck] 27)
  go_wp2_with fail
  rw [← hwb14]
  clear hwb14
  have hz14 : wX.heap.size ≤ wb14.heap.size := hxwb14.size
  clear ba0 ba1 bag
  have ba := Hba.out.ext hxwb14
  clear Hba
  have ba0 := ba.at0
  have ba1 := ba.at1
  have bag := ba.1
  have Hba := Lib.hid ba
  clear ba
  clear bb0 bb1 bbg
  have bb := Hbb.out.ext hxwb14
  clear Hbb
  have bb0 := bb.at0
  have bb1 := bb.at1
  have bbg := bb.1
  have Hbb := Lib.hid bb
  clear bb
  clear bc0 bc1 bcg
  have bc := Hbc.out.ext hxwb14
  clear Hbc
  have bc0 := bc.at0
  have bc1 := bc.at1
  have bcg := bc.1
  have Hbc := Lib.hid bc
  clear bc
  have bd0 := Hbd.out.at0
  have bd1 := Hbd.out.at1
  have bdg := Hbd.out.1
  refine Calls.mono (impl_StatementText _ _ xn kx _ (HX.out.up (hxwb14.trans (by repeat (first | exact Ext.refl _ | assumption | refine Ext.alloc ?_ _ | refine Ext.drew ?_ | refine Ext.drewN ?_ _ | refine Ext.setCell ?_ (by first | (simp; done) | (simp; omega) | omega) _ | refine Ext.trans ?_ (by assumption))))) (Ht.out.ext ((((((((((((((hxN.trans hxwb2).trans hxi0).trans hxi1).trans hxB).trans hxwb6).trans hxj0).trans hxj1).trans hxM).trans hxwb10).trans hxD).trans hxE).trans hxX).trans hxwb14).trans (by repeat (first | exact Ext.refl _ | assumption | refine Ext.alloc ?_ _ | refine Ext.drew ?_ | refine Ext.drewN ?_ _ | refine Ext.setCell ?_ (by first | (simp; done) | (simp; omega) | omega) _ | refine Ext.trans ?_ (by assumption)))))) ?_
  rintro e wk0 ⟨rfl, hxk0⟩
  have hz15 : wb14.heap.size ≤ wk0.heap.size := hxk0.size
  clear ba0 ba1 bag
  have ba := Hba.out.ext hxk0
  clear Hba
  have ba0 := ba.at0
  have ba1 := ba.at1
  have bag := ba.1
  have Hba := Lib.hid ba
  clear ba
  clear bb0 bb1 bbg
  have bb := Hbb.out.ext hxk0
  clear Hbb
  have bb0 := bb.at0
  have bb1 := bb.at1
  have bbg := bb.1
  have Hbb := Lib.hid bb
  clear bb
  clear bc0 bc1 bcg
  have bc := Hbc.out.ext hxk0
  clear Hbc
  have bc0 := bc.at0
  have bc1 := bc.at1
  have bcg := bc.1
  have Hbc := Lib.hid bc
  clear bc
  clear bd0 bd1 bdg
  have bd := Hbd.out.ext hxk0
  clear Hbd
  have bd0 := bd.at0
  have bd1 := bd.at1
  have bdg := bd.1
  have Hbd := Lib.hid bd
  clear bd
  go_wp2_with fail
  refine Calls.mono (spec_StatementText _ _ xn kx _ (HX.out.up ((hxwb14.trans hxk0).trans (by repeat (first | exact Ext.refl _ | assumption | refine Ext.alloc ?_ _ | refine Ext.drew ?_ | refine Ext.drewN ?_ _ | refine Ext.setCell ?_ (by first | (simp; done) | (simp; omega) | omega) _ | refine Ext.trans ?_ (by assumption)))))) ?_
  rintro e wk1 ⟨rfl, hxk1⟩
  have hz16 : wk0.heap.size ≤ wk1.heap.size := hxk1.size
  clear ba0 ba1 bag
  have ba := Hba.out.ext hxk1
  clear Hba
  have ba0 := ba.at0
  have ba1 := ba.at1
  have bag := ba.1
  have Hba := Lib.hid ba
  clear ba
  clear bb0 bb1 bbg
  have bb := Hbb.out.ext hxk1
  clear Hbb
  have bb0 := bb.at0
  have bb1 := bb.at1
  have bbg := bb.1
  have Hbb := Lib.hid bb
  clear bb
  clear bc0 bc1 bcg
  have bc := Hbc.out.ext hxk1
  clear Hbc
  have bc0 := bc.at0
  have bc1 := bc.at1
  have bcg := bc.1
  have Hbc := Lib.hid bc
  clear bc
  clear bd0 bd1 bdg
  have bd := Hbd.out.ext hxk1
  clear Hbd
  have bd0 := bd.at0
  have bd1 := bd.at1
  have bdg := bd.1
  have Hbd := Lib.hid bd
  clear bd
  go_wp2_with fail
  refine Calls.mono (laws_likeInts _ _ (dispL m) _ (ID.out.up (((((hxE.trans hxX).trans hxwb14).trans hxk0).trans hxk1).trans (by repeat (first | exact Ext.refl _ | assumption | refine Ext.alloc ?_ _ | refine Ext.drew ?_ | refine Ext.drewN ?_ _ | refine Ext.setCell ?_ (by first | (simp; done) | (simp; omega) | omega) _ | refine Ext.trans ?_ (by assumption))))) (IE.out.up ((((hxX.trans hxwb14).trans hxk0).trans hxk1).trans (by repeat (first | exact Ext.refl _ | assumption | refine Ext.alloc ?_ _ | refine Ext.drew ?_ | refine Ext.drewN ?_ _ | refine Ext.setCell ?_ (by first | (simp; done) | (simp; omega) | omega) _ | refine Ext.trans ?_ (by assumption)))))) ?_
  rintro e wt1 ⟨rfl, hxt1⟩
  have hz17 : wk1.heap.size ≤ wt1.heap.size := hxt1.size
  clear ba0 ba1 bag
  have ba := Hba.out.ext hxt1
  clear Hba
  have ba0 := ba.at0
  have ba1 := ba.at1
  have bag := ba.1
  have Hba := Lib.hid ba
  clear ba
  clear bb0 bb1 bbg
  have bb := Hbb.out.ext hxt1
  clear Hbb
  have bb0 := bb.at0
  have bb1 := bb.at1
  have bbg := bb.1
  have Hbb := Lib.hid bb
  clear bb
  clear bc0 bc1 bcg
  have bc := Hbc.out.ext hxt1
  clear Hbc
  have bc0 := bc.at0
  have bc1 := bc.at1
  have bcg := bc.1
  have Hbc := Lib.hid bc
  clear bc
  clear bd0 bd1 bdg
  have bd := Hbd.out.ext hxt1
  clear Hbd
  have bd0 := bd.at0
  have bd1 := bd.at1
  have bdg := bd.1
  have Hbd := Lib.hid bd
  clear bd
  by_cases h3 : blE m [] = 0
  · have Hd := Lib.hid (fun i hi => disp_law h3 (i := i) hi)
    have hdl := dispL_small m
    go_wp2_with fail
    go_loopg [26, 27, 28] (dispL m).length (fun q i26 i27 i28 wr => ∃ j : Nat, j + q = (dispL m).length ∧ i26 = .int .i64 j ∧ Ext wt1 wr)
    case atStart => exact ⟨0, by omega, rfl, Ext.refl _⟩
    case round =>
      obtain ⟨j, hj, rfl, hxr⟩ := hrel
      obtain ⟨wz, rfl⟩ : ∃ x : World, x = wr := ⟨_, rfl⟩
      have hz18 : wt1.heap.size ≤ wz.heap.size := hxr.size
      clear ba0 ba1 bag
      have ba := Hba.out.ext hxr
      clear Hba
      have ba0 := ba.at0
      have ba1 := ba.at1
      have bag := ba.1
      have Hba := Lib.hid ba
      clear ba
      clear bb0 bb1 bbg
      have bb := Hbb.out.ext hxr
      clear Hbb
      have bb0 := bb.at0
      have bb1 := bb.at1
      have bbg := bb.1
      have Hbb := Lib.hid bb
      clear bb
      clear bc0 bc1 bcg
      have bc := Hbc.out.ext hxr
      clear Hbc
      have bc0 := bc.at0
      have bc1 := bc.at1
      have bcg := bc.1
      have Hbc := Lib.hid bc
      clear bc
      clear bd0 bd1 bdg
      have bd := Hbd.out.ext hxr
      clear Hbd
      have bd0 := bd.at0
      have bd1 := bd.at1
      have bdg := bd.1
      have Hbd := Lib.hid bd
      clear bd
      by_cases hlt : j < (dispL m).length
      · obtain ⟨p1, p2⟩ := Hd.out j hlt
        have P1 := Lib.hid p1
        have P2 := Lib.hid p2
        clear p1 p2
        have ID2 := Lib.hid (ID.out.up ((((((hxE.trans hxX).trans hxwb14).trans hxk0).trans hxk1).trans hxt1).trans hxr))
        obtain ⟨b1, o1, eD, _, hb1, _⟩ := ID2.out.at_ (i := 0) (by omega)
        have hdc := ID2.out.cap_le
        subst eD
        have I1 := Lib.hid (Ints.one ID2.out hlt)
        have W1 : IntKind.i64.wrap ((j : Int) + 1) = (j : Int) + 1 := IntWalk.i64_in _ (by omega)
        have q0 : (0 : Int) ≤ (j : Int) := by omega
        have q1 : (0 : Int) ≤ (j : Int) + 1 := by omega
        have q2 : (j : Int) + 1 ≤ ((dispL m).length : Int) := by omega
        have q3 : ((j : Int) + 1).toNat = j + 1 := by omega
        have q4 : (j : Int) + 1 ≤ (Dc : Int) := by omega
        have q5 : (j : Int) ≤ (Dc : Int) := by omega
        have q6 : (j : Int) ≤ (j : Int) + 1 := by omega
        have q7 : (j : Int) < ((dispL m).length : Int) := by omega
        have q8 : ¬ Dc = j := by omega
        have q9 : j + 1 - j = 1 := by omega
        go_wp2_with fail
        (refine wp_region_onto prog_mixed (by kernel_rfl) ?_; (repeat (go_big_quiet_step ((go_at_call 21; exact onto_callX (impl_IsRepair _ _ _ m [inAt (dispL m) j] _ (HM.out.up (((((((((hxwb10.trans hxD).trans hxE).trans hxX).trans hxwb14).trans hxk0).trans hxk1).trans hxt1).trans hxr).trans (onto_ext _ _))) (I1.out.up (onto_ext _ _))))))); refine onto_end ?_; intro w5 hx5)
        have hz19 : wz.heap.size ≤ w5.heap.size := hx5.size
        clear ba0 ba1 bag
        have ba := Hba.out.ext hx5
        clear Hba
        have ba0 := ba.at0
        have ba1 := ba.at1
        have bag := ba.1
        have Hba := Lib.hid ba
        clear ba
        clear bb0 bb1 bbg
        have bb := Hbb.out.ext hx5
        clear Hbb
        have bb0 := bb.at0
        have bb1 := bb.at1
        have bbg := bb.1
        have Hbb := Lib.hid bb
        clear bb
        clear bc0 bc1 bcg
        have bc := Hbc.out.ext hx5
        clear Hbc
        have bc0 := bc.at0
        have bc1 := bc.at1
        have bcg := bc.1
        have Hbc := Lib.hid bc
        clear bc
        clear bd0 bd1 bdg
        have bd := Hbd.out.ext hx5
        clear Hbd
        have bd0 := bd.at0
        have bd1 := bd.at1
        have bdg := bd.1
        have Hbd := Lib.hid bd
        clear bd
        rw [P1.out, P2.out]
        go_wp2_with fail
        go_roundg ((dispL m).length - (j + 1))
        case measure => omega
        case rel => exact ⟨j + 1, by omega, by go_num, (hxr.trans hx5)⟩
      · obtain rfl : j = (dispL m).length := by omega
        have hji : ¬ ((dispL m).length : Int) < ((dispL m).length : Int) := by omega
        clear hlt
        by_cases h2 : blE n l = 0
        case neg =>
          have h2f : (blE n l == 0) = false := by simpa using h2
          go_wp2_with fail
          go_ret
          exact ⟨rfl, ((((((((((((((((((hxN.trans hxwb2).trans hxi0).trans hxi1).trans hxB).trans hxwb6).trans hxj0).trans hxj1).trans hxM).trans hxwb10).trans hxD).trans hxE).trans hxX).trans hxwb14).trans hxk0).trans hxk1).trans hxt1).trans hxr).trans (by repeat (first | exact Ext.refl _ | assumption | refine Ext.alloc ?_ _ | refine Ext.drew ?_ | refine Ext.drewN ?_ _ | refine Ext.setCell ?_ (by first | (simp; done) | (simp; omega) | omega) _ | refine Ext.trans ?_ (by assumption))))⟩
        have Hn2 := Lib.hid h2
        have H2 := blE_zero h2
        have hll : l.length ≤ 1048576 := stm_len H2.1 H2.2.1
        clear H2
        go_wp2_with fail
        refine Calls.mono (impl_DoContradict _ _ _ n l _ (HN.out.up (((((((((((((((((hxwb2.trans hxi0).trans hxi1).trans hxB).trans hxwb6).trans hxj0).trans hxj1).trans hxM).trans hxwb10).trans hxD).trans hxE).trans hxX).trans hxwb14).trans hxk0).trans hxk1).trans hxt1).trans hxr).trans (by repeat (first | exact Ext.refl _ | assumption | refine Ext.alloc ?_ _ | refine Ext.drew ?_ | refine Ext.drewN ?_ _ | refine Ext.setCell ?_ (by first | (simp; done) | (simp; omega) | omega) _ | refine Ext.trans ?_ (by assumption))))) (IN.out.up (((((((((((((((((hxwb2.trans hxi0).trans hxi1).trans hxB).trans hxwb6).trans hxj0).trans hxj1).trans hxM).trans hxwb10).trans hxD).trans hxE).trans hxX).trans hxwb14).trans hxk0).trans hxk1).trans hxt1).trans hxr).trans (by repeat (first | exact Ext.refl _ | assumption | refine Ext.alloc ?_ _ | refine Ext.drew ?_ | refine Ext.drewN ?_ _ | refine Ext.setCell ?_ (by first | (simp; done) | (simp; omega) | omega) _ | refine Ext.trans ?_ (by assumption)))))) ?_
        rintro e wu1 ⟨rfl, hxu1⟩
        rw [h2]
        have hz19 : wz.heap.size ≤ wu1.heap.size := hxu1.size
        clear ba0 ba1 bag
        have ba := Hba.out.ext hxu1
        clear Hba
        have ba0 := ba.at0
        have ba1 := ba.at1
        have bag := ba.1
        have Hba := Lib.hid ba
        clear ba
        clear bb0 bb1 bbg
        have bb := Hbb.out.ext hxu1
        clear Hbb
        have bb0 := bb.at0
        have bb1 := bb.at1
        have bbg := bb.1
        have Hbb := Lib.hid bb
        clear bb
        clear bc0 bc1 bcg
        have bc := Hbc.out.ext hxu1
        clear Hbc
        have bc0 := bc.at0
        have bc1 := bc.at1
        have bcg := bc.1
        have Hbc := Lib.hid bc
        clear bc
        clear bd0 bd1 bdg
        have bd := Hbd.out.ext hxu1
        clear Hbd
        have bd0 := bd.at0
        have bd1 := bd.at1
        have bdg := bd.1
        have Hbd := Lib.hid bd
        clear bd
        by_cases hc : confV n l = true
        case neg =>
          have hcf : confV n l = false := by simpa using hc
          rw [hcf]
          clear hc
          go_wp2_with fail
          go_loopg [31] 0 (fun q i31 wr => i31 = .int .i64 0 ∧ Ext wu1 wr)
          case atStart => exact ⟨rfl, Ext.refl _⟩
          case round =>
            obtain ⟨rfl, hxq⟩ := hrel
            go_wp2_with fail
            go_ret
            exact ⟨rfl, ((((((((((((((((((hxN.trans hxwb2).trans hxi0).trans hxi1).trans hxB).trans hxwb6).trans hxj0).trans hxj1).trans hxM).trans hxwb10).trans hxD).trans hxE).trans hxX).trans hxwb14).trans hxk0).trans hxk1).trans hxt1).trans hxr).trans hxu1).trans hxq⟩
        obtain ⟨j1, j2⟩ := con_law h2 hc
        have Hj2 := Lib.hid j2
        rw [hc, j1]
        clear j1 j2 hc h2
        go_wp2_with fail
        go_loopg [31] l.length (fun q i31 wr => ∃ j : Nat, j + q = l.length ∧ i31 = .int .i64 j ∧ Ext wu1 wr)
        case atStart => exact ⟨0, by omega, rfl, Ext.refl _⟩
        case round =>
          obtain ⟨j, hj, rfl, hxq⟩ := hrel
          have hz20 : wu1.heap.size ≤ wr.heap.size := hxq.size
          clear ba0 ba1 bag
          have ba := Hba.out.ext hxq
          clear Hba
          have ba0 := ba.at0
          have ba1 := ba.at1
          have bag := ba.1
          have Hba := Lib.hid ba
          clear ba
          clear bb0 bb1 bbg
          have bb := Hbb.out.ext hxq
          clear Hbb
          have bb0 := bb.at0
          have bb1 := bb.at1
          have bbg := bb.1
          have Hbb := Lib.hid bb
          clear bb
          clear bc0 bc1 bcg
          have bc := Hbc.out.ext hxq
          clear Hbc
          have bc0 := bc.at0
          have bc1 := bc.at1
          have bcg := bc.1
          have Hbc := Lib.hid bc
          clear bc
          clear bd0 bd1 bdg
          have bd := Hbd.out.ext hxq
          clear Hbd
          have bd0 := bd.at0
          have bd1 := bd.at1
          have bdg := bd.1
          have Hbd := Lib.hid bd
          clear bd
          by_cases hlt : j < l.length
          · obtain ⟨b6, o6, eS, _, hb6, _⟩ := (IN.out.up ((((((((((((((((((hxwb2.trans hxi0).trans hxi1).trans hxB).trans hxwb6).trans hxj0).trans hxj1).trans hxM).trans hxwb10).trans hxD).trans hxE).trans hxX).trans hxwb14).trans hxk0).trans hxk1).trans hxt1).trans hxr).trans hxu1).trans hxq)).at_ (i := 0) (by omega)
            have IP := Lib.hid (IN.out.up ((((((((((((((((((hxwb2.trans hxi0).trans hxi1).trans hxB).trans hxwb6).trans hxj0).trans hxj1).trans hxM).trans hxwb10).trans hxD).trans hxE).trans hxX).trans hxwb14).trans hxk0).trans hxk1).trans hxt1).trans hxr).trans hxu1).trans hxq))
            subst eS
            have hcap := IP.out.cap_le
            obtain ⟨_, A', c', hv, _, hr⟩ := IP.out
            obtain ⟨b2, off2, hA', _, _, hcell⟩ := hr (by omega)
            injection hv with e1 e2 e3
            subst hA'
            injection e1 with e1
            injection e1 with e1 e4
            subst e1 e4 e3
            obtain ⟨n0, hn⟩ : ∃ n0, l.length = n0 := ⟨_, rfl⟩
            have Hn := Lib.hid hn
            have ht : (l.take j).length = j := by rw [List.length_take]; omega
            have Htk := Lib.hid ht
            have hic : j ≤ Nc := by omega
            have hjc : j + 1 ≤ Nc := by omega
            have hi1 : j ≤ j + 1 := by omega
            have Hpre : Hid (∀ w', Ext wr w' → Row w' 0 wr.heap.size 1 (.slice (some ⟨b6, o6, none⟩) j Nc) j (intCell (l.take j))) := Lib.hid (fun w' hx => by
              refine ⟨by unfold maxLen; omega, _, _, rfl, by omega, fun h0 => ⟨b6, o6, rfl, Nat.zero_le _, hb6, fun k hk => ?_⟩⟩
              rw [hx.cell (p := ⟨b6, o6 + k, none⟩) hb6, hcell k (by omega)]
              unfold intCell inAt
              rw [List.getD_eq_getElem?_getD, List.getD_eq_getElem?_getD, List.getElem?_take, if_pos (by omega)])
            have Hsrc : Hid (∀ w', Ext wr w' → ∀ A, (Nc = j + 1 ∨ A = some ⟨b6, o6 + (j + 1), none⟩) → Row w' 0 wr.heap.size 1 (.slice A (n0 - (j + 1)) (Nc - (j + 1))) (n0 - (j + 1)) (fun k => intCell l (j + 1 + k))) := Lib.hid (fun w' hx A hA => by
              refine ⟨by unfold maxLen; omega, _, _, rfl, by omega, fun h0 => ?_⟩
              rcases hA with hA | hA
              · omega
              · refine ⟨b6, o6 + (j + 1), hA, Nat.zero_le _, hb6, fun k hk => ?_⟩
                rw [Nat.add_assoc, hx.cell (p := ⟨b6, o6 + (j + 1 + k), none⟩) hb6]
                exact hcell _ (by omega))
            obtain ⟨p1, p2⟩ := Hj2.out j hlt
            have P1 := Lib.hid p1
            have P2 := Lib.hid p2
            clear p1 p2
            have hlt0 := hlt
            rw [hn] at hlt hll hcap hj ⊢
            clear hr hcell hn ht
            have W1 : IntKind.i64.wrap ((j : Int) + 1) = (j : Int) + 1 := IntWalk.i64_in _ (by omega)
            have q0 : (0 : Int) ≤ (j : Int) := by omega
            have q1 : (0 : Int) ≤ (j : Int) + 1 := by omega
            have q2 : (j : Int) + 1 ≤ (n0 : Int) := by omega
            have q3 : ((j : Int) + 1).toNat = j + 1 := by omega
            have q4 : (j : Int) + 1 ≤ (Nc : Int) := by omega
            have q5 : (j : Int) ≤ (n0 : Int) := by omega
            have q6 : (j : Int) ≤ (Nc : Int) := by omega
            have q7 : (j : Int) < (n0 : Int) := by omega
            go_wp2_with fail
            go_region_law (first
              | (refine step_append_row rfl (.tmp 191) (.tmp 194) 28 rfl wr.heap.size 2 1 8 Tryz.underlying28 (by kernel_rfl) (by omega) _ 0 j [] rfl (.inl (row_ext (World.ownsRow_made wr #[] 0 (Nat.le_refl _) (Nat.zero_le _) rfl) (by repeat (first | exact Ext.refl _ | assumption | refine Ext.alloc ?_ _ | refine Ext.drew ?_ | refine Ext.drewN ?_ _ | refine Ext.setCell ?_ (by first | (simp; done) | (simp; omega) | omega) _ | refine Ext.trans ?_ (by assumption))))) (.inl (row_ext (World.ownsRow_made wr #[] 0 (Nat.le_refl _) (Nat.zero_le _) rfl) (by repeat (first | exact Ext.refl _ | assumption | refine Ext.alloc ?_ _ | refine Ext.drew ?_ | refine Ext.drewN ?_ _ | refine Ext.setCell ?_ (by first | (simp; done) | (simp; omega) | omega) _ | refine Ext.trans ?_ (by assumption))))) 0 wr.heap.size _ (intCell (l.take j)) rfl (Hpre.out _ (by repeat (first | exact Ext.refl _ | assumption | refine Ext.alloc ?_ _ | refine Ext.drew ?_ | refine Ext.drewN ?_ _ | refine Ext.setCell ?_ (by first | (simp; done) | (simp; omega) | omega) _ | refine Ext.trans ?_ (by assumption)))) (fun i _ => intCell_one _ i) (by unfold maxLen; omega) (by omega) (by simp) ?_; intro v3 w3 hown3 hput3; have Hx3 := Lib.hid (hput3.ext (show Ext wr _ from (by repeat (first | exact Ext.refl _ | assumption | refine Ext.alloc ?_ _ | refine Ext.drew ?_ | refine Ext.drewN ?_ _ | refine Ext.setCell ?_ (by first | (simp; done) | (simp; omega) | omega) _ | refine Ext.trans ?_ (by assumption)))) (Nat.le_refl _)); have Ho3 := Lib.hid (show w3.ownsRow wr.heap.size 2 1 v3 (l.take j).length (cellsOf ((l.take j).length * 1) (intCell (l.take j))) from by rw [Htk.out]; simpa using hown3); clear hown3 hput3; have hz3 := Hx3.out.size)
              | (refine step_append_row rfl (.tmp 195) (.tmp 199) 28 rfl wr.heap.size 2 1 8 Tryz.underlying28 (by kernel_rfl) (by omega) _ (l.take j).length (n0 - (j + 1)) _ rfl (.inl (row_ext Ho3.out (by repeat (first | exact Ext.refl _ | assumption | refine Ext.alloc ?_ _ | refine Ext.drew ?_ | refine Ext.drewN ?_ _ | refine Ext.setCell ?_ (by first | (simp; done) | (simp; omega) | omega) _ | refine Ext.trans ?_ (by assumption))))) (.inl (row_ext Ho3.out (by repeat (first | exact Ext.refl _ | assumption | refine Ext.alloc ?_ _ | refine Ext.drew ?_ | refine Ext.drewN ?_ _ | refine Ext.setCell ?_ (by first | (simp; done) | (simp; omega) | omega) _ | refine Ext.trans ?_ (by assumption))))) 0 wr.heap.size _ (fun k => intCell l (j + 1 + k)) rfl (Hsrc.out _ (Hx3.out.trans (by repeat (first | exact Ext.refl _ | assumption | refine Ext.alloc ?_ _ | refine Ext.drew ?_ | refine Ext.drewN ?_ _ | refine Ext.setCell ?_ (by first | (simp; done) | (simp; omega) | omega) _ | refine Ext.trans ?_ (by assumption)))) _ (by by_cases e : Nc = j + 1 <;> simp [e])) (fun _ _ => rfl) (by rw [Htk.out]; unfold maxLen; omega) (by rw [Htk.out]; omega) (by first | exact hz3 | (have := hz3; simp; omega)) ?_; intro v4 w4 hown4 hput4; have hx4 := hput4.ext (Hx3.out.trans (show Ext w3 _ from (by repeat (first | exact Ext.refl _ | assumption | refine Ext.alloc ?_ _ | refine Ext.drew ?_ | refine Ext.drewN ?_ _ | refine Ext.setCell ?_ (by first | (simp; done) | (simp; omega) | omega) _ | refine Ext.trans ?_ (by assumption))))) (Nat.le_refl _); have Ho4 := Lib.hid hown4; clear hown4 hput4))
            all_goals
              have hz21 : wr.heap.size ≤ w4.heap.size := hx4.size
              clear ba0 ba1 bag
              have ba := Hba.out.ext hx4
              clear Hba
              have ba0 := ba.at0
              have ba1 := ba.at1
              have bag := ba.1
              have Hba := Lib.hid ba
              clear ba
              clear bb0 bb1 bbg
              have bb := Hbb.out.ext hx4
              clear Hbb
              have bb0 := bb.at0
              have bb1 := bb.at1
              have bbg := bb.1
              have Hbb := Lib.hid bb
              clear bb
              clear bc0 bc1 bcg
              have bc := Hbc.out.ext hx4
              clear Hbc
              have bc0 := bc.at0
              have bc1 := bc.at1
              have bcg := bc.1
              have Hbc := Lib.hid bc
              clear bc
              clear bd0 bd1 bdg
              have bd := Hbd.out.ext hx4
              clear Hbd
              have bd0 := bd.at0
              have bd1 := bd.at1
              have bdg := bd.1
              have Hbd := Lib.hid bd
              clear bd
              have h5 := Ho4.out
              rw [cells_drop Hn.out hlt] at h5
              rw [show (l.take j).length + (n0 - (j + 1)) = (l.eraseIdx j).length by rw [Htk.out, erase_len (by rw [Hn.out]; exact hlt), Hn.out]; omega] at h5
              have I4 := Lib.hid ((own_ints h5 rfl).all (Nat.le_refl _))
              obtain ⟨A4, c4, rfl⟩ := ownsRow_len h5
              clear h5 Ho4
              go_wp2_with fail
              all_goals
                refine Calls.mono (impl_DoContradict _ _ _ n (l.eraseIdx j) _ (HN.out.up ((((((((((((((((((((hxwb2.trans hxi0).trans hxi1).trans hxB).trans hxwb6).trans hxj0).trans hxj1).trans hxM).trans hxwb10).trans hxD).trans hxE).trans hxX).trans hxwb14).trans hxk0).trans hxk1).trans hxt1).trans hxr).trans hxu1).trans hxq).trans hx4).trans (by repeat (first | exact Ext.refl _ | assumption | refine Ext.alloc ?_ _ | refine Ext.drew ?_ | refine Ext.drewN ?_ _ | refine Ext.setCell ?_ (by first | (simp; done) | (simp; omega) | omega) _ | refine Ext.trans ?_ (by assumption))))) (I4.out.up (Ext.refl _))) ?_
                rintro e w5 ⟨rfl, hx5⟩
                rw [P1.out, P2.out]
                have hz22 : w4.heap.size ≤ w5.heap.size := hx5.size
                clear ba0 ba1 bag
                have ba := Hba.out.ext hx5
                clear Hba
                have ba0 := ba.at0
                have ba1 := ba.at1
                have bag := ba.1
                have Hba := Lib.hid ba
                clear ba
                clear bb0 bb1 bbg
                have bb := Hbb.out.ext hx5
                clear Hbb
                have bb0 := bb.at0
                have bb1 := bb.at1
                have bbg := bb.1
                have Hbb := Lib.hid bb
                clear bb
                clear bc0 bc1 bcg
                have bc := Hbc.out.ext hx5
                clear Hbc
                have bc0 := bc.at0
                have bc1 := bc.at1
                have bcg := bc.1
                have Hbc := Lib.hid bc
                clear bc
                clear bd0 bd1 bdg
                have bd := Hbd.out.ext hx5
                clear Hbd
                have bd0 := bd.at0
                have bd1 := bd.at1
                have bdg := bd.1
                have Hbd := Lib.hid bd
                clear bd
                have hn9 := Hn.out
                subst hn9
                try subst (‹Nc = j + 1›)
                try subst (‹j + 1 = Nc›)
                go_wp2_with fail
                go_roundg (l.length - (j + 1))
                case measure => omega
                case rel => exact ⟨j + 1, by omega, by go_num, ((hxq.trans hx4).trans hx5)⟩
          · obtain rfl : j = l.length := by omega
            have hji : ¬ (l.length : Int) < (l.length : Int) := by omega
            go_wp2_with fail
            go_ret
            exact ⟨rfl, (((((((((((((((((((hxN.trans hxwb2).trans hxi0).trans hxi1).trans hxB).trans hxwb6).trans hxj0).trans hxj1).trans hxM).trans hxwb10).trans hxD).trans hxE).trans hxX).trans hxwb14).trans hxk0).trans hxk1).trans hxt1).trans hxr).trans hxu1).trans hxq)⟩
  · have h3f : (blE m [] == 0) = false := by simpa using h3
    go_wp2_with fail
    go_loopg [26, 27, 28] 0 (fun q i26 i27 i28 wr => i26 = .int .i64 0 ∧ Ext wt1 wr)
    case atStart => exact ⟨rfl, Ext.refl _⟩
    case round =>
      obtain ⟨rfl, hxr⟩ := hrel
      obtain ⟨wz, rfl⟩ : ∃ x : World, x = wr := ⟨_, rfl⟩
      have hz18 : wt1.heap.size ≤ wz.heap.size := hxr.size
      clear ba0 ba1 bag
      have ba := Hba.out.ext hxr
      clear Hba
      have ba0 := ba.at0
      have ba1 := ba.at1
      have bag := ba.1
      have Hba := Lib.hid ba
      clear ba
      clear bb0 bb1 bbg
      have bb := Hbb.out.ext hxr
      clear Hbb
      have bb0 := bb.at0
      have bb1 := bb.at1
      have bbg := bb.1
      have Hbb := Lib.hid bb
      clear bb
      clear bc0 bc1 bcg
      have bc := Hbc.out.ext hxr
      clear Hbc
      have bc0 := bc.at0
      have bc1 := bc.at1
      have bcg := bc.1
      have Hbc := Lib.hid bc
      clear bc
      clear bd0 bd1 bdg
      have bd := Hbd.out.ext hxr
      clear Hbd
      have bd0 := bd.at0
      have bd1 := bd.at1
      have bdg := bd.1
      have Hbd := Lib.hid bd
      clear bd
      by_cases h2 : blE n l = 0
      case neg =>
        have h2f : (blE n l == 0) = false := by simpa using h2
        go_wp2_with fail
        go_ret
        exact ⟨rfl, ((((((((((((((((((hxN.trans hxwb2).trans hxi0).trans hxi1).trans hxB).trans hxwb6).trans hxj0).trans hxj1).trans hxM).trans hxwb10).trans hxD).trans hxE).trans hxX).trans hxwb14).trans hxk0).trans hxk1).trans hxt1).trans hxr).trans (by repeat (first | exact Ext.refl _ | assumption | refine Ext.alloc ?_ _ | refine Ext.drew ?_ | refine Ext.drewN ?_ _ | refine Ext.setCell ?_ (by first | (simp; done) | (simp; omega) | omega) _ | refine Ext.trans ?_ (by assumption))))⟩
      have Hn2 := Lib.hid h2
      have H2 := blE_zero h2
      have hll : l.length ≤ 1048576 := stm_len H2.1 H2.2.1
      clear H2
      go_wp2_with fail
      refine Calls.mono (impl_DoContradict _ _ _ n l _ (HN.out.up (((((((((((((((((hxwb2.trans hxi0).trans hxi1).trans hxB).trans hxwb6).trans hxj0).trans hxj1).trans hxM).trans hxwb10).trans hxD).trans hxE).trans hxX).trans hxwb14).trans hxk0).trans hxk1).trans hxt1).trans hxr).trans (by repeat (first | exact Ext.refl _ | assumption | refine Ext.alloc ?_ _ | refine Ext.drew ?_ | refine Ext.drewN ?_ _ | refine Ext.setCell ?_ (by first | (simp; done) | (simp; omega) | omega) _ | refine Ext.trans ?_ (by assumption))))) (IN.out.up (((((((((((((((((hxwb2.trans hxi0).trans hxi1).trans hxB).trans hxwb6).trans hxj0).trans hxj1).trans hxM).trans hxwb10).trans hxD).trans hxE).trans hxX).trans hxwb14).trans hxk0).trans hxk1).trans hxt1).trans hxr).trans (by repeat (first | exact Ext.refl _ | assumption | refine Ext.alloc ?_ _ | refine Ext.drew ?_ | refine Ext.drewN ?_ _ | refine Ext.setCell ?_ (by first | (simp; done) | (simp; omega) | omega) _ | refine Ext.trans ?_ (by assumption)))))) ?_
      rintro e wu1 ⟨rfl, hxu1⟩
      rw [h2]
      have hz19 : wz.heap.size ≤ wu1.heap.size := hxu1.size
      clear ba0 ba1 bag
      have ba := Hba.out.ext hxu1
      clear Hba
      have ba0 := ba.at0
      have ba1 := ba.at1
      have bag := ba.1
      have Hba := Lib.hid ba
      clear ba
      clear bb0 bb1 bbg
      have bb := Hbb.out.ext hxu1
      clear Hbb
      have bb0 := bb.at0
      have bb1 := bb.at1
      have bbg := bb.1
      have Hbb := Lib.hid bb
      clear bb
      clear bc0 bc1 bcg
      have bc := Hbc.out.ext hxu1
      clear Hbc
      have bc0 := bc.at0
      have bc1 := bc.at1
      have bcg := bc.1
      have Hbc := Lib.hid bc
      clear bc
      clear bd0 bd1 bdg
      have bd := Hbd.out.ext hxu1
      clear Hbd
      have bd0 := bd.at0
      have bd1 := bd.at1
      have bdg := bd.1
      have Hbd := Lib.hid bd
      clear bd
      by_cases hc : confV n l = true
      case neg =>
        have hcf : confV n l = false := by simpa using hc
        rw [hcf]
        clear hc
        go_wp2_with fail
        go_loopg [31] 0 (fun q i31 wr => i31 = .int .i64 0 ∧ Ext wu1 wr)
        case atStart => exact ⟨rfl, Ext.refl _⟩
        case round =>
          obtain ⟨rfl, hxq⟩ := hrel
          go_wp2_with fail
          go_ret
          exact ⟨rfl, ((((((((((((((((((hxN.trans hxwb2).trans hxi0).trans hxi1).trans hxB).trans hxwb6).trans hxj0).trans hxj1).trans hxM).trans hxwb10).trans hxD).trans hxE).trans hxX).trans hxwb14).trans hxk0).trans hxk1).trans hxt1).trans hxr).trans hxu1).trans hxq⟩
      obtain ⟨j1, j2⟩ := con_law h2 hc
      have Hj2 := Lib.hid j2
      rw [hc, j1]
      clear j1 j2 hc h2
      go_wp2_with fail
      go_loopg [31] l.length (fun q i31 wr => ∃ j : Nat, j + q = l.length ∧ i31 = .int .i64 j ∧ Ext wu1 wr)
      case atStart => exact ⟨0, by omega, rfl, Ext.refl _⟩
      case round =>
        obtain ⟨j, hj, rfl, hxq⟩ := hrel
        have hz20 : wu1.heap.size ≤ wr.heap.size := hxq.size
        clear ba0 ba1 bag
        have ba := Hba.out.ext hxq
        clear Hba
        have ba0 := ba.at0
        have ba1 := ba.at1
        have bag := ba.1
        have Hba := Lib.hid ba
        clear ba
        clear bb0 bb1 bbg
        have bb := Hbb.out.ext hxq
        clear Hbb
        have bb0 := bb.at0
        have bb1 := bb.at1
        have bbg := bb.1
        have Hbb := Lib.hid bb
        clear bb
        clear bc0 bc1 bcg
        have bc := Hbc.out.ext hxq
        clear Hbc
        have bc0 := bc.at0
        have bc1 := bc.at1
        have bcg := bc.1
        have Hbc := Lib.hid bc
        clear bc
        clear bd0 bd1 bdg
        have bd := Hbd.out.ext hxq
        clear Hbd
        have bd0 := bd.at0
        have bd1 := bd.at1
        have bdg := bd.1
        have Hbd := Lib.hid bd
        clear bd
        by_cases hlt : j < l.length
        · obtain ⟨b6, o6, eS, _, hb6, _⟩ := (IN.out.up ((((((((((((((((((hxwb2.trans hxi0).trans hxi1).trans hxB).trans hxwb6).trans hxj0).trans hxj1).trans hxM).trans hxwb10).trans hxD).trans hxE).trans hxX).trans hxwb14).trans hxk0).trans hxk1).trans hxt1).trans hxr).trans hxu1).trans hxq)).at_ (i := 0) (by omega)
          have IP := Lib.hid (IN.out.up ((((((((((((((((((hxwb2.trans hxi0).trans hxi1).trans hxB).trans hxwb6).trans hxj0).trans hxj1).trans hxM).trans hxwb10).trans hxD).trans hxE).trans hxX).trans hxwb14).trans hxk0).trans hxk1).trans hxt1).trans hxr).trans hxu1).trans hxq))
          subst eS
          have hcap := IP.out.cap_le
          obtain ⟨_, A', c', hv, _, hr⟩ := IP.out
          obtain ⟨b2, off2, hA', _, _, hcell⟩ := hr (by omega)
          injection hv with e1 e2 e3
          subst hA'
          injection e1 with e1
          injection e1 with e1 e4
          subst e1 e4 e3
          obtain ⟨n0, hn⟩ : ∃ n0, l.length = n0 := ⟨_, rfl⟩
          have Hn := Lib.hid hn
          have ht : (l.take j).length = j := by rw [List.length_take]; omega
          have Htk := Lib.hid ht
          have hic : j ≤ Nc := by omega
          have hjc : j + 1 ≤ Nc := by omega
          have hi1 : j ≤ j + 1 := by omega
          have Hpre : Hid (∀ w', Ext wr w' → Row w' 0 wr.heap.size 1 (.slice (some ⟨b6, o6, none⟩) j Nc) j (intCell (l.take j))) := Lib.hid (fun w' hx => by
            refine ⟨by unfold maxLen; omega, _, _, rfl, by omega, fun h0 => ⟨b6, o6, rfl, Nat.zero_le _, hb6, fun k hk => ?_⟩⟩
            rw [hx.cell (p := ⟨b6, o6 + k, none⟩) hb6, hcell k (by omega)]
            unfold intCell inAt
            rw [List.getD_eq_getElem?_getD, List.getD_eq_getElem?_getD, List.getElem?_take, if_pos (by omega)])
          have Hsrc : Hid (∀ w', Ext wr w' → ∀ A, (Nc = j + 1 ∨ A = some ⟨b6, o6 + (j + 1), none⟩) → Row w' 0 wr.heap.size 1 (.slice A (n0 - (j + 1)) (Nc - (j + 1))) (n0 - (j + 1)) (fun k => intCell l (j + 1 + k))) := Lib.hid (fun w' hx A hA => by
            refine ⟨by unfold maxLen; omega, _, _, rfl, by omega, fun h0 => ?_⟩
            rcases hA with hA | hA
            · omega
            · refine ⟨b6, o6 + (j + 1), hA, Nat.zero_le _, hb6, fun k hk => ?_⟩
              rw [Nat.add_assoc, hx.cell (p := ⟨b6, o6 + (j + 1 + k), none⟩) hb6]
              exact hcell _ (by omega))
          obtain ⟨p1, p2⟩ := Hj2.out j hlt
          have P1 := Lib.hid p1
          have P2 := Lib.hid p2
          clear p1 p2
          have hlt0 := hlt
          rw [hn] at hlt hll hcap hj ⊢
          clear hr hcell hn ht
          have W1 : IntKind.i64.wrap ((j : Int) + 1) = (j : Int) + 1 := IntWalk.i64_in _ (by omega)
          have q0 : (0 : Int) ≤ (j : Int) := by omega
          have q1 : (0 : Int) ≤ (j : Int) + 1 := by omega
          have q2 : (j : Int) + 1 ≤ (n0 : Int) := by omega
          have q3 : ((j : Int) + 1).toNat = j + 1 := by omega
          have q4 : (j : Int) + 1 ≤ (Nc : Int) := by omega
          have q5 : (j : Int) ≤ (n0 : Int) := by omega
          have q6 : (j : Int) ≤ (Nc : Int) := by omega
          have q7 : (j : Int) < (n0 : Int) := by omega
          go_wp2_with fail
          go_region_law (first
            | (refine step_append_row rfl (.tmp 191) (.tmp 194) 28 rfl wr.heap.size 2 1 8 Tryz.underlying28 (by kernel_rfl) (by omega) _ 0 j [] rfl (.inl (row_ext (World.ownsRow_made wr #[] 0 (Nat.le_refl _) (Nat.zero_le _) rfl) (by repeat (first | exact Ext.refl _ | assumption | refine Ext.alloc ?_ _ | refine Ext.drew ?_ | refine Ext.drewN ?_ _ | refine Ext.setCell ?_ (by first | (simp; done) | (simp; omega) | omega) _ | refine Ext.trans ?_ (by assumption))))) (.inl (row_ext (World.ownsRow_made wr #[] 0 (Nat.le_refl _) (Nat.zero_le _) rfl) (by repeat (first | exact Ext.refl _ | assumption | refine Ext.alloc ?_ _ | refine Ext.drew ?_ | refine Ext.drewN ?_ _ | refine Ext.setCell ?_ (by first | (simp; done) | (simp; omega) | omega) _ | refine Ext.trans ?_ (by assumption))))) 0 wr.heap.size _ (intCell (l.take j)) rfl (Hpre.out _ (by repeat (first | exact Ext.refl _ | assumption | refine Ext.alloc ?_ _ | refine Ext.drew ?_ | refine Ext.drewN ?_ _ | refine Ext.setCell ?_ (by first | (simp; done) | (simp; omega) | omega) _ | refine Ext.trans ?_ (by assumption)))) (fun i _ => intCell_one _ i) (by unfold maxLen; omega) (by omega) (by simp) ?_; intro v3 w3 hown3 hput3; have Hx3 := Lib.hid (hput3.ext (show Ext wr _ from (by repeat (first | exact Ext.refl _ | assumption | refine Ext.alloc ?_ _ | refine Ext.drew ?_ | refine Ext.drewN ?_ _ | refine Ext.setCell ?_ (by first | (simp; done) | (simp; omega) | omega) _ | refine Ext.trans ?_ (by assumption)))) (Nat.le_refl _)); have Ho3 := Lib.hid (show w3.ownsRow wr.heap.size 2 1 v3 (l.take j).length (cellsOf ((l.take j).length * 1) (intCell (l.take j))) from by rw [Htk.out]; simpa using hown3); clear hown3 hput3; have hz3 := Hx3.out.size)
            | (refine step_append_row rfl (.tmp 195) (.tmp 199) 28 rfl wr.heap.size 2 1 8 Tryz.underlying28 (by kernel_rfl) (by omega) _ (l.take j).length (n0 - (j + 1)) _ rfl (.inl (row_ext Ho3.out (by repeat (first | exact Ext.refl _ | assumption | refine Ext.alloc ?_ _ | refine Ext.drew ?_ | refine Ext.drewN ?_ _ | refine Ext.setCell ?_ (by first | (simp; done) | (simp; omega) | omega) _ | refine Ext.trans ?_ (by assumption))))) (.inl (row_ext Ho3.out (by repeat (first | exact Ext.refl _ | assumption | refine Ext.alloc ?_ _ | refine Ext.drew ?_ | refine Ext.drewN ?_ _ | refine Ext.setCell ?_ (by first | (simp; done) | (simp; omega) | omega) _ | refine Ext.trans ?_ (by assumption))))) 0 wr.heap.size _ (fun k => intCell l (j + 1 + k)) rfl (Hsrc.out _ (Hx3.out.trans (by repeat (first | exact Ext.refl _ | assumption | refine Ext.alloc ?_ _ | refine Ext.drew ?_ | refine Ext.drewN ?_ _ | refine Ext.setCell ?_ (by first | (simp; done) | (simp; omega) | omega) _ | refine Ext.trans ?_ (by assumption)))) _ (by by_cases e : Nc = j + 1 <;> simp [e])) (fun _ _ => rfl) (by rw [Htk.out]; unfold maxLen; omega) (by rw [Htk.out]; omega) (by first | exact hz3 | (have := hz3; simp; omega)) ?_; intro v4 w4 hown4 hput4; have hx4 := hput4.ext (Hx3.out.trans (show Ext w3 _ from (by repeat (first | exact Ext.refl _ | assumption | refine Ext.alloc ?_ _ | refine Ext.drew ?_ | refine Ext.drewN ?_ _ | refine Ext.setCell ?_ (by first | (simp; done) | (simp; omega) | omega) _ | refine Ext.trans ?_ (by assumption))))) (Nat.le_refl _); have Ho4 := Lib.hid hown4; clear hown4 hput4))
          all_goals
            have hz21 : wr.heap.size ≤ w4.heap.size := hx4.size
            clear ba0 ba1 bag
            have ba := Hba.out.ext hx4
            clear Hba
            have ba0 := ba.at0
            have ba1 := ba.at1
            have bag := ba.1
            have Hba := Lib.hid ba
            clear ba
            clear bb0 bb1 bbg
            have bb := Hbb.out.ext hx4
            clear Hbb
            have bb0 := bb.at0
            have bb1 := bb.at1
            have bbg := bb.1
            have Hbb := Lib.hid bb
            clear bb
            clear bc0 bc1 bcg
            have bc := Hbc.out.ext hx4
            clear Hbc
            have bc0 := bc.at0
            have bc1 := bc.at1
            have bcg := bc.1
            have Hbc := Lib.hid bc
            clear bc
            clear bd0 bd1 bdg
            have bd := Hbd.out.ext hx4
            clear Hbd
            have bd0 := bd.at0
            have bd1 := bd.at1
            have bdg := bd.1
            have Hbd := Lib.hid bd
            clear bd
            have h5 := Ho4.out
            rw [cells_drop Hn.out hlt] at h5
            rw [show (l.take j).length + (n0 - (j + 1)) = (l.eraseIdx j).length by rw [Htk.out, erase_len (by rw [Hn.out]; exact hlt), Hn.out]; omega] at h5
            have I4 := Lib.hid ((own_ints h5 rfl).all (Nat.le_refl _))
            obtain ⟨A4, c4, rfl⟩ := ownsRow_len h5
            clear h5 Ho4
            go_wp2_with fail
            all_goals
              refine Calls.mono (impl_DoContradict _ _ _ n (l.eraseIdx j) _ (HN.out.up ((((((((((((((((((((hxwb2.trans hxi0).trans hxi1).trans hxB).trans hxwb6).trans hxj0).trans hxj1).trans hxM).trans hxwb10).trans hxD).trans hxE).trans hxX).trans hxwb14).trans hxk0).trans hxk1).trans hxt1).trans hxr).trans hxu1).trans hxq).trans hx4).trans (by repeat (first | exact Ext.refl _ | assumption | refine Ext.alloc ?_ _ | refine Ext.drew ?_ | refine Ext.drewN ?_ _ | refine Ext.setCell ?_ (by first | (simp; done) | (simp; omega) | omega) _ | refine Ext.trans ?_ (by assumption))))) (I4.out.up (Ext.refl _))) ?_
              rintro e w5 ⟨rfl, hx5⟩
              rw [P1.out, P2.out]
              have hz22 : w4.heap.size ≤ w5.heap.size := hx5.size
              clear ba0 ba1 bag
              have ba := Hba.out.ext hx5
              clear Hba
              have ba0 := ba.at0
              have ba1 := ba.at1
              have bag := ba.1
              have Hba := Lib.hid ba
              clear ba
              clear bb0 bb1 bbg
              have bb := Hbb.out.ext hx5
              clear Hbb
              have bb0 := bb.at0
              have bb1 := bb.at1
              have bbg := bb.1
              have Hbb := Lib.hid bb
              clear bb
              clear bc0 bc1 bcg
              have bc := Hbc.out.ext hx5
              clear Hbc
              have bc0 := bc.at0
              have bc1 := bc.at1
              have bcg := bc.1
              have Hbc := Lib.hid bc
              clear bc
              clear bd0 bd1 bdg
              have bd := Hbd.out.ext hx5
              clear Hbd
              have bd0 := bd.at0
              have bd1 := bd.at1
              have bdg := bd.1
              have Hbd := Lib.hid bd
              clear bd
              have hn9 := Hn.out
              subst hn9
              try subst (‹Nc = j + 1›)
              try subst (‹j + 1 = Nc›)
              go_wp2_with fail
              go_roundg (l.length - (j + 1))
              case measure => omega
              case rel => exact ⟨j + 1, by omega, by go_num, ((hxq.trans hx4).trans hx5)⟩
        · obtain rfl : j = l.length := by omega
          have hji : ¬ (l.length : Int) < (l.length : Int) := by omega
          go_wp2_with fail
          go_ret
          exact ⟨rfl, (((((((((((((((((((hxN.trans hxwb2).trans hxi0).trans hxi1).trans hxB).trans hxwb6).trans hxj0).trans hxj1).trans hxM).trans hxwb10).trans hxD).trans hxE).trans hxX).trans hxwb14).trans hxk0).trans hxk1).trans hxt1).trans hxr).trans hxu1).trans hxq)⟩
end Go.Proofs.YtfmnkojjkjkdeaaGreatDoor
