/- The law FnPartners, walked out of the contracts of the draws, the program's functions and the reference's. -/
import Derived.Test.YtfajmlkiidnhlaaQ4Yc
import Derived.Test.YtfajmlkiidnhlaaQ4Yg
import Derived.Test.YtfajmlkiidnhlaaQ4Pe
import Derived.Test.YtfajmlkiidnhlaaQ4Nx
import Derived.Deep.RegionHeld3
import Derived.IntWalk
namespace Go.Proofs.Ytfajmlkiidnhlaa
set_option linter.unusedVariables false
set_option linter.unusedSimpArgs false
open Go.RowKit
attribute [local go_sem] cell_onto

theorem NewSps2.plain {l : List Sp} {e0 : Int} {w w' : World} {e : Ending} (h : NewSps2 l e0 w e w') : ∃ A c, e = .returned (.tuple #[.slice A l.length c, .int .i64 e0]) ∧ Ext w w' ∧ Hid (Spans w' 0 w'.heap.size (.slice A l.length c) l) := by
  obtain ⟨v, g, he, hx, h1, h2⟩ := h
  obtain ⟨A, c, rfl⟩ := h2.len
  exact ⟨A, c, he, hx, h2.row (fun h0 => ⟨Nat.zero_le _, h2.lt h0⟩)⟩
theorem Bytes.wide {w : World} {hi hi' n : Nat} {v : Value} (h : Bytes w 0 hi v n) (hh : hi ≤ hi') : Bytes w 0 hi' v n := by
  obtain ⟨h0, f, h1, h2⟩ := h
  exact ⟨h0, f, h1.mono (Nat.le_refl _) hh, h2⟩
theorem Bytes.up2 {w w' : World} {n : Nat} {v : Value} (h : Bytes w 0 w.heap.size v n) (hx : Ext w w') : Bytes w' 0 w'.heap.size v n := (h.ext hx (Nat.le_refl _)).wide hx.size
theorem ext_keep {w w' : World} {p q i : Nat} {a b c : Value} (hx : Ext w w') (hp : p < w.heap.size) (h0 : w.cell? ⟨p, 0, none⟩ = some a) (h1 : w.cell? ⟨p, 1, none⟩ = some b) (hq : q < w.heap.size) (h2 : w.cell? ⟨q, i, none⟩ = some c) :
    Ext w w' ∧ w'.cell? ⟨p, 0, none⟩ = some a ∧ w'.cell? ⟨p, 1, none⟩ = some b ∧ w'.cell? ⟨q, i, none⟩ = some c :=
  ⟨hx, (hx.cell (p := ⟨p, 0, none⟩) hp).trans h0, (hx.cell (p := ⟨p, 1, none⟩) hp).trans h1, (hx.cell (p := ⟨q, i, none⟩) hq).trans h2⟩
set_option maxRecDepth 100000 in
set_option maxHeartbeats 16000000 in
theorem law_FnPartners (v : Value) (cn : Nat) (w : World) (h : Byts w v cn) : Calls Try.prog 6 #[v] w (RetX (.bool true) w) := by
  obtain ⟨A, c, rfl⟩ := h.len
  have HX := Lib.hid h
  clear h
  go_enter Try.func6, Try.ntmps6
  go_wp2_with fail
  by_cases hbig : cn ≤ 4096
  case neg =>
    refine Calls.mono (laws_big_yes cn A c w hbig) ?_
    rintro e w' ⟨rfl, rfl⟩
    go_wp2_with fail
    go_ret
    exact ⟨rfl, (by repeat (first | exact Ext.refl _ | assumption | refine Ext.alloc ?_ _ | refine Ext.drew ?_ | refine Ext.drewN ?_ _ | refine Ext.setCell ?_ (by first | (simp; done) | (simp; omega) | omega) _ | refine Ext.trans ?_ (by assumption)))⟩
  have H := Lib.hid (HX.out.few hbig)
  refine Calls.mono (laws_big_no cn A c w hbig) ?_
  rintro e w' ⟨rfl, rfl⟩
  clear HX hbig
  go_wp2_with fail
  refine Calls.mono (spec_DrawPartnerDays cn _ _ (H.out.up (by repeat (first | exact Ext.refl _ | assumption | refine Ext.alloc ?_ _ | refine Ext.drew ?_ | refine Ext.drewN ?_ _ | refine Ext.setCell ?_ (by first | (simp; done) | (simp; omega) | omega) _ | refine Ext.trans ?_ (by assumption))))) ?_
  intro e wN hp
  obtain ⟨Ns, Ncs, Nk, Nck, n, lk, o, rfl, hxN, HN⟩ := hp.plain
  clear hp
  have hz1 : w.heap.size ≤ wN.heap.size := hxN.size
  obtain ⟨wb2, hwb2⟩ : ∃ x : World, x = wN.alloc (.cells #[.slice Ns n.sets.length Ncs, .slice Nk n.links.length Nck] 27) := ⟨_, rfl⟩
  have hxwb2 : Ext wN wb2 := by rw [hwb2]; exact (by repeat (first | exact Ext.refl _ | assumption | refine Ext.alloc ?_ _ | refine Ext.drew ?_ | refine Ext.drewN ?_ _ | refine Ext.setCell ?_ (by first | (simp; done) | (simp; omega) | omega) _ | refine Ext.trans ?_ (by assumption)))
  have Hba := Lib.hid (show Boxed wb2 wN.heap.size [.slice Ns n.sets.length Ncs, .slice Nk n.links.length Nck] from by rw [hwb2]; exact Boxed.new wN [.slice Ns n.sets.length Ncs, .slice Nk n.links.length Nck] 27)
  go_wp2_with fail
  rw [← hwb2]
  clear hwb2
  have hz2 : wN.heap.size ≤ wb2.heap.size := hxwb2.size
  have ba0 := Hba.out.at0
  have ba1 := Hba.out.at1
  have bag := Hba.out.1
  refine Calls.mono (impl_PartnerDays _ _ n lk o _ (HN.out.up (hxwb2.trans (by repeat (first | exact Ext.refl _ | assumption | refine Ext.alloc ?_ _ | refine Ext.drew ?_ | refine Ext.drewN ?_ _ | refine Ext.setCell ?_ (by first | (simp; done) | (simp; omega) | omega) _ | refine Ext.trans ?_ (by assumption)))))) ?_
  intro e wP hp
  obtain ⟨Pa, Pc, rfl, hxP, IP⟩ := hp.plain
  clear hp
  have hz3 : wb2.heap.size ≤ wP.heap.size := hxP.size
  clear ba0 ba1 bag
  have ba := Hba.out.ext hxP
  clear Hba
  have ba0 := ba.at0
  have ba1 := ba.at1
  have bag := ba.1
  have Hba := Lib.hid ba
  clear ba
  go_wp2_with fail
  refine Calls.mono (spec_PartnerDays _ _ n lk o _ (HN.out.up ((hxwb2.trans hxP).trans (by repeat (first | exact Ext.refl _ | assumption | refine Ext.alloc ?_ _ | refine Ext.drew ?_ | refine Ext.drewN ?_ _ | refine Ext.setCell ?_ (by first | (simp; done) | (simp; omega) | omega) _ | refine Ext.trans ?_ (by assumption)))))) ?_
  intro e wQ hp
  obtain ⟨Qa, Qc, rfl, hxQ, IQ⟩ := hp.plain
  clear hp
  have hz4 : wP.heap.size ≤ wQ.heap.size := hxQ.size
  clear ba0 ba1 bag
  have ba := Hba.out.ext hxQ
  clear Hba
  have ba0 := ba.at0
  have ba1 := ba.at1
  have bag := ba.1
  have Hba := Lib.hid ba
  clear ba
  go_wp2_with fail
  refine Calls.mono (spec_DrawNarrowLink cn _ _ (H.out.up ((((hxN.trans hxwb2).trans hxP).trans hxQ).trans (by repeat (first | exact Ext.refl _ | assumption | refine Ext.alloc ?_ _ | refine Ext.drew ?_ | refine Ext.drewN ?_ _ | refine Ext.setCell ?_ (by first | (simp; done) | (simp; omega) | omega) _ | refine Ext.trans ?_ (by assumption)))))) ?_
  intro e wR hp
  obtain ⟨Rs, Rcs, Rk, Rck, a, k, rfl, hxR, HR⟩ := hp.plain
  clear hp
  have hz5 : wQ.heap.size ≤ wR.heap.size := hxR.size
  clear ba0 ba1 bag
  have ba := Hba.out.ext hxR
  clear Hba
  have ba0 := ba.at0
  have ba1 := ba.at1
  have bag := ba.1
  have Hba := Lib.hid ba
  clear ba
  obtain ⟨wb6, hwb6⟩ : ∃ x : World, x = wR.alloc (.cells #[.slice Rs a.sets.length Rcs, .slice Rk a.links.length Rck] 27) := ⟨_, rfl⟩
  have hxwb6 : Ext wR wb6 := by rw [hwb6]; exact (by repeat (first | exact Ext.refl _ | assumption | refine Ext.alloc ?_ _ | refine Ext.drew ?_ | refine Ext.drewN ?_ _ | refine Ext.setCell ?_ (by first | (simp; done) | (simp; omega) | omega) _ | refine Ext.trans ?_ (by assumption)))
  have Hbb := Lib.hid (show Boxed wb6 wR.heap.size [.slice Rs a.sets.length Rcs, .slice Rk a.links.length Rck] from by rw [hwb6]; exact Boxed.new wR [.slice Rs a.sets.length Rcs, .slice Rk a.links.length Rck] 27)
  go_wp2_with fail
  rw [← hwb6]
  clear hwb6
  have hz6 : wR.heap.size ≤ wb6.heap.size := hxwb6.size
  clear ba0 ba1 bag
  have ba := Hba.out.ext hxwb6
  clear Hba
  have ba0 := ba.at0
  have ba1 := ba.at1
  have bag := ba.1
  have Hba := Lib.hid ba
  clear ba
  have bb0 := Hbb.out.at0
  have bb1 := Hbb.out.at1
  have bbg := Hbb.out.1
  refine Calls.mono (impl_NarrowLink _ _ a k _ (HR.out.up (hxwb6.trans (by repeat (first | exact Ext.refl _ | assumption | refine Ext.alloc ?_ _ | refine Ext.drew ?_ | refine Ext.drewN ?_ _ | refine Ext.setCell ?_ (by first | (simp; done) | (simp; omega) | omega) _ | refine Ext.trans ?_ (by assumption)))))) ?_
  intro e wM hp
  obtain ⟨Ms, Mcs, Mk, Mck, rfl, hxM, HM⟩ := hp.plain
  clear hp
  have hz7 : wb6.heap.size ≤ wM.heap.size := hxM.size
  clear ba0 ba1 bag
  have ba := Hba.out.ext hxM
  clear Hba
  have ba0 := ba.at0
  have ba1 := ba.at1
  have bag := ba.1
  have Hba := Lib.hid ba
  clear ba
  clear bb0 bb1 bbg
  have bb := Hbb.out.ext hxM
  clear Hbb
  have bb0 := bb.at0
  have bb1 := bb.at1
  have bbg := bb.1
  have Hbb := Lib.hid bb
  clear bb
  obtain ⟨wb8, hwb8⟩ : ∃ x : World, x = wM.alloc (.cells #[.slice Ms (nlV a k).sets.length Mcs, .slice Mk (nlV a k).links.length Mck] 27) := ⟨_, rfl⟩
  have hxwb8 : Ext wM wb8 := by rw [hwb8]; exact (by repeat (first | exact Ext.refl _ | assumption | refine Ext.alloc ?_ _ | refine Ext.drew ?_ | refine Ext.drewN ?_ _ | refine Ext.setCell ?_ (by first | (simp; done) | (simp; omega) | omega) _ | refine Ext.trans ?_ (by assumption)))
  have Hbc := Lib.hid (show Boxed wb8 wM.heap.size [.slice Ms (nlV a k).sets.length Mcs, .slice Mk (nlV a k).links.length Mck] from by rw [hwb8]; exact Boxed.new wM [.slice Ms (nlV a k).sets.length Mcs, .slice Mk (nlV a k).links.length Mck] 27)
  go_wp2_with fail
  rw [← hwb8]
  clear hwb8
  have hz8 : wM.heap.size ≤ wb8.heap.size := hxwb8.size
  clear ba0 ba1 bag
  have ba := Hba.out.ext hxwb8
  clear Hba
  have ba0 := ba.at0
  have ba1 := ba.at1
  have bag := ba.1
  have Hba := Lib.hid ba
  clear ba
  clear bb0 bb1 bbg
  have bb := Hbb.out.ext hxwb8
  clear Hbb
  have bb0 := bb.at0
  have bb1 := bb.at1
  have bbg := bb.1
  have Hbb := Lib.hid bb
  clear bb
  have bc0 := Hbc.out.at0
  have bc1 := Hbc.out.at1
  have bcg := Hbc.out.1
  refine Calls.mono (spec_NarrowLink _ _ a k _ (HR.out.up (((hxwb6.trans hxM).trans hxwb8).trans (by repeat (first | exact Ext.refl _ | assumption | refine Ext.alloc ?_ _ | refine Ext.drew ?_ | refine Ext.drewN ?_ _ | refine Ext.setCell ?_ (by first | (simp; done) | (simp; omega) | omega) _ | refine Ext.trans ?_ (by assumption)))))) ?_
  intro e wL hp
  obtain ⟨Ls, Lcs, Lk, Lck, rfl, hxL, HL⟩ := hp.plain
  clear hp
  have hz9 : wb8.heap.size ≤ wL.heap.size := hxL.size
  clear ba0 ba1 bag
  have ba := Hba.out.ext hxL
  clear Hba
  have ba0 := ba.at0
  have ba1 := ba.at1
  have bag := ba.1
  have Hba := Lib.hid ba
  clear ba
  clear bb0 bb1 bbg
  have bb := Hbb.out.ext hxL
  clear Hbb
  have bb0 := bb.at0
  have bb1 := bb.at1
  have bbg := bb.1
  have Hbb := Lib.hid bb
  clear bb
  clear bc0 bc1 bcg
  have bc := Hbc.out.ext hxL
  clear Hbc
  have bc0 := bc.at0
  have bc1 := bc.at1
  have bcg := bc.1
  have Hbc := Lib.hid bc
  clear bc
  obtain ⟨wb10, hwb10⟩ : ∃ x : World, x = wL.alloc (.cells #[.slice Ls (nlV a k).sets.length Lcs, .slice Lk (nlV a k).links.length Lck] 27) := ⟨_, rfl⟩
  have hxwb10 : Ext wL wb10 := by rw [hwb10]; exact (by repeat (first | exact Ext.refl _ | assumption | refine Ext.alloc ?_ _ | refine Ext.drew ?_ | refine Ext.drewN ?_ _ | refine Ext.setCell ?_ (by first | (simp; done) | (simp; omega) | omega) _ | refine Ext.trans ?_ (by assumption)))
  have Hbd := Lib.hid (show Boxed wb10 wL.heap.size [.slice Ls (nlV a k).sets.length Lcs, .slice Lk (nlV a k).links.length Lck] from by rw [hwb10]; exact Boxed.new wL [.slice Ls (nlV a k).sets.length Lcs, .slice Lk (nlV a k).links.length Lck] 27)
  go_wp2_with fail
  rw [← hwb10]
  clear hwb10
  have hz10 : wL.heap.size ≤ wb10.heap.size := hxwb10.size
  clear ba0 ba1 bag
  have ba := Hba.out.ext hxwb10
  clear Hba
  have ba0 := ba.at0
  have ba1 := ba.at1
  have bag := ba.1
  have Hba := Lib.hid ba
  clear ba
  clear bb0 bb1 bbg
  have bb := Hbb.out.ext hxwb10
  clear Hbb
  have bb0 := bb.at0
  have bb1 := bb.at1
  have bbg := bb.1
  have Hbb := Lib.hid bb
  clear bb
  clear bc0 bc1 bcg
  have bc := Hbc.out.ext hxwb10
  clear Hbc
  have bc0 := bc.at0
  have bc1 := bc.at1
  have bcg := bc.1
  have Hbc := Lib.hid bc
  clear bc
  have bd0 := Hbd.out.at0
  have bd1 := Hbd.out.at1
  have bdg := Hbd.out.1
  refine Calls.mono (spec_DrawEmptyVariables cn _ _ (H.out.up ((((((((((hxN.trans hxwb2).trans hxP).trans hxQ).trans hxR).trans hxwb6).trans hxM).trans hxwb8).trans hxL).trans hxwb10).trans (by repeat (first | exact Ext.refl _ | assumption | refine Ext.alloc ?_ _ | refine Ext.drew ?_ | refine Ext.drewN ?_ _ | refine Ext.setCell ?_ (by first | (simp; done) | (simp; omega) | omega) _ | refine Ext.trans ?_ (by assumption)))))) ?_
  intro e wB hp
  obtain ⟨Bs, Bcs, Bk, Bck, b, rfl, hxB, -, -, HB⟩ := hp.plain
  clear hp
  have hz11 : wb10.heap.size ≤ wB.heap.size := hxB.size
  clear ba0 ba1 bag
  have ba := Hba.out.ext hxB
  clear Hba
  have ba0 := ba.at0
  have ba1 := ba.at1
  have bag := ba.1
  have Hba := Lib.hid ba
  clear ba
  clear bb0 bb1 bbg
  have bb := Hbb.out.ext hxB
  clear Hbb
  have bb0 := bb.at0
  have bb1 := bb.at1
  have bbg := bb.1
  have Hbb := Lib.hid bb
  clear bb
  clear bc0 bc1 bcg
  have bc := Hbc.out.ext hxB
  clear Hbc
  have bc0 := bc.at0
  have bc1 := bc.at1
  have bcg := bc.1
  have Hbc := Lib.hid bc
  clear bc
  clear bd0 bd1 bdg
  have bd := Hbd.out.ext hxB
  clear Hbd
  have bd0 := bd.at0
  have bd1 := bd.at1
  have bdg := bd.1
  have Hbd := Lib.hid bd
  clear bd
  obtain ⟨wb12, hwb12⟩ : ∃ x : World, x = wB.alloc (.cells #[.slice Bs b.sets.length Bcs, .slice Bk b.links.length Bck] 27) := ⟨_, rfl⟩
  have hxwb12 : Ext wB wb12 := by rw [hwb12]; exact (by repeat (first | exact Ext.refl _ | assumption | refine Ext.alloc ?_ _ | refine Ext.drew ?_ | refine Ext.drewN ?_ _ | refine Ext.setCell ?_ (by first | (simp; done) | (simp; omega) | omega) _ | refine Ext.trans ?_ (by assumption)))
  have Hbe := Lib.hid (show Boxed wb12 wB.heap.size [.slice Bs b.sets.length Bcs, .slice Bk b.links.length Bck] from by rw [hwb12]; exact Boxed.new wB [.slice Bs b.sets.length Bcs, .slice Bk b.links.length Bck] 27)
  go_wp2_with fail
  rw [← hwb12]
  clear hwb12
  have hz12 : wB.heap.size ≤ wb12.heap.size := hxwb12.size
  clear ba0 ba1 bag
  have ba := Hba.out.ext hxwb12
  clear Hba
  have ba0 := ba.at0
  have ba1 := ba.at1
  have bag := ba.1
  have Hba := Lib.hid ba
  clear ba
  clear bb0 bb1 bbg
  have bb := Hbb.out.ext hxwb12
  clear Hbb
  have bb0 := bb.at0
  have bb1 := bb.at1
  have bbg := bb.1
  have Hbb := Lib.hid bb
  clear bb
  clear bc0 bc1 bcg
  have bc := Hbc.out.ext hxwb12
  clear Hbc
  have bc0 := bc.at0
  have bc1 := bc.at1
  have bcg := bc.1
  have Hbc := Lib.hid bc
  clear bc
  clear bd0 bd1 bdg
  have bd := Hbd.out.ext hxwb12
  clear Hbd
  have bd0 := bd.at0
  have bd1 := bd.at1
  have bdg := bd.1
  have Hbd := Lib.hid bd
  clear bd
  have be0 := Hbe.out.at0
  have be1 := Hbe.out.at1
  have beg := Hbe.out.1
  refine Calls.mono (impl_EmptyVariables _ _ b _ (HB.out.up (hxwb12.trans (by repeat (first | exact Ext.refl _ | assumption | refine Ext.alloc ?_ _ | refine Ext.drew ?_ | refine Ext.drewN ?_ _ | refine Ext.setCell ?_ (by first | (simp; done) | (simp; omega) | omega) _ | refine Ext.trans ?_ (by assumption)))))) ?_
  intro e wE hp
  obtain ⟨Ea, Ec, rfl, hxE, IE⟩ := hp.plain
  clear hp
  have hz13 : wb12.heap.size ≤ wE.heap.size := hxE.size
  clear ba0 ba1 bag
  have ba := Hba.out.ext hxE
  clear Hba
  have ba0 := ba.at0
  have ba1 := ba.at1
  have bag := ba.1
  have Hba := Lib.hid ba
  clear ba
  clear bb0 bb1 bbg
  have bb := Hbb.out.ext hxE
  clear Hbb
  have bb0 := bb.at0
  have bb1 := bb.at1
  have bbg := bb.1
  have Hbb := Lib.hid bb
  clear bb
  clear bc0 bc1 bcg
  have bc := Hbc.out.ext hxE
  clear Hbc
  have bc0 := bc.at0
  have bc1 := bc.at1
  have bcg := bc.1
  have Hbc := Lib.hid bc
  clear bc
  clear bd0 bd1 bdg
  have bd := Hbd.out.ext hxE
  clear Hbd
  have bd0 := bd.at0
  have bd1 := bd.at1
  have bdg := bd.1
  have Hbd := Lib.hid bd
  clear bd
  clear be0 be1 beg
  have be := Hbe.out.ext hxE
  clear Hbe
  have be0 := be.at0
  have be1 := be.at1
  have beg := be.1
  have Hbe := Lib.hid be
  clear be
  go_wp2_with fail
  refine Calls.mono (spec_EmptyVariables _ _ b _ (HB.out.up ((hxwb12.trans hxE).trans (by repeat (first | exact Ext.refl _ | assumption | refine Ext.alloc ?_ _ | refine Ext.drew ?_ | refine Ext.drewN ?_ _ | refine Ext.setCell ?_ (by first | (simp; done) | (simp; omega) | omega) _ | refine Ext.trans ?_ (by assumption)))))) ?_
  intro e wF hp
  obtain ⟨Fa, Fc, rfl, hxF, IF⟩ := hp.plain
  clear hp
  have hz14 : wE.heap.size ≤ wF.heap.size := hxF.size
  clear ba0 ba1 bag
  have ba := Hba.out.ext hxF
  clear Hba
  have ba0 := ba.at0
  have ba1 := ba.at1
  have bag := ba.1
  have Hba := Lib.hid ba
  clear ba
  clear bb0 bb1 bbg
  have bb := Hbb.out.ext hxF
  clear Hbb
  have bb0 := bb.at0
  have bb1 := bb.at1
  have bbg := bb.1
  have Hbb := Lib.hid bb
  clear bb
  clear bc0 bc1 bcg
  have bc := Hbc.out.ext hxF
  clear Hbc
  have bc0 := bc.at0
  have bc1 := bc.at1
  have bcg := bc.1
  have Hbc := Lib.hid bc
  clear bc
  clear bd0 bd1 bdg
  have bd := Hbd.out.ext hxF
  clear Hbd
  have bd0 := bd.at0
  have bd1 := bd.at1
  have bdg := bd.1
  have Hbd := Lib.hid bd
  clear bd
  clear be0 be1 beg
  have be := Hbe.out.ext hxF
  clear Hbe
  have be0 := be.at0
  have be1 := be.at1
  have beg := be.1
  have Hbe := Lib.hid be
  clear be
  go_wp2_with fail
  refine Calls.mono (laws_likeSpans9 _ _ (pdL n lk o) _ (Spans.up (IP.out.up (((((((((((hxQ.trans hxR).trans hxwb6).trans hxM).trans hxwb8).trans hxL).trans hxwb10).trans hxB).trans hxwb12).trans hxE).trans hxF).trans (by repeat (first | exact Ext.refl _ | assumption | refine Ext.alloc ?_ _ | refine Ext.drew ?_ | refine Ext.drewN ?_ _ | refine Ext.setCell ?_ (by first | (simp; done) | (simp; omega) | omega) _ | refine Ext.trans ?_ (by assumption))))) (Ext.refl _)) (Spans.up (IQ.out.up ((((((((((hxR.trans hxwb6).trans hxM).trans hxwb8).trans hxL).trans hxwb10).trans hxB).trans hxwb12).trans hxE).trans hxF).trans (by repeat (first | exact Ext.refl _ | assumption | refine Ext.alloc ?_ _ | refine Ext.drew ?_ | refine Ext.drewN ?_ _ | refine Ext.setCell ?_ (by first | (simp; done) | (simp; omega) | omega) _ | refine Ext.trans ?_ (by assumption))))) (Ext.refl _))) ?_
  rintro e wt1 ⟨rfl, hxt1⟩
  have hz15 : wF.heap.size ≤ wt1.heap.size := hxt1.size
  clear ba0 ba1 bag
  have ba := Hba.out.ext hxt1
  clear Hba
  have ba0 := ba.at0
  have ba1 := ba.at1
  have bag := ba.1
  have Hba := Lib.hid ba
  clear ba
  clear bb0 bb1 bbg
  have bb := Hbb.out.ext hxt1
  clear Hbb
  have bb0 := bb.at0
  have bb1 := bb.at1
  have bbg := bb.1
  have Hbb := Lib.hid bb
  clear bb
  clear bc0 bc1 bcg
  have bc := Hbc.out.ext hxt1
  clear Hbc
  have bc0 := bc.at0
  have bc1 := bc.at1
  have bcg := bc.1
  have Hbc := Lib.hid bc
  clear bc
  clear bd0 bd1 bdg
  have bd := Hbd.out.ext hxt1
  clear Hbd
  have bd0 := bd.at0
  have bd1 := bd.at1
  have bdg := bd.1
  have Hbd := Lib.hid bd
  clear bd
  clear be0 be1 beg
  have be := Hbe.out.ext hxt1
  clear Hbe
  have be0 := be.at0
  have be1 := be.at1
  have beg := be.1
  have Hbe := Lib.hid be
  clear be
  go_wp2_with fail
  refine Calls.mono (laws_likeNetworks9 _ _ _ _ (nlV a k) _ (HM.out.up ((((((((hxwb8.trans hxL).trans hxwb10).trans hxB).trans hxwb12).trans hxE).trans hxF).trans hxt1).trans (by repeat (first | exact Ext.refl _ | assumption | refine Ext.alloc ?_ _ | refine Ext.drew ?_ | refine Ext.drewN ?_ _ | refine Ext.setCell ?_ (by first | (simp; done) | (simp; omega) | omega) _ | refine Ext.trans ?_ (by assumption))))) (HL.out.up ((((((hxwb10.trans hxB).trans hxwb12).trans hxE).trans hxF).trans hxt1).trans (by repeat (first | exact Ext.refl _ | assumption | refine Ext.alloc ?_ _ | refine Ext.drew ?_ | refine Ext.drewN ?_ _ | refine Ext.setCell ?_ (by first | (simp; done) | (simp; omega) | omega) _ | refine Ext.trans ?_ (by assumption)))))) ?_
  rintro e wt2 ⟨rfl, hxt2⟩
  have hz16 : wt1.heap.size ≤ wt2.heap.size := hxt2.size
  clear ba0 ba1 bag
  have ba := Hba.out.ext hxt2
  clear Hba
  have ba0 := ba.at0
  have ba1 := ba.at1
  have bag := ba.1
  have Hba := Lib.hid ba
  clear ba
  clear bb0 bb1 bbg
  have bb := Hbb.out.ext hxt2
  clear Hbb
  have bb0 := bb.at0
  have bb1 := bb.at1
  have bbg := bb.1
  have Hbb := Lib.hid bb
  clear bb
  clear bc0 bc1 bcg
  have bc := Hbc.out.ext hxt2
  clear Hbc
  have bc0 := bc.at0
  have bc1 := bc.at1
  have bcg := bc.1
  have Hbc := Lib.hid bc
  clear bc
  clear bd0 bd1 bdg
  have bd := Hbd.out.ext hxt2
  clear Hbd
  have bd0 := bd.at0
  have bd1 := bd.at1
  have bdg := bd.1
  have Hbd := Lib.hid bd
  clear bd
  clear be0 be1 beg
  have be := Hbe.out.ext hxt2
  clear Hbe
  have be0 := be.at0
  have be1 := be.at1
  have beg := be.1
  have Hbe := Lib.hid be
  clear be
  go_wp2_with fail
  refine Calls.mono (laws_likeInts _ _ (emptyV b) _ (IE.out.up (((hxF.trans hxt1).trans hxt2).trans (by repeat (first | exact Ext.refl _ | assumption | refine Ext.alloc ?_ _ | refine Ext.drew ?_ | refine Ext.drewN ?_ _ | refine Ext.setCell ?_ (by first | (simp; done) | (simp; omega) | omega) _ | refine Ext.trans ?_ (by assumption))))) (IF.out.up ((hxt1.trans hxt2).trans (by repeat (first | exact Ext.refl _ | assumption | refine Ext.alloc ?_ _ | refine Ext.drew ?_ | refine Ext.drewN ?_ _ | refine Ext.setCell ?_ (by first | (simp; done) | (simp; omega) | omega) _ | refine Ext.trans ?_ (by assumption)))))) ?_
  rintro e wt3 ⟨rfl, hxt3⟩
  have hz17 : wt2.heap.size ≤ wt3.heap.size := hxt3.size
  clear ba0 ba1 bag
  have ba := Hba.out.ext hxt3
  clear Hba
  have ba0 := ba.at0
  have ba1 := ba.at1
  have bag := ba.1
  have Hba := Lib.hid ba
  clear ba
  clear bb0 bb1 bbg
  have bb := Hbb.out.ext hxt3
  clear Hbb
  have bb0 := bb.at0
  have bb1 := bb.at1
  have bbg := bb.1
  have Hbb := Lib.hid bb
  clear bb
  clear bc0 bc1 bcg
  have bc := Hbc.out.ext hxt3
  clear Hbc
  have bc0 := bc.at0
  have bc1 := bc.at1
  have bcg := bc.1
  have Hbc := Lib.hid bc
  clear bc
  clear bd0 bd1 bdg
  have bd := Hbd.out.ext hxt3
  clear Hbd
  have bd0 := bd.at0
  have bd1 := bd.at1
  have bdg := bd.1
  have Hbd := Lib.hid bd
  clear bd
  clear be0 be1 beg
  have be := Hbe.out.ext hxt3
  clear Hbe
  have be0 := be.at0
  have be1 := be.at1
  have beg := be.1
  have Hbe := Lib.hid be
  clear be
  by_cases he : netE b = 0
  · have hnb := empty_len he
    go_wp2_with fail
    go_loopg [21] (emptyV b).length (fun q i21 wr => ∃ j : Nat, j + q = (emptyV b).length ∧ i21 = .int .i64 j ∧ Ext wt3 wr)
    case atStart => exact ⟨0, by omega, rfl, Ext.refl _⟩
    case round =>
      obtain ⟨j, hj, rfl, hxr⟩ := hrel
      have hz18 : wt3.heap.size ≤ wr.heap.size := hxr.size
      clear ba0 ba1 bag
      have ba := Hba.out.ext hxr
      clear Hba
      have ba0 := ba.at0
      have ba1 := ba.at1
      have bag := ba.1
      have Hba := Lib.hid ba
      clear ba
      clear bb0 bb1 bbg
      have bb := Hbb.out.ext hxr
      clear Hbb
      have bb0 := bb.at0
      have bb1 := bb.at1
      have bbg := bb.1
      have Hbb := Lib.hid bb
      clear bb
      clear bc0 bc1 bcg
      have bc := Hbc.out.ext hxr
      clear Hbc
      have bc0 := bc.at0
      have bc1 := bc.at1
      have bcg := bc.1
      have Hbc := Lib.hid bc
      clear bc
      clear bd0 bd1 bdg
      have bd := Hbd.out.ext hxr
      clear Hbd
      have bd0 := bd.at0
      have bd1 := bd.at1
      have bdg := bd.1
      have Hbd := Lib.hid bd
      clear bd
      clear be0 be1 beg
      have be := Hbe.out.ext hxr
      clear Hbe
      have be0 := be.at0
      have be1 := be.at1
      have beg := be.1
      have Hbe := Lib.hid be
      clear be
      by_cases hlt : j < (emptyV b).length
      · obtain ⟨jv, ej, hjv, hz⟩ := empty_at he hlt
        obtain ⟨b2, o2, rfl, _, hb2, h2⟩ := (IE.out.up ((((hxF.trans hxt1).trans hxt2).trans hxt3).trans hxr)).at_ hlt
        rw [ej] at h2
        obtain ⟨b1, o1, u, rfl, _, hb1, h1, hu⟩ := (HB.out.up ((((((hxwb12.trans hxE).trans hxF).trans hxt1).trans hxt2).trans hxt3).trans hxr)).1.at_ hjv
        obtain ⟨Au, cu, rfl, _⟩ := hu.len
        rw [hz] at h1
        clear hu
        have hji : (j : Int) < ((emptyV b).length : Int) := by omega
        have hj0 : (0 : Int) ≤ (j : Int) := by omega
        have hv0 : (0 : Int) ≤ (jv : Int) := by omega
        have hv1 : (jv : Int) < (b.sets.length : Int) := by omega
        go_wp2_with fail
        (refine wp_region_onto prog_mixed (by kernel_rfl) ?_; (repeat (go_big_quiet_step ((fail)))); refine onto_end ?_; intro w5 hx5)
        have hz19 : wr.heap.size ≤ w5.heap.size := hx5.size
        clear ba0 ba1 bag
        have ba := Hba.out.ext hx5
        clear Hba
        have ba0 := ba.at0
        have ba1 := ba.at1
        have bag := ba.1
        have Hba := Lib.hid ba
        clear ba
        clear bb0 bb1 bbg
        have bb := Hbb.out.ext hx5
        clear Hbb
        have bb0 := bb.at0
        have bb1 := bb.at1
        have bbg := bb.1
        have Hbb := Lib.hid bb
        clear bb
        clear bc0 bc1 bcg
        have bc := Hbc.out.ext hx5
        clear Hbc
        have bc0 := bc.at0
        have bc1 := bc.at1
        have bcg := bc.1
        have Hbc := Lib.hid bc
        clear bc
        clear bd0 bd1 bdg
        have bd := Hbd.out.ext hx5
        clear Hbd
        have bd0 := bd.at0
        have bd1 := bd.at1
        have bdg := bd.1
        have Hbd := Lib.hid bd
        clear bd
        clear be0 be1 beg
        have be := Hbe.out.ext hx5
        clear Hbe
        have be0 := be.at0
        have be1 := be.at1
        have beg := be.1
        have Hbe := Lib.hid be
        clear be
        go_wp2_with fail
        go_roundg ((emptyV b).length - (j + 1))
        case measure => omega
        case rel => exact ⟨j + 1, by omega, by go_num, (hxr.trans hx5)⟩
      · obtain rfl : j = (emptyV b).length := by omega
        have hji : ¬ ((emptyV b).length : Int) < ((emptyV b).length : Int) := by omega
        by_cases h1 : nlE a k = 0
        · obtain ⟨jk, rfl, hjk, hlk, hmk, hpo⟩ := nl_law h1
          obtain ⟨f1, f2⟩ := hpo false
          obtain ⟨t1, t2⟩ := hpo true
          have F2 := Lib.hid f2
          have T2 := Lib.hid t2
          clear f2 t2
          have hltA := hlk.lt
          have Hlk := Lib.hid hlk
          clear hpo hlk hmk
          go_wp2_with fail
          refine Calls.mono (impl_PartnerDays _ _ (nlV a (jk : Int)) (jk : Int) false _ (HM.out.up (((((((((((hxwb8.trans hxL).trans hxwb10).trans hxB).trans hxwb12).trans hxE).trans hxF).trans hxt1).trans hxt2).trans hxt3).trans hxr).trans (by repeat (first | exact Ext.refl _ | assumption | refine Ext.alloc ?_ _ | refine Ext.drew ?_ | refine Ext.drewN ?_ _ | refine Ext.setCell ?_ (by first | (simp; done) | (simp; omega) | omega) _ | refine Ext.trans ?_ (by assumption)))))) ?_
          intro e wU hp
          obtain ⟨Ua, Uc, rfl, hxU, IU⟩ := hp.plain
          clear hp
          have hz19 : wr.heap.size ≤ wU.heap.size := hxU.size
          clear ba0 ba1 bag
          have ba := Hba.out.ext hxU
          clear Hba
          have ba0 := ba.at0
          have ba1 := ba.at1
          have bag := ba.1
          have Hba := Lib.hid ba
          clear ba
          clear bb0 bb1 bbg
          have bb := Hbb.out.ext hxU
          clear Hbb
          have bb0 := bb.at0
          have bb1 := bb.at1
          have bbg := bb.1
          have Hbb := Lib.hid bb
          clear bb
          clear bc0 bc1 bcg
          have bc := Hbc.out.ext hxU
          clear Hbc
          have bc0 := bc.at0
          have bc1 := bc.at1
          have bcg := bc.1
          have Hbc := Lib.hid bc
          clear bc
          clear bd0 bd1 bdg
          have bd := Hbd.out.ext hxU
          clear Hbd
          have bd0 := bd.at0
          have bd1 := bd.at1
          have bdg := bd.1
          have Hbd := Lib.hid bd
          clear bd
          clear be0 be1 beg
          have be := Hbe.out.ext hxU
          clear Hbe
          have be0 := be.at0
          have be1 := be.at1
          have beg := be.1
          have Hbe := Lib.hid be
          clear be
          rw [f1]
          go_wp2_with fail
          refine Calls.mono (impl_PartnerDays _ _ (nlV a (jk : Int)) (jk : Int) true _ (HM.out.up ((((((((((((hxwb8.trans hxL).trans hxwb10).trans hxB).trans hxwb12).trans hxE).trans hxF).trans hxt1).trans hxt2).trans hxt3).trans hxr).trans hxU).trans (by repeat (first | exact Ext.refl _ | assumption | refine Ext.alloc ?_ _ | refine Ext.drew ?_ | refine Ext.drewN ?_ _ | refine Ext.setCell ?_ (by first | (simp; done) | (simp; omega) | omega) _ | refine Ext.trans ?_ (by assumption)))))) ?_
          intro e wV hp
          obtain ⟨Va, Vc, rfl, hxV, IV⟩ := hp.plain
          clear hp
          have hz20 : wU.heap.size ≤ wV.heap.size := hxV.size
          clear ba0 ba1 bag
          have ba := Hba.out.ext hxV
          clear Hba
          have ba0 := ba.at0
          have ba1 := ba.at1
          have bag := ba.1
          have Hba := Lib.hid ba
          clear ba
          clear bb0 bb1 bbg
          have bb := Hbb.out.ext hxV
          clear Hbb
          have bb0 := bb.at0
          have bb1 := bb.at1
          have bbg := bb.1
          have Hbb := Lib.hid bb
          clear bb
          clear bc0 bc1 bcg
          have bc := Hbc.out.ext hxV
          clear Hbc
          have bc0 := bc.at0
          have bc1 := bc.at1
          have bcg := bc.1
          have Hbc := Lib.hid bc
          clear bc
          clear bd0 bd1 bdg
          have bd := Hbd.out.ext hxV
          clear Hbd
          have bd0 := bd.at0
          have bd1 := bd.at1
          have bdg := bd.1
          have Hbd := Lib.hid bd
          clear bd
          clear be0 be1 beg
          have be := Hbe.out.ext hxV
          clear Hbe
          have be0 := be.at0
          have be1 := be.at1
          have beg := be.1
          have Hbe := Lib.hid be
          clear be
          rw [t1]
          obtain ⟨b5, o5, eM, _, hb5, d0, d1, _, _⟩ := (HM.out.up ((((((((((((hxwb8.trans hxL).trans hxwb10).trans hxB).trans hxwb12).trans hxE).trans hxF).trans hxt1).trans hxt2).trans hxt3).trans hxr).trans hxU).trans hxV)).2.at_ hjk
          have hbe0 : 0 ≤ (lkAt (nlV a (jk : Int)).links jk).be := Hlk.out.1.1
          have haf0 : 0 ≤ (lkAt (nlV a (jk : Int)).links jk).af := Hlk.out.2.1.1
          obtain ⟨bn, hbn⟩ := Int.eq_ofNat_of_zero_le hbe0
          obtain ⟨an, han⟩ := Int.eq_ofNat_of_zero_le haf0
          have eb : ownI false (lkAt (nlV a (jk : Int)).links jk) = bn := by unfold ownI; simp [hbn]
          have ea : ownI true (lkAt (nlV a (jk : Int)).links jk) = an := by unfold ownI; simp [han]
          have hbl : bn < (nlV a (jk : Int)).sets.length := by have := hltA.2; rw [hbn] at this; simpa using this
          have hal : an < (nlV a (jk : Int)).sets.length := by have := hltA.1; rw [han] at this; simpa using this
          rw [hbn] at d0
          rw [han] at d1
          obtain ⟨b6, o6, u1, eS, _, hb6, g1, hu1⟩ := (HM.out.up ((((((((((((hxwb8.trans hxL).trans hxwb10).trans hxB).trans hxwb12).trans hxE).trans hxF).trans hxt1).trans hxt2).trans hxt3).trans hxr).trans hxU).trans hxV)).1.at_ hbl
          obtain ⟨b7, o7, u2, eS2, _, hb7, g2, hu2⟩ := (HM.out.up ((((((((((((hxwb8.trans hxL).trans hxwb10).trans hxB).trans hxwb12).trans hxE).trans hxF).trans hxt1).trans hxt2).trans hxt3).trans hxr).trans hxU).trans hxV)).1.at_ hal
          rw [eS] at eS2
          injection eS2 with eS2
          injection eS2 with e7 e8
          subst e7 e8
          have IU2 := Lib.hid (show Spans wU 0 wU.heap.size (.slice Ua (pdL (nlV a (jk : Int)) (jk : Int) false).length Uc) (setAt (nlV a (jk : Int)).sets bn) from by have hh := IU.out; rw [F2.out, eb] at hh ⊢; exact hh)
          have IV2 := Lib.hid (show Spans wV 0 wV.heap.size (.slice Va (pdL (nlV a (jk : Int)) (jk : Int) true).length Vc) (setAt (nlV a (jk : Int)).sets an) from by have hh := IV.out; rw [T2.out, ea] at hh ⊢; exact hh)
          obtain ⟨U1, u1c, rfl, _⟩ := hu1.len
          obtain ⟨U2, u2c, rfl, _⟩ := hu2.len
          have Hu1 := Lib.hid hu1
          have Hu2 := Lib.hid hu2
          clear hu1 hu2 eb ea hbn han hbe0 haf0
          subst eM
          subst eS
          have i0 : (0 : Int) ≤ (jk : Int) := by omega
          have i1 : (jk : Int) < ((nlV a (jk : Int)).links.length : Int) := by omega
          have i2 : (0 : Int) ≤ (bn : Int) := by omega
          have i3 : (bn : Int) < ((nlV a (jk : Int)).sets.length : Int) := by omega
          have i4 : (0 : Int) ≤ (an : Int) := by omega
          have i5 : (an : Int) < ((nlV a (jk : Int)).sets.length : Int) := by omega
          go_wp2_with fail
          (refine wp_region_onto prog_mixed (by kernel_rfl) ?_; (repeat (go_big_quiet_step ((first | (go_at_call 54; with_reducible exact onto_callX (laws_likeSpans9 _ _ (setAt (nlV a (jk : Int)).sets bn) _ (Spans.up IU2.out (hxV.trans (onto_ext _ _))) (Spans.up Hu1.out (onto_ext _ _)))) | (go_at_call 54; with_reducible exact onto_callX (laws_likeSpans9 _ _ (setAt (nlV a (jk : Int)).sets an) _ (Spans.up IV2.out (onto_ext _ _)) (Spans.up Hu2.out (onto_ext _ _)))))))); refine onto_end ?_; intro w8 hx8)
          have hz21 : wV.heap.size ≤ w8.heap.size := hx8.size
          clear ba0 ba1 bag
          have ba := Hba.out.ext hx8
          clear Hba
          have ba0 := ba.at0
          have ba1 := ba.at1
          have bag := ba.1
          have Hba := Lib.hid ba
          clear ba
          clear bb0 bb1 bbg
          have bb := Hbb.out.ext hx8
          clear Hbb
          have bb0 := bb.at0
          have bb1 := bb.at1
          have bbg := bb.1
          have Hbb := Lib.hid bb
          clear bb
          clear bc0 bc1 bcg
          have bc := Hbc.out.ext hx8
          clear Hbc
          have bc0 := bc.at0
          have bc1 := bc.at1
          have bcg := bc.1
          have Hbc := Lib.hid bc
          clear bc
          clear bd0 bd1 bdg
          have bd := Hbd.out.ext hx8
          clear Hbd
          have bd0 := bd.at0
          have bd1 := bd.at1
          have bdg := bd.1
          have Hbd := Lib.hid bd
          clear bd
          clear be0 be1 beg
          have be := Hbe.out.ext hx8
          clear Hbe
          have be0 := be.at0
          have be1 := be.at1
          have beg := be.1
          have Hbe := Lib.hid be
          clear be
          clear d0 d1 g1 g2
          by_cases h2 : pdE n lk o = 0
          case neg =>
            have h2f : (pdE n lk o == 0) = false := by simpa using h2
            go_wp2_with fail
            go_ret
            exact ⟨rfl, (((((((((((((((((((((hxN.trans hxwb2).trans hxP).trans hxQ).trans hxR).trans hxwb6).trans hxM).trans hxwb8).trans hxL).trans hxwb10).trans hxB).trans hxwb12).trans hxE).trans hxF).trans hxt1).trans hxt2).trans hxt3).trans hxr).trans hxU).trans hxV).trans hx8).trans (by repeat (first | exact Ext.refl _ | assumption | refine Ext.alloc ?_ _ | refine Ext.drew ?_ | refine Ext.drewN ?_ _ | refine Ext.setCell ?_ (by first | (simp; done) | (simp; omega) | omega) _ | refine Ext.trans ?_ (by assumption))))⟩
          obtain ⟨j, rfl, hj, hok, hk, hpl, hlen⟩ := pd_in h2
          obtain ⟨b4, o4, eN, _, hb4, d0, d1, d2, d3⟩ := (HN.out.up ((((((((((((((((((((hxwb2.trans hxP).trans hxQ).trans hxR).trans hxwb6).trans hxM).trans hxwb8).trans hxL).trans hxwb10).trans hxB).trans hxwb12).trans hxE).trans hxF).trans hxt1).trans hxt2).trans hxt3).trans hxr).trans hxU).trans hxV).trans hx8).trans (by repeat (first | exact Ext.refl _ | assumption | refine Ext.alloc ?_ _ | refine Ext.drew ?_ | refine Ext.drewN ?_ _ | refine Ext.setCell ?_ (by first | (simp; done) | (simp; omega) | omega) _ | refine Ext.trans ?_ (by assumption))))).2.at_ hj
          subst eN
          have hj0 : (0 : Int) ≤ (j : Int) := by omega
          have hj1 : (j : Int) < (n.links.length : Int) := by omega
          have Hok := Lib.hid hok
          have Hk := Lib.hid hk
          have Hpl := Lib.hid hpl
          have Hlen := Lib.hid hlen
          have Hj := Lib.hid hj
          clear hok hk hpl hlen hj
          have hbe0 : 0 ≤ (lkAt n.links j).be := Hk.out.1.1
          have haf0 : 0 ≤ (lkAt n.links j).af := Hk.out.2.1.1
          have hltN := Hk.out.lt
          have hne := Hk.out.2.2.1
          obtain ⟨bn, hbn⟩ := Int.eq_ofNat_of_zero_le hbe0
          obtain ⟨an, han⟩ := Int.eq_ofNat_of_zero_le haf0
          rw [hbn] at d0 hne hltN
          rw [han] at d1 hne hltN
          rw [Int.toNat_natCast, Int.toNat_natCast] at hltN
          have hba : ¬ (an : Int) = (bn : Int) := fun hh => hne (by omega)
          have hab : ¬ (bn : Int) = (an : Int) := hne
          have eb : ownI false (lkAt n.links j) = bn := by unfold ownI; simp [hbn]
          have ea : ownI true (lkAt n.links j) = an := by unfold ownI; simp [han]
          have Eb := Lib.hid eb
          have Ea := Lib.hid ea
          clear hbn han hbe0 haf0 eb ea hne
          obtain ⟨hal, hbl⟩ := hltN
          cases o
          case false =>
            obtain ⟨wb22, hwb22⟩ : ∃ x : World, x = w8.alloc (.cells #[.int .i64 (bn : Int), .int .i64 (an : Int), .int .i64 (lkAt n.links j).le, .int .i64 (lkAt n.links j).mo] 60) := ⟨_, rfl⟩
            have hxwb22 : Ext w8 wb22 := by rw [hwb22]; exact (by repeat (first | exact Ext.refl _ | assumption | refine Ext.alloc ?_ _ | refine Ext.drew ?_ | refine Ext.drewN ?_ _ | refine Ext.setCell ?_ (by first | (simp; done) | (simp; omega) | omega) _ | refine Ext.trans ?_ (by assumption)))
            have Hbl := Lib.hid (show Boxed wb22 w8.heap.size [.int .i64 (bn : Int), .int .i64 (an : Int), .int .i64 (lkAt n.links j).le, .int .i64 (lkAt n.links j).mo] from by rw [hwb22]; exact Boxed.new w8 [.int .i64 (bn : Int), .int .i64 (an : Int), .int .i64 (lkAt n.links j).le, .int .i64 (lkAt n.links j).mo] 60)
            go_wp2_with fail
            rw [← hwb22]
            clear hwb22
            have hz22 : w8.heap.size ≤ wb22.heap.size := hxwb22.size
            clear ba0 ba1 bag
            have ba := Hba.out.ext hxwb22
            clear Hba
            have ba0 := ba.at0
            have ba1 := ba.at1
            have bag := ba.1
            have Hba := Lib.hid ba
            clear ba
            clear bb0 bb1 bbg
            have bb := Hbb.out.ext hxwb22
            clear Hbb
            have bb0 := bb.at0
            have bb1 := bb.at1
            have bbg := bb.1
            have Hbb := Lib.hid bb
            clear bb
            clear bc0 bc1 bcg
            have bc := Hbc.out.ext hxwb22
            clear Hbc
            have bc0 := bc.at0
            have bc1 := bc.at1
            have bcg := bc.1
            have Hbc := Lib.hid bc
            clear bc
            clear bd0 bd1 bdg
            have bd := Hbd.out.ext hxwb22
            clear Hbd
            have bd0 := bd.at0
            have bd1 := bd.at1
            have bdg := bd.1
            have Hbd := Lib.hid bd
            clear bd
            clear be0 be1 beg
            have be := Hbe.out.ext hxwb22
            clear Hbe
            have be0 := be.at0
            have be1 := be.at1
            have beg := be.1
            have Hbe := Lib.hid be
            clear be
            have bl0 := Hbl.out.at0
            have bl1 := Hbl.out.at1
            have bl2 := Hbl.out.at2
            have bl3 := Hbl.out.at3
            have blg := Hbl.out.1
            (refine wp_region_onto prog_mixed (by kernel_rfl) ?_; (repeat (go_big_quiet_step ((fail)))); refine onto_end ?_; intro w10 hx10)
            have hz23 : wb22.heap.size ≤ w10.heap.size := hx10.size
            clear ba0 ba1 bag
            have ba := Hba.out.ext hx10
            clear Hba
            have ba0 := ba.at0
            have ba1 := ba.at1
            have bag := ba.1
            have Hba := Lib.hid ba
            clear ba
            clear bb0 bb1 bbg
            have bb := Hbb.out.ext hx10
            clear Hbb
            have bb0 := bb.at0
            have bb1 := bb.at1
            have bbg := bb.1
            have Hbb := Lib.hid bb
            clear bb
            clear bc0 bc1 bcg
            have bc := Hbc.out.ext hx10
            clear Hbc
            have bc0 := bc.at0
            have bc1 := bc.at1
            have bcg := bc.1
            have Hbc := Lib.hid bc
            clear bc
            clear bd0 bd1 bdg
            have bd := Hbd.out.ext hx10
            clear Hbd
            have bd0 := bd.at0
            have bd1 := bd.at1
            have bdg := bd.1
            have Hbd := Lib.hid bd
            clear bd
            clear be0 be1 beg
            have be := Hbe.out.ext hx10
            clear Hbe
            have be0 := be.at0
            have be1 := be.at1
            have beg := be.1
            have Hbe := Lib.hid be
            clear be
            clear bl0 bl1 bl2 bl3 blg
            have bl := Hbl.out.ext hx10
            clear Hbl
            have bl0 := bl.at0
            have bl1 := bl.at1
            have bl2 := bl.at2
            have bl3 := bl.at3
            have blg := bl.1
            have Hbl := Lib.hid bl
            clear bl
            go_wp2_with fail
            (refine wp_region_onto prog_mixed (by kernel_rfl) ?_; (repeat (go_big_quiet_step ((fail)))); refine onto_end ?_; intro w11 hx11)
            have hz24 : w10.heap.size ≤ w11.heap.size := hx11.size
            clear ba0 ba1 bag
            have ba := Hba.out.ext hx11
            clear Hba
            have ba0 := ba.at0
            have ba1 := ba.at1
            have bag := ba.1
            have Hba := Lib.hid ba
            clear ba
            clear bb0 bb1 bbg
            have bb := Hbb.out.ext hx11
            clear Hbb
            have bb0 := bb.at0
            have bb1 := bb.at1
            have bbg := bb.1
            have Hbb := Lib.hid bb
            clear bb
            clear bc0 bc1 bcg
            have bc := Hbc.out.ext hx11
            clear Hbc
            have bc0 := bc.at0
            have bc1 := bc.at1
            have bcg := bc.1
            have Hbc := Lib.hid bc
            clear bc
            clear bd0 bd1 bdg
            have bd := Hbd.out.ext hx11
            clear Hbd
            have bd0 := bd.at0
            have bd1 := bd.at1
            have bdg := bd.1
            have Hbd := Lib.hid bd
            clear bd
            clear be0 be1 beg
            have be := Hbe.out.ext hx11
            clear Hbe
            have be0 := be.at0
            have be1 := be.at1
            have beg := be.1
            have Hbe := Lib.hid be
            clear be
            clear bl0 bl1 bl2 bl3 blg
            have bl := Hbl.out.ext hx11
            clear Hbl
            have bl0 := bl.at0
            have bl1 := bl.at1
            have bl2 := bl.at2
            have bl3 := bl.at3
            have blg := bl.1
            have Hbl := Lib.hid bl
            clear bl
            obtain ⟨b6, o6, u6, eS, _, hb6, g6, hu6⟩ := (HN.out.up ((((((((((((((((((((((hxwb2.trans hxP).trans hxQ).trans hxR).trans hxwb6).trans hxM).trans hxwb8).trans hxL).trans hxwb10).trans hxB).trans hxwb12).trans hxE).trans hxF).trans hxt1).trans hxt2).trans hxt3).trans hxr).trans hxU).trans hxV).trans hx8).trans hxwb22).trans hx10).trans hx11)).1.at_ (i := bn) (by omega)
            subst eS
            obtain ⟨U6, u6c, rfl, _⟩ := hu6.len
            have Hu6 := Lib.hid hu6
            clear hu6
            have hb6' : b6 < w11.heap.size := hb6
            have i6 : (0 : Int) ≤ (bn : Int) := by omega
            have i7 : (bn : Int) < (n.sets.length : Int) := by omega
            have hso := Hok.out.2.2.1 bn (by omega)
            have Hso := Lib.hid hso
            clear hso
            go_wp2_with fail
            refine Calls.mono (impl_CountDays _ (setAt n.sets bn) _ (Spans.up Hu6.out (by repeat (first | exact Ext.refl _ | assumption | refine Ext.alloc ?_ _ | refine Ext.drew ?_ | refine Ext.drewN ?_ _ | refine Ext.setCell ?_ (by first | (simp; done) | (simp; omega) | omega) _ | refine Ext.trans ?_ (by assumption))))) ?_
            rintro e w12 ⟨rfl, hx12⟩
            rw [(cd_ok Hso.out).1, (cd_ok Hso.out).2]
            have g7 := (hx12.cell (p := ⟨b6, o6 + bn, none⟩) hb6).trans g6
            clear g6
            have hz25 : w11.heap.size ≤ w12.heap.size := hx12.size
            clear ba0 ba1 bag
            have ba := Hba.out.ext hx12
            clear Hba
            have ba0 := ba.at0
            have ba1 := ba.at1
            have bag := ba.1
            have Hba := Lib.hid ba
            clear ba
            clear bb0 bb1 bbg
            have bb := Hbb.out.ext hx12
            clear Hbb
            have bb0 := bb.at0
            have bb1 := bb.at1
            have bbg := bb.1
            have Hbb := Lib.hid bb
            clear bb
            clear bc0 bc1 bcg
            have bc := Hbc.out.ext hx12
            clear Hbc
            have bc0 := bc.at0
            have bc1 := bc.at1
            have bcg := bc.1
            have Hbc := Lib.hid bc
            clear bc
            clear bd0 bd1 bdg
            have bd := Hbd.out.ext hx12
            clear Hbd
            have bd0 := bd.at0
            have bd1 := bd.at1
            have bdg := bd.1
            have Hbd := Lib.hid bd
            clear bd
            clear be0 be1 beg
            have be := Hbe.out.ext hx12
            clear Hbe
            have be0 := be.at0
            have be1 := be.at1
            have beg := be.1
            have Hbe := Lib.hid be
            clear be
            clear bl0 bl1 bl2 bl3 blg
            have bl := Hbl.out.ext hx12
            clear Hbl
            have bl0 := bl.at0
            have bl1 := bl.at1
            have bl2 := bl.at2
            have bl3 := bl.at3
            have blg := bl.1
            have Hbl := Lib.hid bl
            clear bl
            have hdb := daysTo_bd Hso.out (setAt n.sets bn).length (Nat.le_refl _)
            have hd0 : 0 ≤ days (setAt n.sets bn) := hdb.1
            clear hdb
            by_cases hc0 : days (setAt n.sets bn) = 0
            case pos =>
              go_wp2_with fail
              go_ret
              exact ⟨rfl, ((((((((((((((((((((((((hxN.trans hxwb2).trans hxP).trans hxQ).trans hxR).trans hxwb6).trans hxM).trans hxwb8).trans hxL).trans hxwb10).trans hxB).trans hxwb12).trans hxE).trans hxF).trans hxt1).trans hxt2).trans hxt3).trans hxr).trans hxU).trans hxV).trans hx8).trans hxwb22).trans hx10).trans hx11).trans hx12)⟩
            have hc1 : 1 ≤ days (setAt n.sets bn) := by omega
            have hc0f : (days (setAt n.sets bn) == 0) = false := by simpa using hc0
            have hb67 : b6 < w12.heap.size := by omega
            have Hu7 := Lib.hid (Spans.up Hu6.out hx12)
            have HB12 := Lib.hid ((H.out.ext ((((((((((((((((((((((((hxN.trans hxwb2).trans hxP).trans hxQ).trans hxR).trans hxwb6).trans hxM).trans hxwb8).trans hxL).trans hxwb10).trans hxB).trans hxwb12).trans hxE).trans hxF).trans hxt1).trans hxt2).trans hxt3).trans hxr).trans hxU).trans hxV).trans hx8).trans hxwb22).trans hx10).trans hx11).trans hx12) (Nat.le_refl _)))
            have HC12 := Lib.hid (Bytes.wide HB12.out ((((((((((((((((((((((((hxN.trans hxwb2).trans hxP).trans hxQ).trans hxR).trans hxwb6).trans hxM).trans hxwb8).trans hxL).trans hxwb10).trans hxB).trans hxwb12).trans hxE).trans hxF).trans hxt1).trans hxt2).trans hxt3).trans hxr).trans hxU).trans hxV).trans hx8).trans hxwb22).trans hx10).trans hx11).trans hx12).size)
            clear hc0
            go_wp2_with fail
            go_region_held3 (fun w' => Ext w12 w' ∧ w'.cell? ⟨wN.heap.size, 0, none⟩ = some (.slice (some ⟨b6, o6, none⟩) n.sets.length Ncs) ∧ w'.cell? ⟨wN.heap.size, 1, none⟩ = some (.slice (some ⟨b4, o4, none⟩) n.links.length Nck) ∧ w'.cell? ⟨b6, o6 + bn, none⟩ = some (.slice U6 (setAt n.sets bn).length u6c))
              (exact ext_keep (by repeat (first | assumption | exact (by assumption : Ext w12 _ ∧ _).1 | exact Ext.refl _ | refine Ext.drew ?_ | refine Ext.alloc ?_ _)) bag ba0 ba1 hb67 g7)
              (first
                | (go_at_call 57; refine Calls.mono (laws_roll cn _ _ _ (Bytes.up2 HC12.out (by assumption : Ext w12 _ ∧ _).1)) ?_; rintro e w13 ⟨bD, rfl, hbD, hx13, hD13⟩; have hE13 := (by assumption : Ext w12 _ ∧ _).1.trans hx13; have hbD0 := Nat.le_trans (by assumption : Ext w12 _ ∧ _).1.size hbD; have HD13 := Lib.hid hD13; clear hx13 hD13 hbD)
                | (go_at_call 58; refine Calls.mono (laws_below cn _ _ _ w12 _ (HC12.out.ext (by assumption : Ext w12 _ ∧ _).1 (Nat.le_refl _)) hbD0 (by assumption : Ext w12 _ ∧ _).1 HD13.out hc1) ?_; rintro e w14 ⟨r, rfl, hr0, hr1, hE14⟩)
                | (go_at_call 56; refine Calls.mono (impl_NthDay _ (setAt n.sets bn) r _ (Spans.up Hu7.out (by assumption : Ext w12 _ ∧ _).1) Hso.out hr0 hr1) ?_; rintro e w15 ⟨d, rfl, hd, hx15⟩; have hE15 := (by assumption : Ext w12 _ ∧ _).1.trans hx15; clear hx15))
            have hd12 := hd
            have hz26 : w12.heap.size ≤ w15.heap.size := hE15.size
            clear ba0 ba1 bag
            have ba := Hba.out.ext hE15
            clear Hba
            have ba0 := ba.at0
            have ba1 := ba.at1
            have bag := ba.1
            have Hba := Lib.hid ba
            clear ba
            clear bb0 bb1 bbg
            have bb := Hbb.out.ext hE15
            clear Hbb
            have bb0 := bb.at0
            have bb1 := bb.at1
            have bbg := bb.1
            have Hbb := Lib.hid bb
            clear bb
            clear bc0 bc1 bcg
            have bc := Hbc.out.ext hE15
            clear Hbc
            have bc0 := bc.at0
            have bc1 := bc.at1
            have bcg := bc.1
            have Hbc := Lib.hid bc
            clear bc
            clear bd0 bd1 bdg
            have bd := Hbd.out.ext hE15
            clear Hbd
            have bd0 := bd.at0
            have bd1 := bd.at1
            have bdg := bd.1
            have Hbd := Lib.hid bd
            clear bd
            clear be0 be1 beg
            have be := Hbe.out.ext hE15
            clear Hbe
            have be0 := be.at0
            have be1 := be.at1
            have beg := be.1
            have Hbe := Lib.hid be
            clear be
            clear bl0 bl1 bl2 bl3 blg
            have bl := Hbl.out.ext hE15
            clear Hbl
            have bl0 := bl.at0
            have bl1 := bl.at1
            have bl2 := bl.at2
            have bl3 := bl.at3
            have blg := bl.1
            have Hbl := Lib.hid bl
            clear bl
            obtain ⟨q1, q2, q3, q4⟩ := pd_law (o := false) (d := d) Hj.out Hok.out Hk.out Hpl.out Hlen.out (by rw [Eb.out]; exact hd)
            rw [Eb.out] at q1 q3 q4
            rw [Bool.not_false] at q3 q4
            have Q1 := Lib.hid q1
            have Q2 := Lib.hid q2
            have Q3 := Lib.hid q3
            have Q4 := Lib.hid q4
            clear q1 q2 q3 q4 hd hd12 hd0 hc1 hc0f hr0 hr1 g7
            go_wp2_with fail
            refine Calls.mono (impl_FixDay _ _ n (bn : Int) d _ (HN.out.up (((((((((((((((((((((((((hxwb2.trans hxP).trans hxQ).trans hxR).trans hxwb6).trans hxM).trans hxwb8).trans hxL).trans hxwb10).trans hxB).trans hxwb12).trans hxE).trans hxF).trans hxt1).trans hxt2).trans hxt3).trans hxr).trans hxU).trans hxV).trans hx8).trans hxwb22).trans hx10).trans hx11).trans hx12).trans hE15).trans (by repeat (first | exact Ext.refl _ | assumption | refine Ext.alloc ?_ _ | refine Ext.drew ?_ | refine Ext.drewN ?_ _ | refine Ext.setCell ?_ (by first | (simp; done) | (simp; omega) | omega) _ | refine Ext.trans ?_ (by assumption)))))) ?_
            intro e wX hp
            obtain ⟨Xs, Xcs, Xk, Xck, rfl, hxX, HX⟩ := hp.plain
            clear hp
            rw [Q1.out]
            have hz27 : w15.heap.size ≤ wX.heap.size := hxX.size
            clear ba0 ba1 bag
            have ba := Hba.out.ext hxX
            clear Hba
            have ba0 := ba.at0
            have ba1 := ba.at1
            have bag := ba.1
            have Hba := Lib.hid ba
            clear ba
            clear bb0 bb1 bbg
            have bb := Hbb.out.ext hxX
            clear Hbb
            have bb0 := bb.at0
            have bb1 := bb.at1
            have bbg := bb.1
            have Hbb := Lib.hid bb
            clear bb
            clear bc0 bc1 bcg
            have bc := Hbc.out.ext hxX
            clear Hbc
            have bc0 := bc.at0
            have bc1 := bc.at1
            have bcg := bc.1
            have Hbc := Lib.hid bc
            clear bc
            clear bd0 bd1 bdg
            have bd := Hbd.out.ext hxX
            clear Hbd
            have bd0 := bd.at0
            have bd1 := bd.at1
            have bdg := bd.1
            have Hbd := Lib.hid bd
            clear bd
            clear be0 be1 beg
            have be := Hbe.out.ext hxX
            clear Hbe
            have be0 := be.at0
            have be1 := be.at1
            have beg := be.1
            have Hbe := Lib.hid be
            clear be
            clear bl0 bl1 bl2 bl3 blg
            have bl := Hbl.out.ext hxX
            clear Hbl
            have bl0 := bl.at0
            have bl1 := bl.at1
            have bl2 := bl.at2
            have bl3 := bl.at3
            have blg := bl.1
            have Hbl := Lib.hid bl
            clear bl
            obtain ⟨wb28, hwb28⟩ : ∃ x : World, x = wX.alloc (.cells #[.slice Xs (fixV n (bn : Int) d).sets.length Xcs, .slice Xk (fixV n (bn : Int) d).links.length Xck] 27) := ⟨_, rfl⟩
            have hxwb28 : Ext wX wb28 := by rw [hwb28]; exact (by repeat (first | exact Ext.refl _ | assumption | refine Ext.alloc ?_ _ | refine Ext.drew ?_ | refine Ext.drewN ?_ _ | refine Ext.setCell ?_ (by first | (simp; done) | (simp; omega) | omega) _ | refine Ext.trans ?_ (by assumption)))
            have Hbx := Lib.hid (show Boxed wb28 wX.heap.size [.slice Xs (fixV n (bn : Int) d).sets.length Xcs, .slice Xk (fixV n (bn : Int) d).links.length Xck] from by rw [hwb28]; exact Boxed.new wX [.slice Xs (fixV n (bn : Int) d).sets.length Xcs, .slice Xk (fixV n (bn : Int) d).links.length Xck] 27)
            go_wp2_with fail
            rw [← hwb28]
            clear hwb28
            have hz28 : wX.heap.size ≤ wb28.heap.size := hxwb28.size
            clear ba0 ba1 bag
            have ba := Hba.out.ext hxwb28
            clear Hba
            have ba0 := ba.at0
            have ba1 := ba.at1
            have bag := ba.1
            have Hba := Lib.hid ba
            clear ba
            clear bb0 bb1 bbg
            have bb := Hbb.out.ext hxwb28
            clear Hbb
            have bb0 := bb.at0
            have bb1 := bb.at1
            have bbg := bb.1
            have Hbb := Lib.hid bb
            clear bb
            clear bc0 bc1 bcg
            have bc := Hbc.out.ext hxwb28
            clear Hbc
            have bc0 := bc.at0
            have bc1 := bc.at1
            have bcg := bc.1
            have Hbc := Lib.hid bc
            clear bc
            clear bd0 bd1 bdg
            have bd := Hbd.out.ext hxwb28
            clear Hbd
            have bd0 := bd.at0
            have bd1 := bd.at1
            have bdg := bd.1
            have Hbd := Lib.hid bd
            clear bd
            clear be0 be1 beg
            have be := Hbe.out.ext hxwb28
            clear Hbe
            have be0 := be.at0
            have be1 := be.at1
            have beg := be.1
            have Hbe := Lib.hid be
            clear be
            clear bl0 bl1 bl2 bl3 blg
            have bl := Hbl.out.ext hxwb28
            clear Hbl
            have bl0 := bl.at0
            have bl1 := bl.at1
            have bl2 := bl.at2
            have bl3 := bl.at3
            have blg := bl.1
            have Hbl := Lib.hid bl
            clear bl
            have bx0 := Hbx.out.at0
            have bx1 := Hbx.out.at1
            have bxg := Hbx.out.1
            refine Calls.mono (impl_HasDay _ (pdL n (j : Int) false) d _ (Spans.up IP.out (((((((((((((((((((((((((hxQ.trans hxR).trans hxwb6).trans hxM).trans hxwb8).trans hxL).trans hxwb10).trans hxB).trans hxwb12).trans hxE).trans hxF).trans hxt1).trans hxt2).trans hxt3).trans hxr).trans hxU).trans hxV).trans hx8).trans hxwb22).trans hx10).trans hx11).trans hx12).trans hE15).trans hxX).trans hxwb28).trans (by repeat (first | exact Ext.refl _ | assumption | refine Ext.alloc ?_ _ | refine Ext.drew ?_ | refine Ext.drewN ?_ _ | refine Ext.setCell ?_ (by first | (simp; done) | (simp; omega) | omega) _ | refine Ext.trans ?_ (by assumption)))))) ?_
            rintro e wY ⟨rfl, hxY⟩
            rw [Q2.out, Q4.out]
            have hz29 : wb28.heap.size ≤ wY.heap.size := hxY.size
            clear ba0 ba1 bag
            have ba := Hba.out.ext hxY
            clear Hba
            have ba0 := ba.at0
            have ba1 := ba.at1
            have bag := ba.1
            have Hba := Lib.hid ba
            clear ba
            clear bb0 bb1 bbg
            have bb := Hbb.out.ext hxY
            clear Hbb
            have bb0 := bb.at0
            have bb1 := bb.at1
            have bbg := bb.1
            have Hbb := Lib.hid bb
            clear bb
            clear bc0 bc1 bcg
            have bc := Hbc.out.ext hxY
            clear Hbc
            have bc0 := bc.at0
            have bc1 := bc.at1
            have bcg := bc.1
            have Hbc := Lib.hid bc
            clear bc
            clear bd0 bd1 bdg
            have bd := Hbd.out.ext hxY
            clear Hbd
            have bd0 := bd.at0
            have bd1 := bd.at1
            have bdg := bd.1
            have Hbd := Lib.hid bd
            clear bd
            clear be0 be1 beg
            have be := Hbe.out.ext hxY
            clear Hbe
            have be0 := be.at0
            have be1 := be.at1
            have beg := be.1
            have Hbe := Lib.hid be
            clear be
            clear bl0 bl1 bl2 bl3 blg
            have bl := Hbl.out.ext hxY
            clear Hbl
            have bl0 := bl.at0
            have bl1 := bl.at1
            have bl2 := bl.at2
            have bl3 := bl.at3
            have blg := bl.1
            have Hbl := Lib.hid bl
            clear bl
            clear bx0 bx1 bxg
            have bx := Hbx.out.ext hxY
            clear Hbx
            have bx0 := bx.at0
            have bx1 := bx.at1
            have bxg := bx.1
            have Hbx := Lib.hid bx
            clear bx
            go_wp2_with fail
            refine Calls.mono (impl_PartnerDays _ _ (fixV n (bn : Int) d) (j : Int) true _ (HX.out.up ((hxwb28.trans hxY).trans (by repeat (first | exact Ext.refl _ | assumption | refine Ext.alloc ?_ _ | refine Ext.drew ?_ | refine Ext.drewN ?_ _ | refine Ext.setCell ?_ (by first | (simp; done) | (simp; omega) | omega) _ | refine Ext.trans ?_ (by assumption)))))) ?_
            intro e wZ hp
            obtain ⟨Za, Zc, rfl, hxZ, IZ⟩ := hp.plain
            clear hp
            have hz30 : wY.heap.size ≤ wZ.heap.size := hxZ.size
            clear ba0 ba1 bag
            have ba := Hba.out.ext hxZ
            clear Hba
            have ba0 := ba.at0
            have ba1 := ba.at1
            have bag := ba.1
            have Hba := Lib.hid ba
            clear ba
            clear bb0 bb1 bbg
            have bb := Hbb.out.ext hxZ
            clear Hbb
            have bb0 := bb.at0
            have bb1 := bb.at1
            have bbg := bb.1
            have Hbb := Lib.hid bb
            clear bb
            clear bc0 bc1 bcg
            have bc := Hbc.out.ext hxZ
            clear Hbc
            have bc0 := bc.at0
            have bc1 := bc.at1
            have bcg := bc.1
            have Hbc := Lib.hid bc
            clear bc
            clear bd0 bd1 bdg
            have bd := Hbd.out.ext hxZ
            clear Hbd
            have bd0 := bd.at0
            have bd1 := bd.at1
            have bdg := bd.1
            have Hbd := Lib.hid bd
            clear bd
            clear be0 be1 beg
            have be := Hbe.out.ext hxZ
            clear Hbe
            have be0 := be.at0
            have be1 := be.at1
            have beg := be.1
            have Hbe := Lib.hid be
            clear be
            clear bl0 bl1 bl2 bl3 blg
            have bl := Hbl.out.ext hxZ
            clear Hbl
            have bl0 := bl.at0
            have bl1 := bl.at1
            have bl2 := bl.at2
            have bl3 := bl.at3
            have blg := bl.1
            have Hbl := Lib.hid bl
            clear bl
            clear bx0 bx1 bxg
            have bx := Hbx.out.ext hxZ
            clear Hbx
            have bx0 := bx.at0
            have bx1 := bx.at1
            have bxg := bx.1
            have Hbx := Lib.hid bx
            clear bx
            rw [Q3.out]
            have hbaf : ((an : Int) == (bn : Int)) = false := by simpa using hba
            have habf : ((bn : Int) == (an : Int)) = false := by simpa using hab
            have hban : ((an : Int) != (bn : Int)) = true := by simpa using hba
            have habn : ((bn : Int) != (an : Int)) = true := by simpa using hab
            go_wp2_with fail
            go_ret
            exact ⟨rfl, (((((((((((((((((((((((((((((hxN.trans hxwb2).trans hxP).trans hxQ).trans hxR).trans hxwb6).trans hxM).trans hxwb8).trans hxL).trans hxwb10).trans hxB).trans hxwb12).trans hxE).trans hxF).trans hxt1).trans hxt2).trans hxt3).trans hxr).trans hxU).trans hxV).trans hx8).trans hxwb22).trans hx10).trans hx11).trans hx12).trans hE15).trans hxX).trans hxwb28).trans hxY).trans hxZ)⟩
          case true =>
            obtain ⟨wb22, hwb22⟩ : ∃ x : World, x = w8.alloc (.cells #[.int .i64 (bn : Int), .int .i64 (an : Int), .int .i64 (lkAt n.links j).le, .int .i64 (lkAt n.links j).mo] 60) := ⟨_, rfl⟩
            have hxwb22 : Ext w8 wb22 := by rw [hwb22]; exact (by repeat (first | exact Ext.refl _ | assumption | refine Ext.alloc ?_ _ | refine Ext.drew ?_ | refine Ext.drewN ?_ _ | refine Ext.setCell ?_ (by first | (simp; done) | (simp; omega) | omega) _ | refine Ext.trans ?_ (by assumption)))
            have Hbl := Lib.hid (show Boxed wb22 w8.heap.size [.int .i64 (bn : Int), .int .i64 (an : Int), .int .i64 (lkAt n.links j).le, .int .i64 (lkAt n.links j).mo] from by rw [hwb22]; exact Boxed.new w8 [.int .i64 (bn : Int), .int .i64 (an : Int), .int .i64 (lkAt n.links j).le, .int .i64 (lkAt n.links j).mo] 60)
            go_wp2_with fail
            rw [← hwb22]
            clear hwb22
            have hz22 : w8.heap.size ≤ wb22.heap.size := hxwb22.size
            clear ba0 ba1 bag
            have ba := Hba.out.ext hxwb22
            clear Hba
            have ba0 := ba.at0
            have ba1 := ba.at1
            have bag := ba.1
            have Hba := Lib.hid ba
            clear ba
            clear bb0 bb1 bbg
            have bb := Hbb.out.ext hxwb22
            clear Hbb
            have bb0 := bb.at0
            have bb1 := bb.at1
            have bbg := bb.1
            have Hbb := Lib.hid bb
            clear bb
            clear bc0 bc1 bcg
            have bc := Hbc.out.ext hxwb22
            clear Hbc
            have bc0 := bc.at0
            have bc1 := bc.at1
            have bcg := bc.1
            have Hbc := Lib.hid bc
            clear bc
            clear bd0 bd1 bdg
            have bd := Hbd.out.ext hxwb22
            clear Hbd
            have bd0 := bd.at0
            have bd1 := bd.at1
            have bdg := bd.1
            have Hbd := Lib.hid bd
            clear bd
            clear be0 be1 beg
            have be := Hbe.out.ext hxwb22
            clear Hbe
            have be0 := be.at0
            have be1 := be.at1
            have beg := be.1
            have Hbe := Lib.hid be
            clear be
            have bl0 := Hbl.out.at0
            have bl1 := Hbl.out.at1
            have bl2 := Hbl.out.at2
            have bl3 := Hbl.out.at3
            have blg := Hbl.out.1
            (refine wp_region_onto prog_mixed (by kernel_rfl) ?_; (repeat (go_big_quiet_step ((fail)))); refine onto_end ?_; intro w10 hx10)
            have hz23 : wb22.heap.size ≤ w10.heap.size := hx10.size
            clear ba0 ba1 bag
            have ba := Hba.out.ext hx10
            clear Hba
            have ba0 := ba.at0
            have ba1 := ba.at1
            have bag := ba.1
            have Hba := Lib.hid ba
            clear ba
            clear bb0 bb1 bbg
            have bb := Hbb.out.ext hx10
            clear Hbb
            have bb0 := bb.at0
            have bb1 := bb.at1
            have bbg := bb.1
            have Hbb := Lib.hid bb
            clear bb
            clear bc0 bc1 bcg
            have bc := Hbc.out.ext hx10
            clear Hbc
            have bc0 := bc.at0
            have bc1 := bc.at1
            have bcg := bc.1
            have Hbc := Lib.hid bc
            clear bc
            clear bd0 bd1 bdg
            have bd := Hbd.out.ext hx10
            clear Hbd
            have bd0 := bd.at0
            have bd1 := bd.at1
            have bdg := bd.1
            have Hbd := Lib.hid bd
            clear bd
            clear be0 be1 beg
            have be := Hbe.out.ext hx10
            clear Hbe
            have be0 := be.at0
            have be1 := be.at1
            have beg := be.1
            have Hbe := Lib.hid be
            clear be
            clear bl0 bl1 bl2 bl3 blg
            have bl := Hbl.out.ext hx10
            clear Hbl
            have bl0 := bl.at0
            have bl1 := bl.at1
            have bl2 := bl.at2
            have bl3 := bl.at3
            have blg := bl.1
            have Hbl := Lib.hid bl
            clear bl
            obtain ⟨b6, o6, u6, eS, _, hb6, g6, hu6⟩ := (HN.out.up (((((((((((((((((((((hxwb2.trans hxP).trans hxQ).trans hxR).trans hxwb6).trans hxM).trans hxwb8).trans hxL).trans hxwb10).trans hxB).trans hxwb12).trans hxE).trans hxF).trans hxt1).trans hxt2).trans hxt3).trans hxr).trans hxU).trans hxV).trans hx8).trans hxwb22).trans hx10)).1.at_ (i := an) (by omega)
            subst eS
            obtain ⟨U6, u6c, rfl, _⟩ := hu6.len
            have Hu6 := Lib.hid hu6
            clear hu6
            have hb6' : b6 < w10.heap.size := hb6
            have i6 : (0 : Int) ≤ (an : Int) := by omega
            have i7 : (an : Int) < (n.sets.length : Int) := by omega
            have hso := Hok.out.2.2.1 an (by omega)
            have Hso := Lib.hid hso
            clear hso
            go_wp2_with fail
            refine Calls.mono (impl_CountDays _ (setAt n.sets an) _ (Spans.up Hu6.out (by repeat (first | exact Ext.refl _ | assumption | refine Ext.alloc ?_ _ | refine Ext.drew ?_ | refine Ext.drewN ?_ _ | refine Ext.setCell ?_ (by first | (simp; done) | (simp; omega) | omega) _ | refine Ext.trans ?_ (by assumption))))) ?_
            rintro e w12 ⟨rfl, hx12⟩
            rw [(cd_ok Hso.out).1, (cd_ok Hso.out).2]
            have g7 := (hx12.cell (p := ⟨b6, o6 + an, none⟩) hb6).trans g6
            clear g6
            have hz24 : w10.heap.size ≤ w12.heap.size := hx12.size
            clear ba0 ba1 bag
            have ba := Hba.out.ext hx12
            clear Hba
            have ba0 := ba.at0
            have ba1 := ba.at1
            have bag := ba.1
            have Hba := Lib.hid ba
            clear ba
            clear bb0 bb1 bbg
            have bb := Hbb.out.ext hx12
            clear Hbb
            have bb0 := bb.at0
            have bb1 := bb.at1
            have bbg := bb.1
            have Hbb := Lib.hid bb
            clear bb
            clear bc0 bc1 bcg
            have bc := Hbc.out.ext hx12
            clear Hbc
            have bc0 := bc.at0
            have bc1 := bc.at1
            have bcg := bc.1
            have Hbc := Lib.hid bc
            clear bc
            clear bd0 bd1 bdg
            have bd := Hbd.out.ext hx12
            clear Hbd
            have bd0 := bd.at0
            have bd1 := bd.at1
            have bdg := bd.1
            have Hbd := Lib.hid bd
            clear bd
            clear be0 be1 beg
            have be := Hbe.out.ext hx12
            clear Hbe
            have be0 := be.at0
            have be1 := be.at1
            have beg := be.1
            have Hbe := Lib.hid be
            clear be
            clear bl0 bl1 bl2 bl3 blg
            have bl := Hbl.out.ext hx12
            clear Hbl
            have bl0 := bl.at0
            have bl1 := bl.at1
            have bl2 := bl.at2
            have bl3 := bl.at3
            have blg := bl.1
            have Hbl := Lib.hid bl
            clear bl
            have hdb := daysTo_bd Hso.out (setAt n.sets an).length (Nat.le_refl _)
            have hd0 : 0 ≤ days (setAt n.sets an) := hdb.1
            clear hdb
            by_cases hc0 : days (setAt n.sets an) = 0
            case pos =>
              go_wp2_with fail
              go_ret
              exact ⟨rfl, (((((((((((((((((((((((hxN.trans hxwb2).trans hxP).trans hxQ).trans hxR).trans hxwb6).trans hxM).trans hxwb8).trans hxL).trans hxwb10).trans hxB).trans hxwb12).trans hxE).trans hxF).trans hxt1).trans hxt2).trans hxt3).trans hxr).trans hxU).trans hxV).trans hx8).trans hxwb22).trans hx10).trans hx12)⟩
            have hc1 : 1 ≤ days (setAt n.sets an) := by omega
            have hc0f : (days (setAt n.sets an) == 0) = false := by simpa using hc0
            have hb67 : b6 < w12.heap.size := by omega
            have Hu7 := Lib.hid (Spans.up Hu6.out hx12)
            have HB12 := Lib.hid ((H.out.ext (((((((((((((((((((((((hxN.trans hxwb2).trans hxP).trans hxQ).trans hxR).trans hxwb6).trans hxM).trans hxwb8).trans hxL).trans hxwb10).trans hxB).trans hxwb12).trans hxE).trans hxF).trans hxt1).trans hxt2).trans hxt3).trans hxr).trans hxU).trans hxV).trans hx8).trans hxwb22).trans hx10).trans hx12) (Nat.le_refl _)))
            have HC12 := Lib.hid (Bytes.wide HB12.out (((((((((((((((((((((((hxN.trans hxwb2).trans hxP).trans hxQ).trans hxR).trans hxwb6).trans hxM).trans hxwb8).trans hxL).trans hxwb10).trans hxB).trans hxwb12).trans hxE).trans hxF).trans hxt1).trans hxt2).trans hxt3).trans hxr).trans hxU).trans hxV).trans hx8).trans hxwb22).trans hx10).trans hx12).size)
            clear hc0
            go_wp2_with fail
            go_region_held3 (fun w' => Ext w12 w' ∧ w'.cell? ⟨wN.heap.size, 0, none⟩ = some (.slice (some ⟨b6, o6, none⟩) n.sets.length Ncs) ∧ w'.cell? ⟨wN.heap.size, 1, none⟩ = some (.slice (some ⟨b4, o4, none⟩) n.links.length Nck) ∧ w'.cell? ⟨b6, o6 + an, none⟩ = some (.slice U6 (setAt n.sets an).length u6c))
              (exact ext_keep (by repeat (first | assumption | exact (by assumption : Ext w12 _ ∧ _).1 | exact Ext.refl _ | refine Ext.drew ?_ | refine Ext.alloc ?_ _)) bag ba0 ba1 hb67 g7)
              (first
                | (go_at_call 57; refine Calls.mono (laws_roll cn _ _ _ (Bytes.up2 HC12.out (by assumption : Ext w12 _ ∧ _).1)) ?_; rintro e w13 ⟨bD, rfl, hbD, hx13, hD13⟩; have hE13 := (by assumption : Ext w12 _ ∧ _).1.trans hx13; have hbD0 := Nat.le_trans (by assumption : Ext w12 _ ∧ _).1.size hbD; have HD13 := Lib.hid hD13; clear hx13 hD13 hbD)
                | (go_at_call 58; refine Calls.mono (laws_below cn _ _ _ w12 _ (HC12.out.ext (by assumption : Ext w12 _ ∧ _).1 (Nat.le_refl _)) hbD0 (by assumption : Ext w12 _ ∧ _).1 HD13.out hc1) ?_; rintro e w14 ⟨r, rfl, hr0, hr1, hE14⟩)
                | (go_at_call 56; refine Calls.mono (impl_NthDay _ (setAt n.sets an) r _ (Spans.up Hu7.out (by assumption : Ext w12 _ ∧ _).1) Hso.out hr0 hr1) ?_; rintro e w15 ⟨d, rfl, hd, hx15⟩; have hE15 := (by assumption : Ext w12 _ ∧ _).1.trans hx15; clear hx15))
            have hd12 := hd
            have hz25 : w12.heap.size ≤ w15.heap.size := hE15.size
            clear ba0 ba1 bag
            have ba := Hba.out.ext hE15
            clear Hba
            have ba0 := ba.at0
            have ba1 := ba.at1
            have bag := ba.1
            have Hba := Lib.hid ba
            clear ba
            clear bb0 bb1 bbg
            have bb := Hbb.out.ext hE15
            clear Hbb
            have bb0 := bb.at0
            have bb1 := bb.at1
            have bbg := bb.1
            have Hbb := Lib.hid bb
            clear bb
            clear bc0 bc1 bcg
            have bc := Hbc.out.ext hE15
            clear Hbc
            have bc0 := bc.at0
            have bc1 := bc.at1
            have bcg := bc.1
            have Hbc := Lib.hid bc
            clear bc
            clear bd0 bd1 bdg
            have bd := Hbd.out.ext hE15
            clear Hbd
            have bd0 := bd.at0
            have bd1 := bd.at1
            have bdg := bd.1
            have Hbd := Lib.hid bd
            clear bd
            clear be0 be1 beg
            have be := Hbe.out.ext hE15
            clear Hbe
            have be0 := be.at0
            have be1 := be.at1
            have beg := be.1
            have Hbe := Lib.hid be
            clear be
            clear bl0 bl1 bl2 bl3 blg
            have bl := Hbl.out.ext hE15
            clear Hbl
            have bl0 := bl.at0
            have bl1 := bl.at1
            have bl2 := bl.at2
            have bl3 := bl.at3
            have blg := bl.1
            have Hbl := Lib.hid bl
            clear bl
            obtain ⟨q1, q2, q3, q4⟩ := pd_law (o := true) (d := d) Hj.out Hok.out Hk.out Hpl.out Hlen.out (by rw [Ea.out]; exact hd)
            rw [Ea.out] at q1 q3 q4
            rw [Bool.not_true] at q3 q4
            have Q1 := Lib.hid q1
            have Q2 := Lib.hid q2
            have Q3 := Lib.hid q3
            have Q4 := Lib.hid q4
            clear q1 q2 q3 q4 hd hd12 hd0 hc1 hc0f hr0 hr1 g7
            go_wp2_with fail
            refine Calls.mono (impl_FixDay _ _ n (an : Int) d _ (HN.out.up ((((((((((((((((((((((((hxwb2.trans hxP).trans hxQ).trans hxR).trans hxwb6).trans hxM).trans hxwb8).trans hxL).trans hxwb10).trans hxB).trans hxwb12).trans hxE).trans hxF).trans hxt1).trans hxt2).trans hxt3).trans hxr).trans hxU).trans hxV).trans hx8).trans hxwb22).trans hx10).trans hx12).trans hE15).trans (by repeat (first | exact Ext.refl _ | assumption | refine Ext.alloc ?_ _ | refine Ext.drew ?_ | refine Ext.drewN ?_ _ | refine Ext.setCell ?_ (by first | (simp; done) | (simp; omega) | omega) _ | refine Ext.trans ?_ (by assumption)))))) ?_
            intro e wX hp
            obtain ⟨Xs, Xcs, Xk, Xck, rfl, hxX, HX⟩ := hp.plain
            clear hp
            rw [Q1.out]
            have hz26 : w15.heap.size ≤ wX.heap.size := hxX.size
            clear ba0 ba1 bag
            have ba := Hba.out.ext hxX
            clear Hba
            have ba0 := ba.at0
            have ba1 := ba.at1
            have bag := ba.1
            have Hba := Lib.hid ba
            clear ba
            clear bb0 bb1 bbg
            have bb := Hbb.out.ext hxX
            clear Hbb
            have bb0 := bb.at0
            have bb1 := bb.at1
            have bbg := bb.1
            have Hbb := Lib.hid bb
            clear bb
            clear bc0 bc1 bcg
            have bc := Hbc.out.ext hxX
            clear Hbc
            have bc0 := bc.at0
            have bc1 := bc.at1
            have bcg := bc.1
            have Hbc := Lib.hid bc
            clear bc
            clear bd0 bd1 bdg
            have bd := Hbd.out.ext hxX
            clear Hbd
            have bd0 := bd.at0
            have bd1 := bd.at1
            have bdg := bd.1
            have Hbd := Lib.hid bd
            clear bd
            clear be0 be1 beg
            have be := Hbe.out.ext hxX
            clear Hbe
            have be0 := be.at0
            have be1 := be.at1
            have beg := be.1
            have Hbe := Lib.hid be
            clear be
            clear bl0 bl1 bl2 bl3 blg
            have bl := Hbl.out.ext hxX
            clear Hbl
            have bl0 := bl.at0
            have bl1 := bl.at1
            have bl2 := bl.at2
            have bl3 := bl.at3
            have blg := bl.1
            have Hbl := Lib.hid bl
            clear bl
            obtain ⟨wb27, hwb27⟩ : ∃ x : World, x = wX.alloc (.cells #[.slice Xs (fixV n (an : Int) d).sets.length Xcs, .slice Xk (fixV n (an : Int) d).links.length Xck] 27) := ⟨_, rfl⟩
            have hxwb27 : Ext wX wb27 := by rw [hwb27]; exact (by repeat (first | exact Ext.refl _ | assumption | refine Ext.alloc ?_ _ | refine Ext.drew ?_ | refine Ext.drewN ?_ _ | refine Ext.setCell ?_ (by first | (simp; done) | (simp; omega) | omega) _ | refine Ext.trans ?_ (by assumption)))
            have Hbx := Lib.hid (show Boxed wb27 wX.heap.size [.slice Xs (fixV n (an : Int) d).sets.length Xcs, .slice Xk (fixV n (an : Int) d).links.length Xck] from by rw [hwb27]; exact Boxed.new wX [.slice Xs (fixV n (an : Int) d).sets.length Xcs, .slice Xk (fixV n (an : Int) d).links.length Xck] 27)
            go_wp2_with fail
            rw [← hwb27]
            clear hwb27
            have hz27 : wX.heap.size ≤ wb27.heap.size := hxwb27.size
            clear ba0 ba1 bag
            have ba := Hba.out.ext hxwb27
            clear Hba
            have ba0 := ba.at0
            have ba1 := ba.at1
            have bag := ba.1
            have Hba := Lib.hid ba
            clear ba
            clear bb0 bb1 bbg
            have bb := Hbb.out.ext hxwb27
            clear Hbb
            have bb0 := bb.at0
            have bb1 := bb.at1
            have bbg := bb.1
            have Hbb := Lib.hid bb
            clear bb
            clear bc0 bc1 bcg
            have bc := Hbc.out.ext hxwb27
            clear Hbc
            have bc0 := bc.at0
            have bc1 := bc.at1
            have bcg := bc.1
            have Hbc := Lib.hid bc
            clear bc
            clear bd0 bd1 bdg
            have bd := Hbd.out.ext hxwb27
            clear Hbd
            have bd0 := bd.at0
            have bd1 := bd.at1
            have bdg := bd.1
            have Hbd := Lib.hid bd
            clear bd
            clear be0 be1 beg
            have be := Hbe.out.ext hxwb27
            clear Hbe
            have be0 := be.at0
            have be1 := be.at1
            have beg := be.1
            have Hbe := Lib.hid be
            clear be
            clear bl0 bl1 bl2 bl3 blg
            have bl := Hbl.out.ext hxwb27
            clear Hbl
            have bl0 := bl.at0
            have bl1 := bl.at1
            have bl2 := bl.at2
            have bl3 := bl.at3
            have blg := bl.1
            have Hbl := Lib.hid bl
            clear bl
            have bx0 := Hbx.out.at0
            have bx1 := Hbx.out.at1
            have bxg := Hbx.out.1
            refine Calls.mono (impl_HasDay _ (pdL n (j : Int) true) d _ (Spans.up IP.out ((((((((((((((((((((((((hxQ.trans hxR).trans hxwb6).trans hxM).trans hxwb8).trans hxL).trans hxwb10).trans hxB).trans hxwb12).trans hxE).trans hxF).trans hxt1).trans hxt2).trans hxt3).trans hxr).trans hxU).trans hxV).trans hx8).trans hxwb22).trans hx10).trans hx12).trans hE15).trans hxX).trans hxwb27).trans (by repeat (first | exact Ext.refl _ | assumption | refine Ext.alloc ?_ _ | refine Ext.drew ?_ | refine Ext.drewN ?_ _ | refine Ext.setCell ?_ (by first | (simp; done) | (simp; omega) | omega) _ | refine Ext.trans ?_ (by assumption)))))) ?_
            rintro e wY ⟨rfl, hxY⟩
            rw [Q2.out, Q4.out]
            have hz28 : wb27.heap.size ≤ wY.heap.size := hxY.size
            clear ba0 ba1 bag
            have ba := Hba.out.ext hxY
            clear Hba
            have ba0 := ba.at0
            have ba1 := ba.at1
            have bag := ba.1
            have Hba := Lib.hid ba
            clear ba
            clear bb0 bb1 bbg
            have bb := Hbb.out.ext hxY
            clear Hbb
            have bb0 := bb.at0
            have bb1 := bb.at1
            have bbg := bb.1
            have Hbb := Lib.hid bb
            clear bb
            clear bc0 bc1 bcg
            have bc := Hbc.out.ext hxY
            clear Hbc
            have bc0 := bc.at0
            have bc1 := bc.at1
            have bcg := bc.1
            have Hbc := Lib.hid bc
            clear bc
            clear bd0 bd1 bdg
            have bd := Hbd.out.ext hxY
            clear Hbd
            have bd0 := bd.at0
            have bd1 := bd.at1
            have bdg := bd.1
            have Hbd := Lib.hid bd
            clear bd
            clear be0 be1 beg
            have be := Hbe.out.ext hxY
            clear Hbe
            have be0 := be.at0
            have be1 := be.at1
            have beg := be.1
            have Hbe := Lib.hid be
            clear be
            clear bl0 bl1 bl2 bl3 blg
            have bl := Hbl.out.ext hxY
            clear Hbl
            have bl0 := bl.at0
            have bl1 := bl.at1
            have bl2 := bl.at2
            have bl3 := bl.at3
            have blg := bl.1
            have Hbl := Lib.hid bl
            clear bl
            clear bx0 bx1 bxg
            have bx := Hbx.out.ext hxY
            clear Hbx
            have bx0 := bx.at0
            have bx1 := bx.at1
            have bxg := bx.1
            have Hbx := Lib.hid bx
            clear bx
            go_wp2_with fail
            refine Calls.mono (impl_PartnerDays _ _ (fixV n (an : Int) d) (j : Int) false _ (HX.out.up ((hxwb27.trans hxY).trans (by repeat (first | exact Ext.refl _ | assumption | refine Ext.alloc ?_ _ | refine Ext.drew ?_ | refine Ext.drewN ?_ _ | refine Ext.setCell ?_ (by first | (simp; done) | (simp; omega) | omega) _ | refine Ext.trans ?_ (by assumption)))))) ?_
            intro e wZ hp
            obtain ⟨Za, Zc, rfl, hxZ, IZ⟩ := hp.plain
            clear hp
            have hz29 : wY.heap.size ≤ wZ.heap.size := hxZ.size
            clear ba0 ba1 bag
            have ba := Hba.out.ext hxZ
            clear Hba
            have ba0 := ba.at0
            have ba1 := ba.at1
            have bag := ba.1
            have Hba := Lib.hid ba
            clear ba
            clear bb0 bb1 bbg
            have bb := Hbb.out.ext hxZ
            clear Hbb
            have bb0 := bb.at0
            have bb1 := bb.at1
            have bbg := bb.1
            have Hbb := Lib.hid bb
            clear bb
            clear bc0 bc1 bcg
            have bc := Hbc.out.ext hxZ
            clear Hbc
            have bc0 := bc.at0
            have bc1 := bc.at1
            have bcg := bc.1
            have Hbc := Lib.hid bc
            clear bc
            clear bd0 bd1 bdg
            have bd := Hbd.out.ext hxZ
            clear Hbd
            have bd0 := bd.at0
            have bd1 := bd.at1
            have bdg := bd.1
            have Hbd := Lib.hid bd
            clear bd
            clear be0 be1 beg
            have be := Hbe.out.ext hxZ
            clear Hbe
            have be0 := be.at0
            have be1 := be.at1
            have beg := be.1
            have Hbe := Lib.hid be
            clear be
            clear bl0 bl1 bl2 bl3 blg
            have bl := Hbl.out.ext hxZ
            clear Hbl
            have bl0 := bl.at0
            have bl1 := bl.at1
            have bl2 := bl.at2
            have bl3 := bl.at3
            have blg := bl.1
            have Hbl := Lib.hid bl
            clear bl
            clear bx0 bx1 bxg
            have bx := Hbx.out.ext hxZ
            clear Hbx
            have bx0 := bx.at0
            have bx1 := bx.at1
            have bxg := bx.1
            have Hbx := Lib.hid bx
            clear bx
            rw [Q3.out]
            have hbaf : ((an : Int) == (bn : Int)) = false := by simpa using hba
            have habf : ((bn : Int) == (an : Int)) = false := by simpa using hab
            have hban : ((an : Int) != (bn : Int)) = true := by simpa using hba
            have habn : ((bn : Int) != (an : Int)) = true := by simpa using hab
            go_wp2_with fail
            go_ret
            exact ⟨rfl, ((((((((((((((((((((((((((((hxN.trans hxwb2).trans hxP).trans hxQ).trans hxR).trans hxwb6).trans hxM).trans hxwb8).trans hxL).trans hxwb10).trans hxB).trans hxwb12).trans hxE).trans hxF).trans hxt1).trans hxt2).trans hxt3).trans hxr).trans hxU).trans hxV).trans hx8).trans hxwb22).trans hx10).trans hx12).trans hE15).trans hxX).trans hxwb27).trans hxY).trans hxZ)⟩
        · have h1f : (nlE a k == 0) = false := by simpa using h1
          by_cases h2 : pdE n lk o = 0
          case neg =>
            have h2f : (pdE n lk o == 0) = false := by simpa using h2
            go_wp2_with fail
            go_ret
            exact ⟨rfl, ((((((((((((((((((hxN.trans hxwb2).trans hxP).trans hxQ).trans hxR).trans hxwb6).trans hxM).trans hxwb8).trans hxL).trans hxwb10).trans hxB).trans hxwb12).trans hxE).trans hxF).trans hxt1).trans hxt2).trans hxt3).trans hxr).trans (by repeat (first | exact Ext.refl _ | assumption | refine Ext.alloc ?_ _ | refine Ext.drew ?_ | refine Ext.drewN ?_ _ | refine Ext.setCell ?_ (by first | (simp; done) | (simp; omega) | omega) _ | refine Ext.trans ?_ (by assumption))))⟩
          obtain ⟨j, rfl, hj, hok, hk, hpl, hlen⟩ := pd_in h2
          obtain ⟨b4, o4, eN, _, hb4, d0, d1, d2, d3⟩ := (HN.out.up (((((((((((((((((hxwb2.trans hxP).trans hxQ).trans hxR).trans hxwb6).trans hxM).trans hxwb8).trans hxL).trans hxwb10).trans hxB).trans hxwb12).trans hxE).trans hxF).trans hxt1).trans hxt2).trans hxt3).trans hxr).trans (by repeat (first | exact Ext.refl _ | assumption | refine Ext.alloc ?_ _ | refine Ext.drew ?_ | refine Ext.drewN ?_ _ | refine Ext.setCell ?_ (by first | (simp; done) | (simp; omega) | omega) _ | refine Ext.trans ?_ (by assumption))))).2.at_ hj
          subst eN
          have hj0 : (0 : Int) ≤ (j : Int) := by omega
          have hj1 : (j : Int) < (n.links.length : Int) := by omega
          have Hok := Lib.hid hok
          have Hk := Lib.hid hk
          have Hpl := Lib.hid hpl
          have Hlen := Lib.hid hlen
          have Hj := Lib.hid hj
          clear hok hk hpl hlen hj
          have hbe0 : 0 ≤ (lkAt n.links j).be := Hk.out.1.1
          have haf0 : 0 ≤ (lkAt n.links j).af := Hk.out.2.1.1
          have hltN := Hk.out.lt
          have hne := Hk.out.2.2.1
          obtain ⟨bn, hbn⟩ := Int.eq_ofNat_of_zero_le hbe0
          obtain ⟨an, han⟩ := Int.eq_ofNat_of_zero_le haf0
          rw [hbn] at d0 hne hltN
          rw [han] at d1 hne hltN
          rw [Int.toNat_natCast, Int.toNat_natCast] at hltN
          have hba : ¬ (an : Int) = (bn : Int) := fun hh => hne (by omega)
          have hab : ¬ (bn : Int) = (an : Int) := hne
          have eb : ownI false (lkAt n.links j) = bn := by unfold ownI; simp [hbn]
          have ea : ownI true (lkAt n.links j) = an := by unfold ownI; simp [han]
          have Eb := Lib.hid eb
          have Ea := Lib.hid ea
          clear hbn han hbe0 haf0 eb ea hne
          obtain ⟨hal, hbl⟩ := hltN
          cases o
          case false =>
            obtain ⟨wb19, hwb19⟩ : ∃ x : World, x = wr.alloc (.cells #[.int .i64 (bn : Int), .int .i64 (an : Int), .int .i64 (lkAt n.links j).le, .int .i64 (lkAt n.links j).mo] 60) := ⟨_, rfl⟩
            have hxwb19 : Ext wr wb19 := by rw [hwb19]; exact (by repeat (first | exact Ext.refl _ | assumption | refine Ext.alloc ?_ _ | refine Ext.drew ?_ | refine Ext.drewN ?_ _ | refine Ext.setCell ?_ (by first | (simp; done) | (simp; omega) | omega) _ | refine Ext.trans ?_ (by assumption)))
            have Hbl := Lib.hid (show Boxed wb19 wr.heap.size [.int .i64 (bn : Int), .int .i64 (an : Int), .int .i64 (lkAt n.links j).le, .int .i64 (lkAt n.links j).mo] from by rw [hwb19]; exact Boxed.new wr [.int .i64 (bn : Int), .int .i64 (an : Int), .int .i64 (lkAt n.links j).le, .int .i64 (lkAt n.links j).mo] 60)
            go_wp2_with fail
            rw [← hwb19]
            clear hwb19
            have hz19 : wr.heap.size ≤ wb19.heap.size := hxwb19.size
            clear ba0 ba1 bag
            have ba := Hba.out.ext hxwb19
            clear Hba
            have ba0 := ba.at0
            have ba1 := ba.at1
            have bag := ba.1
            have Hba := Lib.hid ba
            clear ba
            clear bb0 bb1 bbg
            have bb := Hbb.out.ext hxwb19
            clear Hbb
            have bb0 := bb.at0
            have bb1 := bb.at1
            have bbg := bb.1
            have Hbb := Lib.hid bb
            clear bb
            clear bc0 bc1 bcg
            have bc := Hbc.out.ext hxwb19
            clear Hbc
            have bc0 := bc.at0
            have bc1 := bc.at1
            have bcg := bc.1
            have Hbc := Lib.hid bc
            clear bc
            clear bd0 bd1 bdg
            have bd := Hbd.out.ext hxwb19
            clear Hbd
            have bd0 := bd.at0
            have bd1 := bd.at1
            have bdg := bd.1
            have Hbd := Lib.hid bd
            clear bd
            clear be0 be1 beg
            have be := Hbe.out.ext hxwb19
            clear Hbe
            have be0 := be.at0
            have be1 := be.at1
            have beg := be.1
            have Hbe := Lib.hid be
            clear be
            have bl0 := Hbl.out.at0
            have bl1 := Hbl.out.at1
            have bl2 := Hbl.out.at2
            have bl3 := Hbl.out.at3
            have blg := Hbl.out.1
            (refine wp_region_onto prog_mixed (by kernel_rfl) ?_; (repeat (go_big_quiet_step ((fail)))); refine onto_end ?_; intro w10 hx10)
            have hz20 : wb19.heap.size ≤ w10.heap.size := hx10.size
            clear ba0 ba1 bag
            have ba := Hba.out.ext hx10
            clear Hba
            have ba0 := ba.at0
            have ba1 := ba.at1
            have bag := ba.1
            have Hba := Lib.hid ba
            clear ba
            clear bb0 bb1 bbg
            have bb := Hbb.out.ext hx10
            clear Hbb
            have bb0 := bb.at0
            have bb1 := bb.at1
            have bbg := bb.1
            have Hbb := Lib.hid bb
            clear bb
            clear bc0 bc1 bcg
            have bc := Hbc.out.ext hx10
            clear Hbc
            have bc0 := bc.at0
            have bc1 := bc.at1
            have bcg := bc.1
            have Hbc := Lib.hid bc
            clear bc
            clear bd0 bd1 bdg
            have bd := Hbd.out.ext hx10
            clear Hbd
            have bd0 := bd.at0
            have bd1 := bd.at1
            have bdg := bd.1
            have Hbd := Lib.hid bd
            clear bd
            clear be0 be1 beg
            have be := Hbe.out.ext hx10
            clear Hbe
            have be0 := be.at0
            have be1 := be.at1
            have beg := be.1
            have Hbe := Lib.hid be
            clear be
            clear bl0 bl1 bl2 bl3 blg
            have bl := Hbl.out.ext hx10
            clear Hbl
            have bl0 := bl.at0
            have bl1 := bl.at1
            have bl2 := bl.at2
            have bl3 := bl.at3
            have blg := bl.1
            have Hbl := Lib.hid bl
            clear bl
            go_wp2_with fail
            (refine wp_region_onto prog_mixed (by kernel_rfl) ?_; (repeat (go_big_quiet_step ((fail)))); refine onto_end ?_; intro w11 hx11)
            have hz21 : w10.heap.size ≤ w11.heap.size := hx11.size
            clear ba0 ba1 bag
            have ba := Hba.out.ext hx11
            clear Hba
            have ba0 := ba.at0
            have ba1 := ba.at1
            have bag := ba.1
            have Hba := Lib.hid ba
            clear ba
            clear bb0 bb1 bbg
            have bb := Hbb.out.ext hx11
            clear Hbb
            have bb0 := bb.at0
            have bb1 := bb.at1
            have bbg := bb.1
            have Hbb := Lib.hid bb
            clear bb
            clear bc0 bc1 bcg
            have bc := Hbc.out.ext hx11
            clear Hbc
            have bc0 := bc.at0
            have bc1 := bc.at1
            have bcg := bc.1
            have Hbc := Lib.hid bc
            clear bc
            clear bd0 bd1 bdg
            have bd := Hbd.out.ext hx11
            clear Hbd
            have bd0 := bd.at0
            have bd1 := bd.at1
            have bdg := bd.1
            have Hbd := Lib.hid bd
            clear bd
            clear be0 be1 beg
            have be := Hbe.out.ext hx11
            clear Hbe
            have be0 := be.at0
            have be1 := be.at1
            have beg := be.1
            have Hbe := Lib.hid be
            clear be
            clear bl0 bl1 bl2 bl3 blg
            have bl := Hbl.out.ext hx11
            clear Hbl
            have bl0 := bl.at0
            have bl1 := bl.at1
            have bl2 := bl.at2
            have bl3 := bl.at3
            have blg := bl.1
            have Hbl := Lib.hid bl
            clear bl
            obtain ⟨b6, o6, u6, eS, _, hb6, g6, hu6⟩ := (HN.out.up (((((((((((((((((((hxwb2.trans hxP).trans hxQ).trans hxR).trans hxwb6).trans hxM).trans hxwb8).trans hxL).trans hxwb10).trans hxB).trans hxwb12).trans hxE).trans hxF).trans hxt1).trans hxt2).trans hxt3).trans hxr).trans hxwb19).trans hx10).trans hx11)).1.at_ (i := bn) (by omega)
            subst eS
            obtain ⟨U6, u6c, rfl, _⟩ := hu6.len
            have Hu6 := Lib.hid hu6
            clear hu6
            have hb6' : b6 < w11.heap.size := hb6
            have i6 : (0 : Int) ≤ (bn : Int) := by omega
            have i7 : (bn : Int) < (n.sets.length : Int) := by omega
            have hso := Hok.out.2.2.1 bn (by omega)
            have Hso := Lib.hid hso
            clear hso
            go_wp2_with fail
            refine Calls.mono (impl_CountDays _ (setAt n.sets bn) _ (Spans.up Hu6.out (by repeat (first | exact Ext.refl _ | assumption | refine Ext.alloc ?_ _ | refine Ext.drew ?_ | refine Ext.drewN ?_ _ | refine Ext.setCell ?_ (by first | (simp; done) | (simp; omega) | omega) _ | refine Ext.trans ?_ (by assumption))))) ?_
            rintro e w12 ⟨rfl, hx12⟩
            rw [(cd_ok Hso.out).1, (cd_ok Hso.out).2]
            have g7 := (hx12.cell (p := ⟨b6, o6 + bn, none⟩) hb6).trans g6
            clear g6
            have hz22 : w11.heap.size ≤ w12.heap.size := hx12.size
            clear ba0 ba1 bag
            have ba := Hba.out.ext hx12
            clear Hba
            have ba0 := ba.at0
            have ba1 := ba.at1
            have bag := ba.1
            have Hba := Lib.hid ba
            clear ba
            clear bb0 bb1 bbg
            have bb := Hbb.out.ext hx12
            clear Hbb
            have bb0 := bb.at0
            have bb1 := bb.at1
            have bbg := bb.1
            have Hbb := Lib.hid bb
            clear bb
            clear bc0 bc1 bcg
            have bc := Hbc.out.ext hx12
            clear Hbc
            have bc0 := bc.at0
            have bc1 := bc.at1
            have bcg := bc.1
            have Hbc := Lib.hid bc
            clear bc
            clear bd0 bd1 bdg
            have bd := Hbd.out.ext hx12
            clear Hbd
            have bd0 := bd.at0
            have bd1 := bd.at1
            have bdg := bd.1
            have Hbd := Lib.hid bd
            clear bd
            clear be0 be1 beg
            have be := Hbe.out.ext hx12
            clear Hbe
            have be0 := be.at0
            have be1 := be.at1
            have beg := be.1
            have Hbe := Lib.hid be
            clear be
            clear bl0 bl1 bl2 bl3 blg
            have bl := Hbl.out.ext hx12
            clear Hbl
            have bl0 := bl.at0
            have bl1 := bl.at1
            have bl2 := bl.at2
            have bl3 := bl.at3
            have blg := bl.1
            have Hbl := Lib.hid bl
            clear bl
            have hdb := daysTo_bd Hso.out (setAt n.sets bn).length (Nat.le_refl _)
            have hd0 : 0 ≤ days (setAt n.sets bn) := hdb.1
            clear hdb
            by_cases hc0 : days (setAt n.sets bn) = 0
            case pos =>
              go_wp2_with fail
              go_ret
              exact ⟨rfl, (((((((((((((((((((((hxN.trans hxwb2).trans hxP).trans hxQ).trans hxR).trans hxwb6).trans hxM).trans hxwb8).trans hxL).trans hxwb10).trans hxB).trans hxwb12).trans hxE).trans hxF).trans hxt1).trans hxt2).trans hxt3).trans hxr).trans hxwb19).trans hx10).trans hx11).trans hx12)⟩
            have hc1 : 1 ≤ days (setAt n.sets bn) := by omega
            have hc0f : (days (setAt n.sets bn) == 0) = false := by simpa using hc0
            have hb67 : b6 < w12.heap.size := by omega
            have Hu7 := Lib.hid (Spans.up Hu6.out hx12)
            have HB12 := Lib.hid ((H.out.ext (((((((((((((((((((((hxN.trans hxwb2).trans hxP).trans hxQ).trans hxR).trans hxwb6).trans hxM).trans hxwb8).trans hxL).trans hxwb10).trans hxB).trans hxwb12).trans hxE).trans hxF).trans hxt1).trans hxt2).trans hxt3).trans hxr).trans hxwb19).trans hx10).trans hx11).trans hx12) (Nat.le_refl _)))
            have HC12 := Lib.hid (Bytes.wide HB12.out (((((((((((((((((((((hxN.trans hxwb2).trans hxP).trans hxQ).trans hxR).trans hxwb6).trans hxM).trans hxwb8).trans hxL).trans hxwb10).trans hxB).trans hxwb12).trans hxE).trans hxF).trans hxt1).trans hxt2).trans hxt3).trans hxr).trans hxwb19).trans hx10).trans hx11).trans hx12).size)
            clear hc0
            go_wp2_with fail
            go_region_held3 (fun w' => Ext w12 w' ∧ w'.cell? ⟨wN.heap.size, 0, none⟩ = some (.slice (some ⟨b6, o6, none⟩) n.sets.length Ncs) ∧ w'.cell? ⟨wN.heap.size, 1, none⟩ = some (.slice (some ⟨b4, o4, none⟩) n.links.length Nck) ∧ w'.cell? ⟨b6, o6 + bn, none⟩ = some (.slice U6 (setAt n.sets bn).length u6c))
              (exact ext_keep (by repeat (first | assumption | exact (by assumption : Ext w12 _ ∧ _).1 | exact Ext.refl _ | refine Ext.drew ?_ | refine Ext.alloc ?_ _)) bag ba0 ba1 hb67 g7)
              (first
                | (go_at_call 57; refine Calls.mono (laws_roll cn _ _ _ (Bytes.up2 HC12.out (by assumption : Ext w12 _ ∧ _).1)) ?_; rintro e w13 ⟨bD, rfl, hbD, hx13, hD13⟩; have hE13 := (by assumption : Ext w12 _ ∧ _).1.trans hx13; have hbD0 := Nat.le_trans (by assumption : Ext w12 _ ∧ _).1.size hbD; have HD13 := Lib.hid hD13; clear hx13 hD13 hbD)
                | (go_at_call 58; refine Calls.mono (laws_below cn _ _ _ w12 _ (HC12.out.ext (by assumption : Ext w12 _ ∧ _).1 (Nat.le_refl _)) hbD0 (by assumption : Ext w12 _ ∧ _).1 HD13.out hc1) ?_; rintro e w14 ⟨r, rfl, hr0, hr1, hE14⟩)
                | (go_at_call 56; refine Calls.mono (impl_NthDay _ (setAt n.sets bn) r _ (Spans.up Hu7.out (by assumption : Ext w12 _ ∧ _).1) Hso.out hr0 hr1) ?_; rintro e w15 ⟨d, rfl, hd, hx15⟩; have hE15 := (by assumption : Ext w12 _ ∧ _).1.trans hx15; clear hx15))
            have hd12 := hd
            have hz23 : w12.heap.size ≤ w15.heap.size := hE15.size
            clear ba0 ba1 bag
            have ba := Hba.out.ext hE15
            clear Hba
            have ba0 := ba.at0
            have ba1 := ba.at1
            have bag := ba.1
            have Hba := Lib.hid ba
            clear ba
            clear bb0 bb1 bbg
            have bb := Hbb.out.ext hE15
            clear Hbb
            have bb0 := bb.at0
            have bb1 := bb.at1
            have bbg := bb.1
            have Hbb := Lib.hid bb
            clear bb
            clear bc0 bc1 bcg
            have bc := Hbc.out.ext hE15
            clear Hbc
            have bc0 := bc.at0
            have bc1 := bc.at1
            have bcg := bc.1
            have Hbc := Lib.hid bc
            clear bc
            clear bd0 bd1 bdg
            have bd := Hbd.out.ext hE15
            clear Hbd
            have bd0 := bd.at0
            have bd1 := bd.at1
            have bdg := bd.1
            have Hbd := Lib.hid bd
            clear bd
            clear be0 be1 beg
            have be := Hbe.out.ext hE15
            clear Hbe
            have be0 := be.at0
            have be1 := be.at1
            have beg := be.1
            have Hbe := Lib.hid be
            clear be
            clear bl0 bl1 bl2 bl3 blg
            have bl := Hbl.out.ext hE15
            clear Hbl
            have bl0 := bl.at0
            have bl1 := bl.at1
            have bl2 := bl.at2
            have bl3 := bl.at3
            have blg := bl.1
            have Hbl := Lib.hid bl
            clear bl
            obtain ⟨q1, q2, q3, q4⟩ := pd_law (o := false) (d := d) Hj.out Hok.out Hk.out Hpl.out Hlen.out (by rw [Eb.out]; exact hd)
            rw [Eb.out] at q1 q3 q4
            rw [Bool.not_false] at q3 q4
            have Q1 := Lib.hid q1
            have Q2 := Lib.hid q2
            have Q3 := Lib.hid q3
            have Q4 := Lib.hid q4
            clear q1 q2 q3 q4 hd hd12 hd0 hc1 hc0f hr0 hr1 g7
            go_wp2_with fail
            refine Calls.mono (impl_FixDay _ _ n (bn : Int) d _ (HN.out.up ((((((((((((((((((((((hxwb2.trans hxP).trans hxQ).trans hxR).trans hxwb6).trans hxM).trans hxwb8).trans hxL).trans hxwb10).trans hxB).trans hxwb12).trans hxE).trans hxF).trans hxt1).trans hxt2).trans hxt3).trans hxr).trans hxwb19).trans hx10).trans hx11).trans hx12).trans hE15).trans (by repeat (first | exact Ext.refl _ | assumption | refine Ext.alloc ?_ _ | refine Ext.drew ?_ | refine Ext.drewN ?_ _ | refine Ext.setCell ?_ (by first | (simp; done) | (simp; omega) | omega) _ | refine Ext.trans ?_ (by assumption)))))) ?_
            intro e wX hp
            obtain ⟨Xs, Xcs, Xk, Xck, rfl, hxX, HX⟩ := hp.plain
            clear hp
            rw [Q1.out]
            have hz24 : w15.heap.size ≤ wX.heap.size := hxX.size
            clear ba0 ba1 bag
            have ba := Hba.out.ext hxX
            clear Hba
            have ba0 := ba.at0
            have ba1 := ba.at1
            have bag := ba.1
            have Hba := Lib.hid ba
            clear ba
            clear bb0 bb1 bbg
            have bb := Hbb.out.ext hxX
            clear Hbb
            have bb0 := bb.at0
            have bb1 := bb.at1
            have bbg := bb.1
            have Hbb := Lib.hid bb
            clear bb
            clear bc0 bc1 bcg
            have bc := Hbc.out.ext hxX
            clear Hbc
            have bc0 := bc.at0
            have bc1 := bc.at1
            have bcg := bc.1
            have Hbc := Lib.hid bc
            clear bc
            clear bd0 bd1 bdg
            have bd := Hbd.out.ext hxX
            clear Hbd
            have bd0 := bd.at0
            have bd1 := bd.at1
            have bdg := bd.1
            have Hbd := Lib.hid bd
            clear bd
            clear be0 be1 beg
            have be := Hbe.out.ext hxX
            clear Hbe
            have be0 := be.at0
            have be1 := be.at1
            have beg := be.1
            have Hbe := Lib.hid be
            clear be
            clear bl0 bl1 bl2 bl3 blg
            have bl := Hbl.out.ext hxX
            clear Hbl
            have bl0 := bl.at0
            have bl1 := bl.at1
            have bl2 := bl.at2
            have bl3 := bl.at3
            have blg := bl.1
            have Hbl := Lib.hid bl
            clear bl
            obtain ⟨wb25, hwb25⟩ : ∃ x : World, x = wX.alloc (.cells #[.slice Xs (fixV n (bn : Int) d).sets.length Xcs, .slice Xk (fixV n (bn : Int) d).links.length Xck] 27) := ⟨_, rfl⟩
            have hxwb25 : Ext wX wb25 := by rw [hwb25]; exact (by repeat (first | exact Ext.refl _ | assumption | refine Ext.alloc ?_ _ | refine Ext.drew ?_ | refine Ext.drewN ?_ _ | refine Ext.setCell ?_ (by first | (simp; done) | (simp; omega) | omega) _ | refine Ext.trans ?_ (by assumption)))
            have Hbx := Lib.hid (show Boxed wb25 wX.heap.size [.slice Xs (fixV n (bn : Int) d).sets.length Xcs, .slice Xk (fixV n (bn : Int) d).links.length Xck] from by rw [hwb25]; exact Boxed.new wX [.slice Xs (fixV n (bn : Int) d).sets.length Xcs, .slice Xk (fixV n (bn : Int) d).links.length Xck] 27)
            go_wp2_with fail
            rw [← hwb25]
            clear hwb25
            have hz25 : wX.heap.size ≤ wb25.heap.size := hxwb25.size
            clear ba0 ba1 bag
            have ba := Hba.out.ext hxwb25
            clear Hba
            have ba0 := ba.at0
            have ba1 := ba.at1
            have bag := ba.1
            have Hba := Lib.hid ba
            clear ba
            clear bb0 bb1 bbg
            have bb := Hbb.out.ext hxwb25
            clear Hbb
            have bb0 := bb.at0
            have bb1 := bb.at1
            have bbg := bb.1
            have Hbb := Lib.hid bb
            clear bb
            clear bc0 bc1 bcg
            have bc := Hbc.out.ext hxwb25
            clear Hbc
            have bc0 := bc.at0
            have bc1 := bc.at1
            have bcg := bc.1
            have Hbc := Lib.hid bc
            clear bc
            clear bd0 bd1 bdg
            have bd := Hbd.out.ext hxwb25
            clear Hbd
            have bd0 := bd.at0
            have bd1 := bd.at1
            have bdg := bd.1
            have Hbd := Lib.hid bd
            clear bd
            clear be0 be1 beg
            have be := Hbe.out.ext hxwb25
            clear Hbe
            have be0 := be.at0
            have be1 := be.at1
            have beg := be.1
            have Hbe := Lib.hid be
            clear be
            clear bl0 bl1 bl2 bl3 blg
            have bl := Hbl.out.ext hxwb25
            clear Hbl
            have bl0 := bl.at0
            have bl1 := bl.at1
            have bl2 := bl.at2
            have bl3 := bl.at3
            have blg := bl.1
            have Hbl := Lib.hid bl
            clear bl
            have bx0 := Hbx.out.at0
            have bx1 := Hbx.out.at1
            have bxg := Hbx.out.1
            refine Calls.mono (impl_HasDay _ (pdL n (j : Int) false) d _ (Spans.up IP.out ((((((((((((((((((((((hxQ.trans hxR).trans hxwb6).trans hxM).trans hxwb8).trans hxL).trans hxwb10).trans hxB).trans hxwb12).trans hxE).trans hxF).trans hxt1).trans hxt2).trans hxt3).trans hxr).trans hxwb19).trans hx10).trans hx11).trans hx12).trans hE15).trans hxX).trans hxwb25).trans (by repeat (first | exact Ext.refl _ | assumption | refine Ext.alloc ?_ _ | refine Ext.drew ?_ | refine Ext.drewN ?_ _ | refine Ext.setCell ?_ (by first | (simp; done) | (simp; omega) | omega) _ | refine Ext.trans ?_ (by assumption)))))) ?_
            rintro e wY ⟨rfl, hxY⟩
            rw [Q2.out, Q4.out]
            have hz26 : wb25.heap.size ≤ wY.heap.size := hxY.size
            clear ba0 ba1 bag
            have ba := Hba.out.ext hxY
            clear Hba
            have ba0 := ba.at0
            have ba1 := ba.at1
            have bag := ba.1
            have Hba := Lib.hid ba
            clear ba
            clear bb0 bb1 bbg
            have bb := Hbb.out.ext hxY
            clear Hbb
            have bb0 := bb.at0
            have bb1 := bb.at1
            have bbg := bb.1
            have Hbb := Lib.hid bb
            clear bb
            clear bc0 bc1 bcg
            have bc := Hbc.out.ext hxY
            clear Hbc
            have bc0 := bc.at0
            have bc1 := bc.at1
            have bcg := bc.1
            have Hbc := Lib.hid bc
            clear bc
            clear bd0 bd1 bdg
            have bd := Hbd.out.ext hxY
            clear Hbd
            have bd0 := bd.at0
            have bd1 := bd.at1
            have bdg := bd.1
            have Hbd := Lib.hid bd
            clear bd
            clear be0 be1 beg
            have be := Hbe.out.ext hxY
            clear Hbe
            have be0 := be.at0
            have be1 := be.at1
            have beg := be.1
            have Hbe := Lib.hid be
            clear be
            clear bl0 bl1 bl2 bl3 blg
            have bl := Hbl.out.ext hxY
            clear Hbl
            have bl0 := bl.at0
            have bl1 := bl.at1
            have bl2 := bl.at2
            have bl3 := bl.at3
            have blg := bl.1
            have Hbl := Lib.hid bl
            clear bl
            clear bx0 bx1 bxg
            have bx := Hbx.out.ext hxY
            clear Hbx
            have bx0 := bx.at0
            have bx1 := bx.at1
            have bxg := bx.1
            have Hbx := Lib.hid bx
            clear bx
            go_wp2_with fail
            refine Calls.mono (impl_PartnerDays _ _ (fixV n (bn : Int) d) (j : Int) true _ (HX.out.up ((hxwb25.trans hxY).trans (by repeat (first | exact Ext.refl _ | assumption | refine Ext.alloc ?_ _ | refine Ext.drew ?_ | refine Ext.drewN ?_ _ | refine Ext.setCell ?_ (by first | (simp; done) | (simp; omega) | omega) _ | refine Ext.trans ?_ (by assumption)))))) ?_
            intro e wZ hp
            obtain ⟨Za, Zc, rfl, hxZ, IZ⟩ := hp.plain
            clear hp
            have hz27 : wY.heap.size ≤ wZ.heap.size := hxZ.size
            clear ba0 ba1 bag
            have ba := Hba.out.ext hxZ
            clear Hba
            have ba0 := ba.at0
            have ba1 := ba.at1
            have bag := ba.1
            have Hba := Lib.hid ba
            clear ba
            clear bb0 bb1 bbg
            have bb := Hbb.out.ext hxZ
            clear Hbb
            have bb0 := bb.at0
            have bb1 := bb.at1
            have bbg := bb.1
            have Hbb := Lib.hid bb
            clear bb
            clear bc0 bc1 bcg
            have bc := Hbc.out.ext hxZ
            clear Hbc
            have bc0 := bc.at0
            have bc1 := bc.at1
            have bcg := bc.1
            have Hbc := Lib.hid bc
            clear bc
            clear bd0 bd1 bdg
            have bd := Hbd.out.ext hxZ
            clear Hbd
            have bd0 := bd.at0
            have bd1 := bd.at1
            have bdg := bd.1
            have Hbd := Lib.hid bd
            clear bd
            clear be0 be1 beg
            have be := Hbe.out.ext hxZ
            clear Hbe
            have be0 := be.at0
            have be1 := be.at1
            have beg := be.1
            have Hbe := Lib.hid be
            clear be
            clear bl0 bl1 bl2 bl3 blg
            have bl := Hbl.out.ext hxZ
            clear Hbl
            have bl0 := bl.at0
            have bl1 := bl.at1
            have bl2 := bl.at2
            have bl3 := bl.at3
            have blg := bl.1
            have Hbl := Lib.hid bl
            clear bl
            clear bx0 bx1 bxg
            have bx := Hbx.out.ext hxZ
            clear Hbx
            have bx0 := bx.at0
            have bx1 := bx.at1
            have bxg := bx.1
            have Hbx := Lib.hid bx
            clear bx
            rw [Q3.out]
            have hbaf : ((an : Int) == (bn : Int)) = false := by simpa using hba
            have habf : ((bn : Int) == (an : Int)) = false := by simpa using hab
            have hban : ((an : Int) != (bn : Int)) = true := by simpa using hba
            have habn : ((bn : Int) != (an : Int)) = true := by simpa using hab
            go_wp2_with fail
            go_ret
            exact ⟨rfl, ((((((((((((((((((((((((((hxN.trans hxwb2).trans hxP).trans hxQ).trans hxR).trans hxwb6).trans hxM).trans hxwb8).trans hxL).trans hxwb10).trans hxB).trans hxwb12).trans hxE).trans hxF).trans hxt1).trans hxt2).trans hxt3).trans hxr).trans hxwb19).trans hx10).trans hx11).trans hx12).trans hE15).trans hxX).trans hxwb25).trans hxY).trans hxZ)⟩
          case true =>
            obtain ⟨wb19, hwb19⟩ : ∃ x : World, x = wr.alloc (.cells #[.int .i64 (bn : Int), .int .i64 (an : Int), .int .i64 (lkAt n.links j).le, .int .i64 (lkAt n.links j).mo] 60) := ⟨_, rfl⟩
            have hxwb19 : Ext wr wb19 := by rw [hwb19]; exact (by repeat (first | exact Ext.refl _ | assumption | refine Ext.alloc ?_ _ | refine Ext.drew ?_ | refine Ext.drewN ?_ _ | refine Ext.setCell ?_ (by first | (simp; done) | (simp; omega) | omega) _ | refine Ext.trans ?_ (by assumption)))
            have Hbl := Lib.hid (show Boxed wb19 wr.heap.size [.int .i64 (bn : Int), .int .i64 (an : Int), .int .i64 (lkAt n.links j).le, .int .i64 (lkAt n.links j).mo] from by rw [hwb19]; exact Boxed.new wr [.int .i64 (bn : Int), .int .i64 (an : Int), .int .i64 (lkAt n.links j).le, .int .i64 (lkAt n.links j).mo] 60)
            go_wp2_with fail
            rw [← hwb19]
            clear hwb19
            have hz19 : wr.heap.size ≤ wb19.heap.size := hxwb19.size
            clear ba0 ba1 bag
            have ba := Hba.out.ext hxwb19
            clear Hba
            have ba0 := ba.at0
            have ba1 := ba.at1
            have bag := ba.1
            have Hba := Lib.hid ba
            clear ba
            clear bb0 bb1 bbg
            have bb := Hbb.out.ext hxwb19
            clear Hbb
            have bb0 := bb.at0
            have bb1 := bb.at1
            have bbg := bb.1
            have Hbb := Lib.hid bb
            clear bb
            clear bc0 bc1 bcg
            have bc := Hbc.out.ext hxwb19
            clear Hbc
            have bc0 := bc.at0
            have bc1 := bc.at1
            have bcg := bc.1
            have Hbc := Lib.hid bc
            clear bc
            clear bd0 bd1 bdg
            have bd := Hbd.out.ext hxwb19
            clear Hbd
            have bd0 := bd.at0
            have bd1 := bd.at1
            have bdg := bd.1
            have Hbd := Lib.hid bd
            clear bd
            clear be0 be1 beg
            have be := Hbe.out.ext hxwb19
            clear Hbe
            have be0 := be.at0
            have be1 := be.at1
            have beg := be.1
            have Hbe := Lib.hid be
            clear be
            have bl0 := Hbl.out.at0
            have bl1 := Hbl.out.at1
            have bl2 := Hbl.out.at2
            have bl3 := Hbl.out.at3
            have blg := Hbl.out.1
            (refine wp_region_onto prog_mixed (by kernel_rfl) ?_; (repeat (go_big_quiet_step ((fail)))); refine onto_end ?_; intro w10 hx10)
            have hz20 : wb19.heap.size ≤ w10.heap.size := hx10.size
            clear ba0 ba1 bag
            have ba := Hba.out.ext hx10
            clear Hba
            have ba0 := ba.at0
            have ba1 := ba.at1
            have bag := ba.1
            have Hba := Lib.hid ba
            clear ba
            clear bb0 bb1 bbg
            have bb := Hbb.out.ext hx10
            clear Hbb
            have bb0 := bb.at0
            have bb1 := bb.at1
            have bbg := bb.1
            have Hbb := Lib.hid bb
            clear bb
            clear bc0 bc1 bcg
            have bc := Hbc.out.ext hx10
            clear Hbc
            have bc0 := bc.at0
            have bc1 := bc.at1
            have bcg := bc.1
            have Hbc := Lib.hid bc
            clear bc
            clear bd0 bd1 bdg
            have bd := Hbd.out.ext hx10
            clear Hbd
            have bd0 := bd.at0
            have bd1 := bd.at1
            have bdg := bd.1
            have Hbd := Lib.hid bd
            clear bd
            clear be0 be1 beg
            have be := Hbe.out.ext hx10
            clear Hbe
            have be0 := be.at0
            have be1 := be.at1
            have beg := be.1
            have Hbe := Lib.hid be
            clear be
            clear bl0 bl1 bl2 bl3 blg
            have bl := Hbl.out.ext hx10
            clear Hbl
            have bl0 := bl.at0
            have bl1 := bl.at1
            have bl2 := bl.at2
            have bl3 := bl.at3
            have blg := bl.1
            have Hbl := Lib.hid bl
            clear bl
            obtain ⟨b6, o6, u6, eS, _, hb6, g6, hu6⟩ := (HN.out.up ((((((((((((((((((hxwb2.trans hxP).trans hxQ).trans hxR).trans hxwb6).trans hxM).trans hxwb8).trans hxL).trans hxwb10).trans hxB).trans hxwb12).trans hxE).trans hxF).trans hxt1).trans hxt2).trans hxt3).trans hxr).trans hxwb19).trans hx10)).1.at_ (i := an) (by omega)
            subst eS
            obtain ⟨U6, u6c, rfl, _⟩ := hu6.len
            have Hu6 := Lib.hid hu6
            clear hu6
            have hb6' : b6 < w10.heap.size := hb6
            have i6 : (0 : Int) ≤ (an : Int) := by omega
            have i7 : (an : Int) < (n.sets.length : Int) := by omega
            have hso := Hok.out.2.2.1 an (by omega)
            have Hso := Lib.hid hso
            clear hso
            go_wp2_with fail
            refine Calls.mono (impl_CountDays _ (setAt n.sets an) _ (Spans.up Hu6.out (by repeat (first | exact Ext.refl _ | assumption | refine Ext.alloc ?_ _ | refine Ext.drew ?_ | refine Ext.drewN ?_ _ | refine Ext.setCell ?_ (by first | (simp; done) | (simp; omega) | omega) _ | refine Ext.trans ?_ (by assumption))))) ?_
            rintro e w12 ⟨rfl, hx12⟩
            rw [(cd_ok Hso.out).1, (cd_ok Hso.out).2]
            have g7 := (hx12.cell (p := ⟨b6, o6 + an, none⟩) hb6).trans g6
            clear g6
            have hz21 : w10.heap.size ≤ w12.heap.size := hx12.size
            clear ba0 ba1 bag
            have ba := Hba.out.ext hx12
            clear Hba
            have ba0 := ba.at0
            have ba1 := ba.at1
            have bag := ba.1
            have Hba := Lib.hid ba
            clear ba
            clear bb0 bb1 bbg
            have bb := Hbb.out.ext hx12
            clear Hbb
            have bb0 := bb.at0
            have bb1 := bb.at1
            have bbg := bb.1
            have Hbb := Lib.hid bb
            clear bb
            clear bc0 bc1 bcg
            have bc := Hbc.out.ext hx12
            clear Hbc
            have bc0 := bc.at0
            have bc1 := bc.at1
            have bcg := bc.1
            have Hbc := Lib.hid bc
            clear bc
            clear bd0 bd1 bdg
            have bd := Hbd.out.ext hx12
            clear Hbd
            have bd0 := bd.at0
            have bd1 := bd.at1
            have bdg := bd.1
            have Hbd := Lib.hid bd
            clear bd
            clear be0 be1 beg
            have be := Hbe.out.ext hx12
            clear Hbe
            have be0 := be.at0
            have be1 := be.at1
            have beg := be.1
            have Hbe := Lib.hid be
            clear be
            clear bl0 bl1 bl2 bl3 blg
            have bl := Hbl.out.ext hx12
            clear Hbl
            have bl0 := bl.at0
            have bl1 := bl.at1
            have bl2 := bl.at2
            have bl3 := bl.at3
            have blg := bl.1
            have Hbl := Lib.hid bl
            clear bl
            have hdb := daysTo_bd Hso.out (setAt n.sets an).length (Nat.le_refl _)
            have hd0 : 0 ≤ days (setAt n.sets an) := hdb.1
            clear hdb
            by_cases hc0 : days (setAt n.sets an) = 0
            case pos =>
              go_wp2_with fail
              go_ret
              exact ⟨rfl, ((((((((((((((((((((hxN.trans hxwb2).trans hxP).trans hxQ).trans hxR).trans hxwb6).trans hxM).trans hxwb8).trans hxL).trans hxwb10).trans hxB).trans hxwb12).trans hxE).trans hxF).trans hxt1).trans hxt2).trans hxt3).trans hxr).trans hxwb19).trans hx10).trans hx12)⟩
            have hc1 : 1 ≤ days (setAt n.sets an) := by omega
            have hc0f : (days (setAt n.sets an) == 0) = false := by simpa using hc0
            have hb67 : b6 < w12.heap.size := by omega
            have Hu7 := Lib.hid (Spans.up Hu6.out hx12)
            have HB12 := Lib.hid ((H.out.ext ((((((((((((((((((((hxN.trans hxwb2).trans hxP).trans hxQ).trans hxR).trans hxwb6).trans hxM).trans hxwb8).trans hxL).trans hxwb10).trans hxB).trans hxwb12).trans hxE).trans hxF).trans hxt1).trans hxt2).trans hxt3).trans hxr).trans hxwb19).trans hx10).trans hx12) (Nat.le_refl _)))
            have HC12 := Lib.hid (Bytes.wide HB12.out ((((((((((((((((((((hxN.trans hxwb2).trans hxP).trans hxQ).trans hxR).trans hxwb6).trans hxM).trans hxwb8).trans hxL).trans hxwb10).trans hxB).trans hxwb12).trans hxE).trans hxF).trans hxt1).trans hxt2).trans hxt3).trans hxr).trans hxwb19).trans hx10).trans hx12).size)
            clear hc0
            go_wp2_with fail
            go_region_held3 (fun w' => Ext w12 w' ∧ w'.cell? ⟨wN.heap.size, 0, none⟩ = some (.slice (some ⟨b6, o6, none⟩) n.sets.length Ncs) ∧ w'.cell? ⟨wN.heap.size, 1, none⟩ = some (.slice (some ⟨b4, o4, none⟩) n.links.length Nck) ∧ w'.cell? ⟨b6, o6 + an, none⟩ = some (.slice U6 (setAt n.sets an).length u6c))
              (exact ext_keep (by repeat (first | assumption | exact (by assumption : Ext w12 _ ∧ _).1 | exact Ext.refl _ | refine Ext.drew ?_ | refine Ext.alloc ?_ _)) bag ba0 ba1 hb67 g7)
              (first
                | (go_at_call 57; refine Calls.mono (laws_roll cn _ _ _ (Bytes.up2 HC12.out (by assumption : Ext w12 _ ∧ _).1)) ?_; rintro e w13 ⟨bD, rfl, hbD, hx13, hD13⟩; have hE13 := (by assumption : Ext w12 _ ∧ _).1.trans hx13; have hbD0 := Nat.le_trans (by assumption : Ext w12 _ ∧ _).1.size hbD; have HD13 := Lib.hid hD13; clear hx13 hD13 hbD)
                | (go_at_call 58; refine Calls.mono (laws_below cn _ _ _ w12 _ (HC12.out.ext (by assumption : Ext w12 _ ∧ _).1 (Nat.le_refl _)) hbD0 (by assumption : Ext w12 _ ∧ _).1 HD13.out hc1) ?_; rintro e w14 ⟨r, rfl, hr0, hr1, hE14⟩)
                | (go_at_call 56; refine Calls.mono (impl_NthDay _ (setAt n.sets an) r _ (Spans.up Hu7.out (by assumption : Ext w12 _ ∧ _).1) Hso.out hr0 hr1) ?_; rintro e w15 ⟨d, rfl, hd, hx15⟩; have hE15 := (by assumption : Ext w12 _ ∧ _).1.trans hx15; clear hx15))
            have hd12 := hd
            have hz22 : w12.heap.size ≤ w15.heap.size := hE15.size
            clear ba0 ba1 bag
            have ba := Hba.out.ext hE15
            clear Hba
            have ba0 := ba.at0
            have ba1 := ba.at1
            have bag := ba.1
            have Hba := Lib.hid ba
            clear ba
            clear bb0 bb1 bbg
            have bb := Hbb.out.ext hE15
            clear Hbb
            have bb0 := bb.at0
            have bb1 := bb.at1
            have bbg := bb.1
            have Hbb := Lib.hid bb
            clear bb
            clear bc0 bc1 bcg
            have bc := Hbc.out.ext hE15
            clear Hbc
            have bc0 := bc.at0
            have bc1 := bc.at1
            have bcg := bc.1
            have Hbc := Lib.hid bc
            clear bc
            clear bd0 bd1 bdg
            have bd := Hbd.out.ext hE15
            clear Hbd
            have bd0 := bd.at0
            have bd1 := bd.at1
            have bdg := bd.1
            have Hbd := Lib.hid bd
            clear bd
            clear be0 be1 beg
            have be := Hbe.out.ext hE15
            clear Hbe
            have be0 := be.at0
            have be1 := be.at1
            have beg := be.1
            have Hbe := Lib.hid be
            clear be
            clear bl0 bl1 bl2 bl3 blg
            have bl := Hbl.out.ext hE15
            clear Hbl
            have bl0 := bl.at0
            have bl1 := bl.at1
            have bl2 := bl.at2
            have bl3 := bl.at3
            have blg := bl.1
            have Hbl := Lib.hid bl
            clear bl
            obtain ⟨q1, q2, q3, q4⟩ := pd_law (o := true) (d := d) Hj.out Hok.out Hk.out Hpl.out Hlen.out (by rw [Ea.out]; exact hd)
            rw [Ea.out] at q1 q3 q4
            rw [Bool.not_true] at q3 q4
            have Q1 := Lib.hid q1
            have Q2 := Lib.hid q2
            have Q3 := Lib.hid q3
            have Q4 := Lib.hid q4
            clear q1 q2 q3 q4 hd hd12 hd0 hc1 hc0f hr0 hr1 g7
            go_wp2_with fail
            refine Calls.mono (impl_FixDay _ _ n (an : Int) d _ (HN.out.up (((((((((((((((((((((hxwb2.trans hxP).trans hxQ).trans hxR).trans hxwb6).trans hxM).trans hxwb8).trans hxL).trans hxwb10).trans hxB).trans hxwb12).trans hxE).trans hxF).trans hxt1).trans hxt2).trans hxt3).trans hxr).trans hxwb19).trans hx10).trans hx12).trans hE15).trans (by repeat (first | exact Ext.refl _ | assumption | refine Ext.alloc ?_ _ | refine Ext.drew ?_ | refine Ext.drewN ?_ _ | refine Ext.setCell ?_ (by first | (simp; done) | (simp; omega) | omega) _ | refine Ext.trans ?_ (by assumption)))))) ?_
            intro e wX hp
            obtain ⟨Xs, Xcs, Xk, Xck, rfl, hxX, HX⟩ := hp.plain
            clear hp
            rw [Q1.out]
            have hz23 : w15.heap.size ≤ wX.heap.size := hxX.size
            clear ba0 ba1 bag
            have ba := Hba.out.ext hxX
            clear Hba
            have ba0 := ba.at0
            have ba1 := ba.at1
            have bag := ba.1
            have Hba := Lib.hid ba
            clear ba
            clear bb0 bb1 bbg
            have bb := Hbb.out.ext hxX
            clear Hbb
            have bb0 := bb.at0
            have bb1 := bb.at1
            have bbg := bb.1
            have Hbb := Lib.hid bb
            clear bb
            clear bc0 bc1 bcg
            have bc := Hbc.out.ext hxX
            clear Hbc
            have bc0 := bc.at0
            have bc1 := bc.at1
            have bcg := bc.1
            have Hbc := Lib.hid bc
            clear bc
            clear bd0 bd1 bdg
            have bd := Hbd.out.ext hxX
            clear Hbd
            have bd0 := bd.at0
            have bd1 := bd.at1
            have bdg := bd.1
            have Hbd := Lib.hid bd
            clear bd
            clear be0 be1 beg
            have be := Hbe.out.ext hxX
            clear Hbe
            have be0 := be.at0
            have be1 := be.at1
            have beg := be.1
            have Hbe := Lib.hid be
            clear be
            clear bl0 bl1 bl2 bl3 blg
            have bl := Hbl.out.ext hxX
            clear Hbl
            have bl0 := bl.at0
            have bl1 := bl.at1
            have bl2 := bl.at2
            have bl3 := bl.at3
            have blg := bl.1
            have Hbl := Lib.hid bl
            clear bl
            obtain ⟨wb24, hwb24⟩ : ∃ x : World, x = wX.alloc (.cells #[.slice Xs (fixV n (an : Int) d).sets.length Xcs, .slice Xk (fixV n (an : Int) d).links.length Xck] 27) := ⟨_, rfl⟩
            have hxwb24 : Ext wX wb24 := by rw [hwb24]; exact (by repeat (first | exact Ext.refl _ | assumption | refine Ext.alloc ?_ _ | refine Ext.drew ?_ | refine Ext.drewN ?_ _ | refine Ext.setCell ?_ (by first | (simp; done) | (simp; omega) | omega) _ | refine Ext.trans ?_ (by assumption)))
            have Hbx := Lib.hid (show Boxed wb24 wX.heap.size [.slice Xs (fixV n (an : Int) d).sets.length Xcs, .slice Xk (fixV n (an : Int) d).links.length Xck] from by rw [hwb24]; exact Boxed.new wX [.slice Xs (fixV n (an : Int) d).sets.length Xcs, .slice Xk (fixV n (an : Int) d).links.length Xck] 27)
            go_wp2_with fail
            rw [← hwb24]
            clear hwb24
            have hz24 : wX.heap.size ≤ wb24.heap.size := hxwb24.size
            clear ba0 ba1 bag
            have ba := Hba.out.ext hxwb24
            clear Hba
            have ba0 := ba.at0
            have ba1 := ba.at1
            have bag := ba.1
            have Hba := Lib.hid ba
            clear ba
            clear bb0 bb1 bbg
            have bb := Hbb.out.ext hxwb24
            clear Hbb
            have bb0 := bb.at0
            have bb1 := bb.at1
            have bbg := bb.1
            have Hbb := Lib.hid bb
            clear bb
            clear bc0 bc1 bcg
            have bc := Hbc.out.ext hxwb24
            clear Hbc
            have bc0 := bc.at0
            have bc1 := bc.at1
            have bcg := bc.1
            have Hbc := Lib.hid bc
            clear bc
            clear bd0 bd1 bdg
            have bd := Hbd.out.ext hxwb24
            clear Hbd
            have bd0 := bd.at0
            have bd1 := bd.at1
            have bdg := bd.1
            have Hbd := Lib.hid bd
            clear bd
            clear be0 be1 beg
            have be := Hbe.out.ext hxwb24
            clear Hbe
            have be0 := be.at0
            have be1 := be.at1
            have beg := be.1
            have Hbe := Lib.hid be
            clear be
            clear bl0 bl1 bl2 bl3 blg
            have bl := Hbl.out.ext hxwb24
            clear Hbl
            have bl0 := bl.at0
            have bl1 := bl.at1
            have bl2 := bl.at2
            have bl3 := bl.at3
            have blg := bl.1
            have Hbl := Lib.hid bl
            clear bl
            have bx0 := Hbx.out.at0
            have bx1 := Hbx.out.at1
            have bxg := Hbx.out.1
            refine Calls.mono (impl_HasDay _ (pdL n (j : Int) true) d _ (Spans.up IP.out (((((((((((((((((((((hxQ.trans hxR).trans hxwb6).trans hxM).trans hxwb8).trans hxL).trans hxwb10).trans hxB).trans hxwb12).trans hxE).trans hxF).trans hxt1).trans hxt2).trans hxt3).trans hxr).trans hxwb19).trans hx10).trans hx12).trans hE15).trans hxX).trans hxwb24).trans (by repeat (first | exact Ext.refl _ | assumption | refine Ext.alloc ?_ _ | refine Ext.drew ?_ | refine Ext.drewN ?_ _ | refine Ext.setCell ?_ (by first | (simp; done) | (simp; omega) | omega) _ | refine Ext.trans ?_ (by assumption)))))) ?_
            rintro e wY ⟨rfl, hxY⟩
            rw [Q2.out, Q4.out]
            have hz25 : wb24.heap.size ≤ wY.heap.size := hxY.size
            clear ba0 ba1 bag
            have ba := Hba.out.ext hxY
            clear Hba
            have ba0 := ba.at0
            have ba1 := ba.at1
            have bag := ba.1
            have Hba := Lib.hid ba
            clear ba
            clear bb0 bb1 bbg
            have bb := Hbb.out.ext hxY
            clear Hbb
            have bb0 := bb.at0
            have bb1 := bb.at1
            have bbg := bb.1
            have Hbb := Lib.hid bb
            clear bb
            clear bc0 bc1 bcg
            have bc := Hbc.out.ext hxY
            clear Hbc
            have bc0 := bc.at0
            have bc1 := bc.at1
            have bcg := bc.1
            have Hbc := Lib.hid bc
            clear bc
            clear bd0 bd1 bdg
            have bd := Hbd.out.ext hxY
            clear Hbd
            have bd0 := bd.at0
            have bd1 := bd.at1
            have bdg := bd.1
            have Hbd := Lib.hid bd
            clear bd
            clear be0 be1 beg
            have be := Hbe.out.ext hxY
            clear Hbe
            have be0 := be.at0
            have be1 := be.at1
            have beg := be.1
            have Hbe := Lib.hid be
            clear be
            clear bl0 bl1 bl2 bl3 blg
            have bl := Hbl.out.ext hxY
            clear Hbl
            have bl0 := bl.at0
            have bl1 := bl.at1
            have bl2 := bl.at2
            have bl3 := bl.at3
            have blg := bl.1
            have Hbl := Lib.hid bl
            clear bl
            clear bx0 bx1 bxg
            have bx := Hbx.out.ext hxY
            clear Hbx
            have bx0 := bx.at0
            have bx1 := bx.at1
            have bxg := bx.1
            have Hbx := Lib.hid bx
            clear bx
            go_wp2_with fail
            refine Calls.mono (impl_PartnerDays _ _ (fixV n (an : Int) d) (j : Int) false _ (HX.out.up ((hxwb24.trans hxY).trans (by repeat (first | exact Ext.refl _ | assumption | refine Ext.alloc ?_ _ | refine Ext.drew ?_ | refine Ext.drewN ?_ _ | refine Ext.setCell ?_ (by first | (simp; done) | (simp; omega) | omega) _ | refine Ext.trans ?_ (by assumption)))))) ?_
            intro e wZ hp
            obtain ⟨Za, Zc, rfl, hxZ, IZ⟩ := hp.plain
            clear hp
            have hz26 : wY.heap.size ≤ wZ.heap.size := hxZ.size
            clear ba0 ba1 bag
            have ba := Hba.out.ext hxZ
            clear Hba
            have ba0 := ba.at0
            have ba1 := ba.at1
            have bag := ba.1
            have Hba := Lib.hid ba
            clear ba
            clear bb0 bb1 bbg
            have bb := Hbb.out.ext hxZ
            clear Hbb
            have bb0 := bb.at0
            have bb1 := bb.at1
            have bbg := bb.1
            have Hbb := Lib.hid bb
            clear bb
            clear bc0 bc1 bcg
            have bc := Hbc.out.ext hxZ
            clear Hbc
            have bc0 := bc.at0
            have bc1 := bc.at1
            have bcg := bc.1
            have Hbc := Lib.hid bc
            clear bc
            clear bd0 bd1 bdg
            have bd := Hbd.out.ext hxZ
            clear Hbd
            have bd0 := bd.at0
            have bd1 := bd.at1
            have bdg := bd.1
            have Hbd := Lib.hid bd
            clear bd
            clear be0 be1 beg
            have be := Hbe.out.ext hxZ
            clear Hbe
            have be0 := be.at0
            have be1 := be.at1
            have beg := be.1
            have Hbe := Lib.hid be
            clear be
            clear bl0 bl1 bl2 bl3 blg
            have bl := Hbl.out.ext hxZ
            clear Hbl
            have bl0 := bl.at0
            have bl1 := bl.at1
            have bl2 := bl.at2
            have bl3 := bl.at3
            have blg := bl.1
            have Hbl := Lib.hid bl
            clear bl
            clear bx0 bx1 bxg
            have bx := Hbx.out.ext hxZ
            clear Hbx
            have bx0 := bx.at0
            have bx1 := bx.at1
            have bxg := bx.1
            have Hbx := Lib.hid bx
            clear bx
            rw [Q3.out]
            have hbaf : ((an : Int) == (bn : Int)) = false := by simpa using hba
            have habf : ((bn : Int) == (an : Int)) = false := by simpa using hab
            have hban : ((an : Int) != (bn : Int)) = true := by simpa using hba
            have habn : ((bn : Int) != (an : Int)) = true := by simpa using hab
            go_wp2_with fail
            go_ret
            exact ⟨rfl, (((((((((((((((((((((((((hxN.trans hxwb2).trans hxP).trans hxQ).trans hxR).trans hxwb6).trans hxM).trans hxwb8).trans hxL).trans hxwb10).trans hxB).trans hxwb12).trans hxE).trans hxF).trans hxt1).trans hxt2).trans hxt3).trans hxr).trans hxwb19).trans hx10).trans hx12).trans hE15).trans hxX).trans hxwb24).trans hxY).trans hxZ)⟩
  · have hef : (netE b == 0) = false := by simpa using he
    go_wp2_with fail
    go_loopg [21] 0 (fun q i21 wr => i21 = .int .i64 0 ∧ Ext wt3 wr)
    case atStart => exact ⟨rfl, Ext.refl _⟩
    case round =>
      obtain ⟨rfl, hxr⟩ := hrel
      have hz18 : wt3.heap.size ≤ wr.heap.size := hxr.size
      clear ba0 ba1 bag
      have ba := Hba.out.ext hxr
      clear Hba
      have ba0 := ba.at0
      have ba1 := ba.at1
      have bag := ba.1
      have Hba := Lib.hid ba
      clear ba
      clear bb0 bb1 bbg
      have bb := Hbb.out.ext hxr
      clear Hbb
      have bb0 := bb.at0
      have bb1 := bb.at1
      have bbg := bb.1
      have Hbb := Lib.hid bb
      clear bb
      clear bc0 bc1 bcg
      have bc := Hbc.out.ext hxr
      clear Hbc
      have bc0 := bc.at0
      have bc1 := bc.at1
      have bcg := bc.1
      have Hbc := Lib.hid bc
      clear bc
      clear bd0 bd1 bdg
      have bd := Hbd.out.ext hxr
      clear Hbd
      have bd0 := bd.at0
      have bd1 := bd.at1
      have bdg := bd.1
      have Hbd := Lib.hid bd
      clear bd
      clear be0 be1 beg
      have be := Hbe.out.ext hxr
      clear Hbe
      have be0 := be.at0
      have be1 := be.at1
      have beg := be.1
      have Hbe := Lib.hid be
      clear be
      by_cases h1 : nlE a k = 0
      · obtain ⟨jk, rfl, hjk, hlk, hmk, hpo⟩ := nl_law h1
        obtain ⟨f1, f2⟩ := hpo false
        obtain ⟨t1, t2⟩ := hpo true
        have F2 := Lib.hid f2
        have T2 := Lib.hid t2
        clear f2 t2
        have hltA := hlk.lt
        have Hlk := Lib.hid hlk
        clear hpo hlk hmk
        go_wp2_with fail
        refine Calls.mono (impl_PartnerDays _ _ (nlV a (jk : Int)) (jk : Int) false _ (HM.out.up (((((((((((hxwb8.trans hxL).trans hxwb10).trans hxB).trans hxwb12).trans hxE).trans hxF).trans hxt1).trans hxt2).trans hxt3).trans hxr).trans (by repeat (first | exact Ext.refl _ | assumption | refine Ext.alloc ?_ _ | refine Ext.drew ?_ | refine Ext.drewN ?_ _ | refine Ext.setCell ?_ (by first | (simp; done) | (simp; omega) | omega) _ | refine Ext.trans ?_ (by assumption)))))) ?_
        intro e wU hp
        obtain ⟨Ua, Uc, rfl, hxU, IU⟩ := hp.plain
        clear hp
        have hz19 : wr.heap.size ≤ wU.heap.size := hxU.size
        clear ba0 ba1 bag
        have ba := Hba.out.ext hxU
        clear Hba
        have ba0 := ba.at0
        have ba1 := ba.at1
        have bag := ba.1
        have Hba := Lib.hid ba
        clear ba
        clear bb0 bb1 bbg
        have bb := Hbb.out.ext hxU
        clear Hbb
        have bb0 := bb.at0
        have bb1 := bb.at1
        have bbg := bb.1
        have Hbb := Lib.hid bb
        clear bb
        clear bc0 bc1 bcg
        have bc := Hbc.out.ext hxU
        clear Hbc
        have bc0 := bc.at0
        have bc1 := bc.at1
        have bcg := bc.1
        have Hbc := Lib.hid bc
        clear bc
        clear bd0 bd1 bdg
        have bd := Hbd.out.ext hxU
        clear Hbd
        have bd0 := bd.at0
        have bd1 := bd.at1
        have bdg := bd.1
        have Hbd := Lib.hid bd
        clear bd
        clear be0 be1 beg
        have be := Hbe.out.ext hxU
        clear Hbe
        have be0 := be.at0
        have be1 := be.at1
        have beg := be.1
        have Hbe := Lib.hid be
        clear be
        rw [f1]
        go_wp2_with fail
        refine Calls.mono (impl_PartnerDays _ _ (nlV a (jk : Int)) (jk : Int) true _ (HM.out.up ((((((((((((hxwb8.trans hxL).trans hxwb10).trans hxB).trans hxwb12).trans hxE).trans hxF).trans hxt1).trans hxt2).trans hxt3).trans hxr).trans hxU).trans (by repeat (first | exact Ext.refl _ | assumption | refine Ext.alloc ?_ _ | refine Ext.drew ?_ | refine Ext.drewN ?_ _ | refine Ext.setCell ?_ (by first | (simp; done) | (simp; omega) | omega) _ | refine Ext.trans ?_ (by assumption)))))) ?_
        intro e wV hp
        obtain ⟨Va, Vc, rfl, hxV, IV⟩ := hp.plain
        clear hp
        have hz20 : wU.heap.size ≤ wV.heap.size := hxV.size
        clear ba0 ba1 bag
        have ba := Hba.out.ext hxV
        clear Hba
        have ba0 := ba.at0
        have ba1 := ba.at1
        have bag := ba.1
        have Hba := Lib.hid ba
        clear ba
        clear bb0 bb1 bbg
        have bb := Hbb.out.ext hxV
        clear Hbb
        have bb0 := bb.at0
        have bb1 := bb.at1
        have bbg := bb.1
        have Hbb := Lib.hid bb
        clear bb
        clear bc0 bc1 bcg
        have bc := Hbc.out.ext hxV
        clear Hbc
        have bc0 := bc.at0
        have bc1 := bc.at1
        have bcg := bc.1
        have Hbc := Lib.hid bc
        clear bc
        clear bd0 bd1 bdg
        have bd := Hbd.out.ext hxV
        clear Hbd
        have bd0 := bd.at0
        have bd1 := bd.at1
        have bdg := bd.1
        have Hbd := Lib.hid bd
        clear bd
        clear be0 be1 beg
        have be := Hbe.out.ext hxV
        clear Hbe
        have be0 := be.at0
        have be1 := be.at1
        have beg := be.1
        have Hbe := Lib.hid be
        clear be
        rw [t1]
        obtain ⟨b5, o5, eM, _, hb5, d0, d1, _, _⟩ := (HM.out.up ((((((((((((hxwb8.trans hxL).trans hxwb10).trans hxB).trans hxwb12).trans hxE).trans hxF).trans hxt1).trans hxt2).trans hxt3).trans hxr).trans hxU).trans hxV)).2.at_ hjk
        have hbe0 : 0 ≤ (lkAt (nlV a (jk : Int)).links jk).be := Hlk.out.1.1
        have haf0 : 0 ≤ (lkAt (nlV a (jk : Int)).links jk).af := Hlk.out.2.1.1
        obtain ⟨bn, hbn⟩ := Int.eq_ofNat_of_zero_le hbe0
        obtain ⟨an, han⟩ := Int.eq_ofNat_of_zero_le haf0
        have eb : ownI false (lkAt (nlV a (jk : Int)).links jk) = bn := by unfold ownI; simp [hbn]
        have ea : ownI true (lkAt (nlV a (jk : Int)).links jk) = an := by unfold ownI; simp [han]
        have hbl : bn < (nlV a (jk : Int)).sets.length := by have := hltA.2; rw [hbn] at this; simpa using this
        have hal : an < (nlV a (jk : Int)).sets.length := by have := hltA.1; rw [han] at this; simpa using this
        rw [hbn] at d0
        rw [han] at d1
        obtain ⟨b6, o6, u1, eS, _, hb6, g1, hu1⟩ := (HM.out.up ((((((((((((hxwb8.trans hxL).trans hxwb10).trans hxB).trans hxwb12).trans hxE).trans hxF).trans hxt1).trans hxt2).trans hxt3).trans hxr).trans hxU).trans hxV)).1.at_ hbl
        obtain ⟨b7, o7, u2, eS2, _, hb7, g2, hu2⟩ := (HM.out.up ((((((((((((hxwb8.trans hxL).trans hxwb10).trans hxB).trans hxwb12).trans hxE).trans hxF).trans hxt1).trans hxt2).trans hxt3).trans hxr).trans hxU).trans hxV)).1.at_ hal
        rw [eS] at eS2
        injection eS2 with eS2
        injection eS2 with e7 e8
        subst e7 e8
        have IU2 := Lib.hid (show Spans wU 0 wU.heap.size (.slice Ua (pdL (nlV a (jk : Int)) (jk : Int) false).length Uc) (setAt (nlV a (jk : Int)).sets bn) from by have hh := IU.out; rw [F2.out, eb] at hh ⊢; exact hh)
        have IV2 := Lib.hid (show Spans wV 0 wV.heap.size (.slice Va (pdL (nlV a (jk : Int)) (jk : Int) true).length Vc) (setAt (nlV a (jk : Int)).sets an) from by have hh := IV.out; rw [T2.out, ea] at hh ⊢; exact hh)
        obtain ⟨U1, u1c, rfl, _⟩ := hu1.len
        obtain ⟨U2, u2c, rfl, _⟩ := hu2.len
        have Hu1 := Lib.hid hu1
        have Hu2 := Lib.hid hu2
        clear hu1 hu2 eb ea hbn han hbe0 haf0
        subst eM
        subst eS
        have i0 : (0 : Int) ≤ (jk : Int) := by omega
        have i1 : (jk : Int) < ((nlV a (jk : Int)).links.length : Int) := by omega
        have i2 : (0 : Int) ≤ (bn : Int) := by omega
        have i3 : (bn : Int) < ((nlV a (jk : Int)).sets.length : Int) := by omega
        have i4 : (0 : Int) ≤ (an : Int) := by omega
        have i5 : (an : Int) < ((nlV a (jk : Int)).sets.length : Int) := by omega
        go_wp2_with fail
        (refine wp_region_onto prog_mixed (by kernel_rfl) ?_; (repeat (go_big_quiet_step ((first | (go_at_call 54; with_reducible exact onto_callX (laws_likeSpans9 _ _ (setAt (nlV a (jk : Int)).sets bn) _ (Spans.up IU2.out (hxV.trans (onto_ext _ _))) (Spans.up Hu1.out (onto_ext _ _)))) | (go_at_call 54; with_reducible exact onto_callX (laws_likeSpans9 _ _ (setAt (nlV a (jk : Int)).sets an) _ (Spans.up IV2.out (onto_ext _ _)) (Spans.up Hu2.out (onto_ext _ _)))))))); refine onto_end ?_; intro w8 hx8)
        have hz21 : wV.heap.size ≤ w8.heap.size := hx8.size
        clear ba0 ba1 bag
        have ba := Hba.out.ext hx8
        clear Hba
        have ba0 := ba.at0
        have ba1 := ba.at1
        have bag := ba.1
        have Hba := Lib.hid ba
        clear ba
        clear bb0 bb1 bbg
        have bb := Hbb.out.ext hx8
        clear Hbb
        have bb0 := bb.at0
        have bb1 := bb.at1
        have bbg := bb.1
        have Hbb := Lib.hid bb
        clear bb
        clear bc0 bc1 bcg
        have bc := Hbc.out.ext hx8
        clear Hbc
        have bc0 := bc.at0
        have bc1 := bc.at1
        have bcg := bc.1
        have Hbc := Lib.hid bc
        clear bc
        clear bd0 bd1 bdg
        have bd := Hbd.out.ext hx8
        clear Hbd
        have bd0 := bd.at0
        have bd1 := bd.at1
        have bdg := bd.1
        have Hbd := Lib.hid bd
        clear bd
        clear be0 be1 beg
        have be := Hbe.out.ext hx8
        clear Hbe
        have be0 := be.at0
        have be1 := be.at1
        have beg := be.1
        have Hbe := Lib.hid be
        clear be
        clear d0 d1 g1 g2
        by_cases h2 : pdE n lk o = 0
        case neg =>
          have h2f : (pdE n lk o == 0) = false := by simpa using h2
          go_wp2_with fail
          go_ret
          exact ⟨rfl, (((((((((((((((((((((hxN.trans hxwb2).trans hxP).trans hxQ).trans hxR).trans hxwb6).trans hxM).trans hxwb8).trans hxL).trans hxwb10).trans hxB).trans hxwb12).trans hxE).trans hxF).trans hxt1).trans hxt2).trans hxt3).trans hxr).trans hxU).trans hxV).trans hx8).trans (by repeat (first | exact Ext.refl _ | assumption | refine Ext.alloc ?_ _ | refine Ext.drew ?_ | refine Ext.drewN ?_ _ | refine Ext.setCell ?_ (by first | (simp; done) | (simp; omega) | omega) _ | refine Ext.trans ?_ (by assumption))))⟩
        obtain ⟨j, rfl, hj, hok, hk, hpl, hlen⟩ := pd_in h2
        obtain ⟨b4, o4, eN, _, hb4, d0, d1, d2, d3⟩ := (HN.out.up ((((((((((((((((((((hxwb2.trans hxP).trans hxQ).trans hxR).trans hxwb6).trans hxM).trans hxwb8).trans hxL).trans hxwb10).trans hxB).trans hxwb12).trans hxE).trans hxF).trans hxt1).trans hxt2).trans hxt3).trans hxr).trans hxU).trans hxV).trans hx8).trans (by repeat (first | exact Ext.refl _ | assumption | refine Ext.alloc ?_ _ | refine Ext.drew ?_ | refine Ext.drewN ?_ _ | refine Ext.setCell ?_ (by first | (simp; done) | (simp; omega) | omega) _ | refine Ext.trans ?_ (by assumption))))).2.at_ hj
        subst eN
        have hj0 : (0 : Int) ≤ (j : Int) := by omega
        have hj1 : (j : Int) < (n.links.length : Int) := by omega
        have Hok := Lib.hid hok
        have Hk := Lib.hid hk
        have Hpl := Lib.hid hpl
        have Hlen := Lib.hid hlen
        have Hj := Lib.hid hj
        clear hok hk hpl hlen hj
        have hbe0 : 0 ≤ (lkAt n.links j).be := Hk.out.1.1
        have haf0 : 0 ≤ (lkAt n.links j).af := Hk.out.2.1.1
        have hltN := Hk.out.lt
        have hne := Hk.out.2.2.1
        obtain ⟨bn, hbn⟩ := Int.eq_ofNat_of_zero_le hbe0
        obtain ⟨an, han⟩ := Int.eq_ofNat_of_zero_le haf0
        rw [hbn] at d0 hne hltN
        rw [han] at d1 hne hltN
        rw [Int.toNat_natCast, Int.toNat_natCast] at hltN
        have hba : ¬ (an : Int) = (bn : Int) := fun hh => hne (by omega)
        have hab : ¬ (bn : Int) = (an : Int) := hne
        have eb : ownI false (lkAt n.links j) = bn := by unfold ownI; simp [hbn]
        have ea : ownI true (lkAt n.links j) = an := by unfold ownI; simp [han]
        have Eb := Lib.hid eb
        have Ea := Lib.hid ea
        clear hbn han hbe0 haf0 eb ea hne
        obtain ⟨hal, hbl⟩ := hltN
        cases o
        case false =>
          obtain ⟨wb22, hwb22⟩ : ∃ x : World, x = w8.alloc (.cells #[.int .i64 (bn : Int), .int .i64 (an : Int), .int .i64 (lkAt n.links j).le, .int .i64 (lkAt n.links j).mo] 60) := ⟨_, rfl⟩
          have hxwb22 : Ext w8 wb22 := by rw [hwb22]; exact (by repeat (first | exact Ext.refl _ | assumption | refine Ext.alloc ?_ _ | refine Ext.drew ?_ | refine Ext.drewN ?_ _ | refine Ext.setCell ?_ (by first | (simp; done) | (simp; omega) | omega) _ | refine Ext.trans ?_ (by assumption)))
          have Hbl := Lib.hid (show Boxed wb22 w8.heap.size [.int .i64 (bn : Int), .int .i64 (an : Int), .int .i64 (lkAt n.links j).le, .int .i64 (lkAt n.links j).mo] from by rw [hwb22]; exact Boxed.new w8 [.int .i64 (bn : Int), .int .i64 (an : Int), .int .i64 (lkAt n.links j).le, .int .i64 (lkAt n.links j).mo] 60)
          go_wp2_with fail
          rw [← hwb22]
          clear hwb22
          have hz22 : w8.heap.size ≤ wb22.heap.size := hxwb22.size
          clear ba0 ba1 bag
          have ba := Hba.out.ext hxwb22
          clear Hba
          have ba0 := ba.at0
          have ba1 := ba.at1
          have bag := ba.1
          have Hba := Lib.hid ba
          clear ba
          clear bb0 bb1 bbg
          have bb := Hbb.out.ext hxwb22
          clear Hbb
          have bb0 := bb.at0
          have bb1 := bb.at1
          have bbg := bb.1
          have Hbb := Lib.hid bb
          clear bb
          clear bc0 bc1 bcg
          have bc := Hbc.out.ext hxwb22
          clear Hbc
          have bc0 := bc.at0
          have bc1 := bc.at1
          have bcg := bc.1
          have Hbc := Lib.hid bc
          clear bc
          clear bd0 bd1 bdg
          have bd := Hbd.out.ext hxwb22
          clear Hbd
          have bd0 := bd.at0
          have bd1 := bd.at1
          have bdg := bd.1
          have Hbd := Lib.hid bd
          clear bd
          clear be0 be1 beg
          have be := Hbe.out.ext hxwb22
          clear Hbe
          have be0 := be.at0
          have be1 := be.at1
          have beg := be.1
          have Hbe := Lib.hid be
          clear be
          have bl0 := Hbl.out.at0
          have bl1 := Hbl.out.at1
          have bl2 := Hbl.out.at2
          have bl3 := Hbl.out.at3
          have blg := Hbl.out.1
          (refine wp_region_onto prog_mixed (by kernel_rfl) ?_; (repeat (go_big_quiet_step ((fail)))); refine onto_end ?_; intro w10 hx10)
          have hz23 : wb22.heap.size ≤ w10.heap.size := hx10.size
          clear ba0 ba1 bag
          have ba := Hba.out.ext hx10
          clear Hba
          have ba0 := ba.at0
          have ba1 := ba.at1
          have bag := ba.1
          have Hba := Lib.hid ba
          clear ba
          clear bb0 bb1 bbg
          have bb := Hbb.out.ext hx10
          clear Hbb
          have bb0 := bb.at0
          have bb1 := bb.at1
          have bbg := bb.1
          have Hbb := Lib.hid bb
          clear bb
          clear bc0 bc1 bcg
          have bc := Hbc.out.ext hx10
          clear Hbc
          have bc0 := bc.at0
          have bc1 := bc.at1
          have bcg := bc.1
          have Hbc := Lib.hid bc
          clear bc
          clear bd0 bd1 bdg
          have bd := Hbd.out.ext hx10
          clear Hbd
          have bd0 := bd.at0
          have bd1 := bd.at1
          have bdg := bd.1
          have Hbd := Lib.hid bd
          clear bd
          clear be0 be1 beg
          have be := Hbe.out.ext hx10
          clear Hbe
          have be0 := be.at0
          have be1 := be.at1
          have beg := be.1
          have Hbe := Lib.hid be
          clear be
          clear bl0 bl1 bl2 bl3 blg
          have bl := Hbl.out.ext hx10
          clear Hbl
          have bl0 := bl.at0
          have bl1 := bl.at1
          have bl2 := bl.at2
          have bl3 := bl.at3
          have blg := bl.1
          have Hbl := Lib.hid bl
          clear bl
          go_wp2_with fail
          (refine wp_region_onto prog_mixed (by kernel_rfl) ?_; (repeat (go_big_quiet_step ((fail)))); refine onto_end ?_; intro w11 hx11)
          have hz24 : w10.heap.size ≤ w11.heap.size := hx11.size
          clear ba0 ba1 bag
          have ba := Hba.out.ext hx11
          clear Hba
          have ba0 := ba.at0
          have ba1 := ba.at1
          have bag := ba.1
          have Hba := Lib.hid ba
          clear ba
          clear bb0 bb1 bbg
          have bb := Hbb.out.ext hx11
          clear Hbb
          have bb0 := bb.at0
          have bb1 := bb.at1
          have bbg := bb.1
          have Hbb := Lib.hid bb
          clear bb
          clear bc0 bc1 bcg
          have bc := Hbc.out.ext hx11
          clear Hbc
          have bc0 := bc.at0
          have bc1 := bc.at1
          have bcg := bc.1
          have Hbc := Lib.hid bc
          clear bc
          clear bd0 bd1 bdg
          have bd := Hbd.out.ext hx11
          clear Hbd
          have bd0 := bd.at0
          have bd1 := bd.at1
          have bdg := bd.1
          have Hbd := Lib.hid bd
          clear bd
          clear be0 be1 beg
          have be := Hbe.out.ext hx11
          clear Hbe
          have be0 := be.at0
          have be1 := be.at1
          have beg := be.1
          have Hbe := Lib.hid be
          clear be
          clear bl0 bl1 bl2 bl3 blg
          have bl := Hbl.out.ext hx11
          clear Hbl
          have bl0 := bl.at0
          have bl1 := bl.at1
          have bl2 := bl.at2
          have bl3 := bl.at3
          have blg := bl.1
          have Hbl := Lib.hid bl
          clear bl
          obtain ⟨b6, o6, u6, eS, _, hb6, g6, hu6⟩ := (HN.out.up ((((((((((((((((((((((hxwb2.trans hxP).trans hxQ).trans hxR).trans hxwb6).trans hxM).trans hxwb8).trans hxL).trans hxwb10).trans hxB).trans hxwb12).trans hxE).trans hxF).trans hxt1).trans hxt2).trans hxt3).trans hxr).trans hxU).trans hxV).trans hx8).trans hxwb22).trans hx10).trans hx11)).1.at_ (i := bn) (by omega)
          subst eS
          obtain ⟨U6, u6c, rfl, _⟩ := hu6.len
          have Hu6 := Lib.hid hu6
          clear hu6
          have hb6' : b6 < w11.heap.size := hb6
          have i6 : (0 : Int) ≤ (bn : Int) := by omega
          have i7 : (bn : Int) < (n.sets.length : Int) := by omega
          have hso := Hok.out.2.2.1 bn (by omega)
          have Hso := Lib.hid hso
          clear hso
          go_wp2_with fail
          refine Calls.mono (impl_CountDays _ (setAt n.sets bn) _ (Spans.up Hu6.out (by repeat (first | exact Ext.refl _ | assumption | refine Ext.alloc ?_ _ | refine Ext.drew ?_ | refine Ext.drewN ?_ _ | refine Ext.setCell ?_ (by first | (simp; done) | (simp; omega) | omega) _ | refine Ext.trans ?_ (by assumption))))) ?_
          rintro e w12 ⟨rfl, hx12⟩
          rw [(cd_ok Hso.out).1, (cd_ok Hso.out).2]
          have g7 := (hx12.cell (p := ⟨b6, o6 + bn, none⟩) hb6).trans g6
          clear g6
          have hz25 : w11.heap.size ≤ w12.heap.size := hx12.size
          clear ba0 ba1 bag
          have ba := Hba.out.ext hx12
          clear Hba
          have ba0 := ba.at0
          have ba1 := ba.at1
          have bag := ba.1
          have Hba := Lib.hid ba
          clear ba
          clear bb0 bb1 bbg
          have bb := Hbb.out.ext hx12
          clear Hbb
          have bb0 := bb.at0
          have bb1 := bb.at1
          have bbg := bb.1
          have Hbb := Lib.hid bb
          clear bb
          clear bc0 bc1 bcg
          have bc := Hbc.out.ext hx12
          clear Hbc
          have bc0 := bc.at0
          have bc1 := bc.at1
          have bcg := bc.1
          have Hbc := Lib.hid bc
          clear bc
          clear bd0 bd1 bdg
          have bd := Hbd.out.ext hx12
          clear Hbd
          have bd0 := bd.at0
          have bd1 := bd.at1
          have bdg := bd.1
          have Hbd := Lib.hid bd
          clear bd
          clear be0 be1 beg
          have be := Hbe.out.ext hx12
          clear Hbe
          have be0 := be.at0
          have be1 := be.at1
          have beg := be.1
          have Hbe := Lib.hid be
          clear be
          clear bl0 bl1 bl2 bl3 blg
          have bl := Hbl.out.ext hx12
          clear Hbl
          have bl0 := bl.at0
          have bl1 := bl.at1
          have bl2 := bl.at2
          have bl3 := bl.at3
          have blg := bl.1
          have Hbl := Lib.hid bl
          clear bl
          have hdb := daysTo_bd Hso.out (setAt n.sets bn).length (Nat.le_refl _)
          have hd0 : 0 ≤ days (setAt n.sets bn) := hdb.1
          clear hdb
          by_cases hc0 : days (setAt n.sets bn) = 0
          case pos =>
            go_wp2_with fail
            go_ret
            exact ⟨rfl, ((((((((((((((((((((((((hxN.trans hxwb2).trans hxP).trans hxQ).trans hxR).trans hxwb6).trans hxM).trans hxwb8).trans hxL).trans hxwb10).trans hxB).trans hxwb12).trans hxE).trans hxF).trans hxt1).trans hxt2).trans hxt3).trans hxr).trans hxU).trans hxV).trans hx8).trans hxwb22).trans hx10).trans hx11).trans hx12)⟩
          have hc1 : 1 ≤ days (setAt n.sets bn) := by omega
          have hc0f : (days (setAt n.sets bn) == 0) = false := by simpa using hc0
          have hb67 : b6 < w12.heap.size := by omega
          have Hu7 := Lib.hid (Spans.up Hu6.out hx12)
          have HB12 := Lib.hid ((H.out.ext ((((((((((((((((((((((((hxN.trans hxwb2).trans hxP).trans hxQ).trans hxR).trans hxwb6).trans hxM).trans hxwb8).trans hxL).trans hxwb10).trans hxB).trans hxwb12).trans hxE).trans hxF).trans hxt1).trans hxt2).trans hxt3).trans hxr).trans hxU).trans hxV).trans hx8).trans hxwb22).trans hx10).trans hx11).trans hx12) (Nat.le_refl _)))
          have HC12 := Lib.hid (Bytes.wide HB12.out ((((((((((((((((((((((((hxN.trans hxwb2).trans hxP).trans hxQ).trans hxR).trans hxwb6).trans hxM).trans hxwb8).trans hxL).trans hxwb10).trans hxB).trans hxwb12).trans hxE).trans hxF).trans hxt1).trans hxt2).trans hxt3).trans hxr).trans hxU).trans hxV).trans hx8).trans hxwb22).trans hx10).trans hx11).trans hx12).size)
          clear hc0
          go_wp2_with fail
          go_region_held3 (fun w' => Ext w12 w' ∧ w'.cell? ⟨wN.heap.size, 0, none⟩ = some (.slice (some ⟨b6, o6, none⟩) n.sets.length Ncs) ∧ w'.cell? ⟨wN.heap.size, 1, none⟩ = some (.slice (some ⟨b4, o4, none⟩) n.links.length Nck) ∧ w'.cell? ⟨b6, o6 + bn, none⟩ = some (.slice U6 (setAt n.sets bn).length u6c))
            (exact ext_keep (by repeat (first | assumption | exact (by assumption : Ext w12 _ ∧ _).1 | exact Ext.refl _ | refine Ext.drew ?_ | refine Ext.alloc ?_ _)) bag ba0 ba1 hb67 g7)
            (first
              | (go_at_call 57; refine Calls.mono (laws_roll cn _ _ _ (Bytes.up2 HC12.out (by assumption : Ext w12 _ ∧ _).1)) ?_; rintro e w13 ⟨bD, rfl, hbD, hx13, hD13⟩; have hE13 := (by assumption : Ext w12 _ ∧ _).1.trans hx13; have hbD0 := Nat.le_trans (by assumption : Ext w12 _ ∧ _).1.size hbD; have HD13 := Lib.hid hD13; clear hx13 hD13 hbD)
              | (go_at_call 58; refine Calls.mono (laws_below cn _ _ _ w12 _ (HC12.out.ext (by assumption : Ext w12 _ ∧ _).1 (Nat.le_refl _)) hbD0 (by assumption : Ext w12 _ ∧ _).1 HD13.out hc1) ?_; rintro e w14 ⟨r, rfl, hr0, hr1, hE14⟩)
              | (go_at_call 56; refine Calls.mono (impl_NthDay _ (setAt n.sets bn) r _ (Spans.up Hu7.out (by assumption : Ext w12 _ ∧ _).1) Hso.out hr0 hr1) ?_; rintro e w15 ⟨d, rfl, hd, hx15⟩; have hE15 := (by assumption : Ext w12 _ ∧ _).1.trans hx15; clear hx15))
          have hd12 := hd
          have hz26 : w12.heap.size ≤ w15.heap.size := hE15.size
          clear ba0 ba1 bag
          have ba := Hba.out.ext hE15
          clear Hba
          have ba0 := ba.at0
          have ba1 := ba.at1
          have bag := ba.1
          have Hba := Lib.hid ba
          clear ba
          clear bb0 bb1 bbg
          have bb := Hbb.out.ext hE15
          clear Hbb
          have bb0 := bb.at0
          have bb1 := bb.at1
          have bbg := bb.1
          have Hbb := Lib.hid bb
          clear bb
          clear bc0 bc1 bcg
          have bc := Hbc.out.ext hE15
          clear Hbc
          have bc0 := bc.at0
          have bc1 := bc.at1
          have bcg := bc.1
          have Hbc := Lib.hid bc
          clear bc
          clear bd0 bd1 bdg
          have bd := Hbd.out.ext hE15
          clear Hbd
          have bd0 := bd.at0
          have bd1 := bd.at1
          have bdg := bd.1
          have Hbd := Lib.hid bd
          clear bd
          clear be0 be1 beg
          have be := Hbe.out.ext hE15
          clear Hbe
          have be0 := be.at0
          have be1 := be.at1
          have beg := be.1
          have Hbe := Lib.hid be
          clear be
          clear bl0 bl1 bl2 bl3 blg
          have bl := Hbl.out.ext hE15
          clear Hbl
          have bl0 := bl.at0
          have bl1 := bl.at1
          have bl2 := bl.at2
          have bl3 := bl.at3
          have blg := bl.1
          have Hbl := Lib.hid bl
          clear bl
          obtain ⟨q1, q2, q3, q4⟩ := pd_law (o := false) (d := d) Hj.out Hok.out Hk.out Hpl.out Hlen.out (by rw [Eb.out]; exact hd)
          rw [Eb.out] at q1 q3 q4
          rw [Bool.not_false] at q3 q4
          have Q1 := Lib.hid q1
          have Q2 := Lib.hid q2
          have Q3 := Lib.hid q3
          have Q4 := Lib.hid q4
          clear q1 q2 q3 q4 hd hd12 hd0 hc1 hc0f hr0 hr1 g7
          go_wp2_with fail
          refine Calls.mono (impl_FixDay _ _ n (bn : Int) d _ (HN.out.up (((((((((((((((((((((((((hxwb2.trans hxP).trans hxQ).trans hxR).trans hxwb6).trans hxM).trans hxwb8).trans hxL).trans hxwb10).trans hxB).trans hxwb12).trans hxE).trans hxF).trans hxt1).trans hxt2).trans hxt3).trans hxr).trans hxU).trans hxV).trans hx8).trans hxwb22).trans hx10).trans hx11).trans hx12).trans hE15).trans (by repeat (first | exact Ext.refl _ | assumption | refine Ext.alloc ?_ _ | refine Ext.drew ?_ | refine Ext.drewN ?_ _ | refine Ext.setCell ?_ (by first | (simp; done) | (simp; omega) | omega) _ | refine Ext.trans ?_ (by assumption)))))) ?_
          intro e wX hp
          obtain ⟨Xs, Xcs, Xk, Xck, rfl, hxX, HX⟩ := hp.plain
          clear hp
          rw [Q1.out]
          have hz27 : w15.heap.size ≤ wX.heap.size := hxX.size
          clear ba0 ba1 bag
          have ba := Hba.out.ext hxX
          clear Hba
          have ba0 := ba.at0
          have ba1 := ba.at1
          have bag := ba.1
          have Hba := Lib.hid ba
          clear ba
          clear bb0 bb1 bbg
          have bb := Hbb.out.ext hxX
          clear Hbb
          have bb0 := bb.at0
          have bb1 := bb.at1
          have bbg := bb.1
          have Hbb := Lib.hid bb
          clear bb
          clear bc0 bc1 bcg
          have bc := Hbc.out.ext hxX
          clear Hbc
          have bc0 := bc.at0
          have bc1 := bc.at1
          have bcg := bc.1
          have Hbc := Lib.hid bc
          clear bc
          clear bd0 bd1 bdg
          have bd := Hbd.out.ext hxX
          clear Hbd
          have bd0 := bd.at0
          have bd1 := bd.at1
          have bdg := bd.1
          have Hbd := Lib.hid bd
          clear bd
          clear be0 be1 beg
          have be := Hbe.out.ext hxX
          clear Hbe
          have be0 := be.at0
          have be1 := be.at1
          have beg := be.1
          have Hbe := Lib.hid be
          clear be
          clear bl0 bl1 bl2 bl3 blg
          have bl := Hbl.out.ext hxX
          clear Hbl
          have bl0 := bl.at0
          have bl1 := bl.at1
          have bl2 := bl.at2
          have bl3 := bl.at3
          have blg := bl.1
          have Hbl := Lib.hid bl
          clear bl
          obtain ⟨wb28, hwb28⟩ : ∃ x : World, x = wX.alloc (.cells #[.slice Xs (fixV n (bn : Int) d).sets.length Xcs, .slice Xk (fixV n (bn : Int) d).links.length Xck] 27) := ⟨_, rfl⟩
          have hxwb28 : Ext wX wb28 := by rw [hwb28]; exact (by repeat (first | exact Ext.refl _ | assumption | refine Ext.alloc ?_ _ | refine Ext.drew ?_ | refine Ext.drewN ?_ _ | refine Ext.setCell ?_ (by first | (simp; done) | (simp; omega) | omega) _ | refine Ext.trans ?_ (by assumption)))
          have Hbx := Lib.hid (show Boxed wb28 wX.heap.size [.slice Xs (fixV n (bn : Int) d).sets.length Xcs, .slice Xk (fixV n (bn : Int) d).links.length Xck] from by rw [hwb28]; exact Boxed.new wX [.slice Xs (fixV n (bn : Int) d).sets.length Xcs, .slice Xk (fixV n (bn : Int) d).links.length Xck] 27)
          go_wp2_with fail
          rw [← hwb28]
          clear hwb28
          have hz28 : wX.heap.size ≤ wb28.heap.size := hxwb28.size
          clear ba0 ba1 bag
          have ba := Hba.out.ext hxwb28
          clear Hba
          have ba0 := ba.at0
          have ba1 := ba.at1
          have bag := ba.1
          have Hba := Lib.hid ba
          clear ba
          clear bb0 bb1 bbg
          have bb := Hbb.out.ext hxwb28
          clear Hbb
          have bb0 := bb.at0
          have bb1 := bb.at1
          have bbg := bb.1
          have Hbb := Lib.hid bb
          clear bb
          clear bc0 bc1 bcg
          have bc := Hbc.out.ext hxwb28
          clear Hbc
          have bc0 := bc.at0
          have bc1 := bc.at1
          have bcg := bc.1
          have Hbc := Lib.hid bc
          clear bc
          clear bd0 bd1 bdg
          have bd := Hbd.out.ext hxwb28
          clear Hbd
          have bd0 := bd.at0
          have bd1 := bd.at1
          have bdg := bd.1
          have Hbd := Lib.hid bd
          clear bd
          clear be0 be1 beg
          have be := Hbe.out.ext hxwb28
          clear Hbe
          have be0 := be.at0
          have be1 := be.at1
          have beg := be.1
          have Hbe := Lib.hid be
          clear be
          clear bl0 bl1 bl2 bl3 blg
          have bl := Hbl.out.ext hxwb28
          clear Hbl
          have bl0 := bl.at0
          have bl1 := bl.at1
          have bl2 := bl.at2
          have bl3 := bl.at3
          have blg := bl.1
          have Hbl := Lib.hid bl
          clear bl
          have bx0 := Hbx.out.at0
          have bx1 := Hbx.out.at1
          have bxg := Hbx.out.1
          refine Calls.mono (impl_HasDay _ (pdL n (j : Int) false) d _ (Spans.up IP.out (((((((((((((((((((((((((hxQ.trans hxR).trans hxwb6).trans hxM).trans hxwb8).trans hxL).trans hxwb10).trans hxB).trans hxwb12).trans hxE).trans hxF).trans hxt1).trans hxt2).trans hxt3).trans hxr).trans hxU).trans hxV).trans hx8).trans hxwb22).trans hx10).trans hx11).trans hx12).trans hE15).trans hxX).trans hxwb28).trans (by repeat (first | exact Ext.refl _ | assumption | refine Ext.alloc ?_ _ | refine Ext.drew ?_ | refine Ext.drewN ?_ _ | refine Ext.setCell ?_ (by first | (simp; done) | (simp; omega) | omega) _ | refine Ext.trans ?_ (by assumption)))))) ?_
          rintro e wY ⟨rfl, hxY⟩
          rw [Q2.out, Q4.out]
          have hz29 : wb28.heap.size ≤ wY.heap.size := hxY.size
          clear ba0 ba1 bag
          have ba := Hba.out.ext hxY
          clear Hba
          have ba0 := ba.at0
          have ba1 := ba.at1
          have bag := ba.1
          have Hba := Lib.hid ba
          clear ba
          clear bb0 bb1 bbg
          have bb := Hbb.out.ext hxY
          clear Hbb
          have bb0 := bb.at0
          have bb1 := bb.at1
          have bbg := bb.1
          have Hbb := Lib.hid bb
          clear bb
          clear bc0 bc1 bcg
          have bc := Hbc.out.ext hxY
          clear Hbc
          have bc0 := bc.at0
          have bc1 := bc.at1
          have bcg := bc.1
          have Hbc := Lib.hid bc
          clear bc
          clear bd0 bd1 bdg
          have bd := Hbd.out.ext hxY
          clear Hbd
          have bd0 := bd.at0
          have bd1 := bd.at1
          have bdg := bd.1
          have Hbd := Lib.hid bd
          clear bd
          clear be0 be1 beg
          have be := Hbe.out.ext hxY
          clear Hbe
          have be0 := be.at0
          have be1 := be.at1
          have beg := be.1
          have Hbe := Lib.hid be
          clear be
          clear bl0 bl1 bl2 bl3 blg
          have bl := Hbl.out.ext hxY
          clear Hbl
          have bl0 := bl.at0
          have bl1 := bl.at1
          have bl2 := bl.at2
          have bl3 := bl.at3
          have blg := bl.1
          have Hbl := Lib.hid bl
          clear bl
          clear bx0 bx1 bxg
          have bx := Hbx.out.ext hxY
          clear Hbx
          have bx0 := bx.at0
          have bx1 := bx.at1
          have bxg := bx.1
          have Hbx := Lib.hid bx
          clear bx
          go_wp2_with fail
          refine Calls.mono (impl_PartnerDays _ _ (fixV n (bn : Int) d) (j : Int) true _ (HX.out.up ((hxwb28.trans hxY).trans (by repeat (first | exact Ext.refl _ | assumption | refine Ext.alloc ?_ _ | refine Ext.drew ?_ | refine Ext.drewN ?_ _ | refine Ext.setCell ?_ (by first | (simp; done) | (simp; omega) | omega) _ | refine Ext.trans ?_ (by assumption)))))) ?_
          intro e wZ hp
          obtain ⟨Za, Zc, rfl, hxZ, IZ⟩ := hp.plain
          clear hp
          have hz30 : wY.heap.size ≤ wZ.heap.size := hxZ.size
          clear ba0 ba1 bag
          have ba := Hba.out.ext hxZ
          clear Hba
          have ba0 := ba.at0
          have ba1 := ba.at1
          have bag := ba.1
          have Hba := Lib.hid ba
          clear ba
          clear bb0 bb1 bbg
          have bb := Hbb.out.ext hxZ
          clear Hbb
          have bb0 := bb.at0
          have bb1 := bb.at1
          have bbg := bb.1
          have Hbb := Lib.hid bb
          clear bb
          clear bc0 bc1 bcg
          have bc := Hbc.out.ext hxZ
          clear Hbc
          have bc0 := bc.at0
          have bc1 := bc.at1
          have bcg := bc.1
          have Hbc := Lib.hid bc
          clear bc
          clear bd0 bd1 bdg
          have bd := Hbd.out.ext hxZ
          clear Hbd
          have bd0 := bd.at0
          have bd1 := bd.at1
          have bdg := bd.1
          have Hbd := Lib.hid bd
          clear bd
          clear be0 be1 beg
          have be := Hbe.out.ext hxZ
          clear Hbe
          have be0 := be.at0
          have be1 := be.at1
          have beg := be.1
          have Hbe := Lib.hid be
          clear be
          clear bl0 bl1 bl2 bl3 blg
          have bl := Hbl.out.ext hxZ
          clear Hbl
          have bl0 := bl.at0
          have bl1 := bl.at1
          have bl2 := bl.at2
          have bl3 := bl.at3
          have blg := bl.1
          have Hbl := Lib.hid bl
          clear bl
          clear bx0 bx1 bxg
          have bx := Hbx.out.ext hxZ
          clear Hbx
          have bx0 := bx.at0
          have bx1 := bx.at1
          have bxg := bx.1
          have Hbx := Lib.hid bx
          clear bx
          rw [Q3.out]
          have hbaf : ((an : Int) == (bn : Int)) = false := by simpa using hba
          have habf : ((bn : Int) == (an : Int)) = false := by simpa using hab
          have hban : ((an : Int) != (bn : Int)) = true := by simpa using hba
          have habn : ((bn : Int) != (an : Int)) = true := by simpa using hab
          go_wp2_with fail
          go_ret
          exact ⟨rfl, (((((((((((((((((((((((((((((hxN.trans hxwb2).trans hxP).trans hxQ).trans hxR).trans hxwb6).trans hxM).trans hxwb8).trans hxL).trans hxwb10).trans hxB).trans hxwb12).trans hxE).trans hxF).trans hxt1).trans hxt2).trans hxt3).trans hxr).trans hxU).trans hxV).trans hx8).trans hxwb22).trans hx10).trans hx11).trans hx12).trans hE15).trans hxX).trans hxwb28).trans hxY).trans hxZ)⟩
        case true =>
          obtain ⟨wb22, hwb22⟩ : ∃ x : World, x = w8.alloc (.cells #[.int .i64 (bn : Int), .int .i64 (an : Int), .int .i64 (lkAt n.links j).le, .int .i64 (lkAt n.links j).mo] 60) := ⟨_, rfl⟩
          have hxwb22 : Ext w8 wb22 := by rw [hwb22]; exact (by repeat (first | exact Ext.refl _ | assumption | refine Ext.alloc ?_ _ | refine Ext.drew ?_ | refine Ext.drewN ?_ _ | refine Ext.setCell ?_ (by first | (simp; done) | (simp; omega) | omega) _ | refine Ext.trans ?_ (by assumption)))
          have Hbl := Lib.hid (show Boxed wb22 w8.heap.size [.int .i64 (bn : Int), .int .i64 (an : Int), .int .i64 (lkAt n.links j).le, .int .i64 (lkAt n.links j).mo] from by rw [hwb22]; exact Boxed.new w8 [.int .i64 (bn : Int), .int .i64 (an : Int), .int .i64 (lkAt n.links j).le, .int .i64 (lkAt n.links j).mo] 60)
          go_wp2_with fail
          rw [← hwb22]
          clear hwb22
          have hz22 : w8.heap.size ≤ wb22.heap.size := hxwb22.size
          clear ba0 ba1 bag
          have ba := Hba.out.ext hxwb22
          clear Hba
          have ba0 := ba.at0
          have ba1 := ba.at1
          have bag := ba.1
          have Hba := Lib.hid ba
          clear ba
          clear bb0 bb1 bbg
          have bb := Hbb.out.ext hxwb22
          clear Hbb
          have bb0 := bb.at0
          have bb1 := bb.at1
          have bbg := bb.1
          have Hbb := Lib.hid bb
          clear bb
          clear bc0 bc1 bcg
          have bc := Hbc.out.ext hxwb22
          clear Hbc
          have bc0 := bc.at0
          have bc1 := bc.at1
          have bcg := bc.1
          have Hbc := Lib.hid bc
          clear bc
          clear bd0 bd1 bdg
          have bd := Hbd.out.ext hxwb22
          clear Hbd
          have bd0 := bd.at0
          have bd1 := bd.at1
          have bdg := bd.1
          have Hbd := Lib.hid bd
          clear bd
          clear be0 be1 beg
          have be := Hbe.out.ext hxwb22
          clear Hbe
          have be0 := be.at0
          have be1 := be.at1
          have beg := be.1
          have Hbe := Lib.hid be
          clear be
          have bl0 := Hbl.out.at0
          have bl1 := Hbl.out.at1
          have bl2 := Hbl.out.at2
          have bl3 := Hbl.out.at3
          have blg := Hbl.out.1
          (refine wp_region_onto prog_mixed (by kernel_rfl) ?_; (repeat (go_big_quiet_step ((fail)))); refine onto_end ?_; intro w10 hx10)
          have hz23 : wb22.heap.size ≤ w10.heap.size := hx10.size
          clear ba0 ba1 bag
          have ba := Hba.out.ext hx10
          clear Hba
          have ba0 := ba.at0
          have ba1 := ba.at1
          have bag := ba.1
          have Hba := Lib.hid ba
          clear ba
          clear bb0 bb1 bbg
          have bb := Hbb.out.ext hx10
          clear Hbb
          have bb0 := bb.at0
          have bb1 := bb.at1
          have bbg := bb.1
          have Hbb := Lib.hid bb
          clear bb
          clear bc0 bc1 bcg
          have bc := Hbc.out.ext hx10
          clear Hbc
          have bc0 := bc.at0
          have bc1 := bc.at1
          have bcg := bc.1
          have Hbc := Lib.hid bc
          clear bc
          clear bd0 bd1 bdg
          have bd := Hbd.out.ext hx10
          clear Hbd
          have bd0 := bd.at0
          have bd1 := bd.at1
          have bdg := bd.1
          have Hbd := Lib.hid bd
          clear bd
          clear be0 be1 beg
          have be := Hbe.out.ext hx10
          clear Hbe
          have be0 := be.at0
          have be1 := be.at1
          have beg := be.1
          have Hbe := Lib.hid be
          clear be
          clear bl0 bl1 bl2 bl3 blg
          have bl := Hbl.out.ext hx10
          clear Hbl
          have bl0 := bl.at0
          have bl1 := bl.at1
          have bl2 := bl.at2
          have bl3 := bl.at3
          have blg := bl.1
          have Hbl := Lib.hid bl
          clear bl
          obtain ⟨b6, o6, u6, eS, _, hb6, g6, hu6⟩ := (HN.out.up (((((((((((((((((((((hxwb2.trans hxP).trans hxQ).trans hxR).trans hxwb6).trans hxM).trans hxwb8).trans hxL).trans hxwb10).trans hxB).trans hxwb12).trans hxE).trans hxF).trans hxt1).trans hxt2).trans hxt3).trans hxr).trans hxU).trans hxV).trans hx8).trans hxwb22).trans hx10)).1.at_ (i := an) (by omega)
          subst eS
          obtain ⟨U6, u6c, rfl, _⟩ := hu6.len
          have Hu6 := Lib.hid hu6
          clear hu6
          have hb6' : b6 < w10.heap.size := hb6
          have i6 : (0 : Int) ≤ (an : Int) := by omega
          have i7 : (an : Int) < (n.sets.length : Int) := by omega
          have hso := Hok.out.2.2.1 an (by omega)
          have Hso := Lib.hid hso
          clear hso
          go_wp2_with fail
          refine Calls.mono (impl_CountDays _ (setAt n.sets an) _ (Spans.up Hu6.out (by repeat (first | exact Ext.refl _ | assumption | refine Ext.alloc ?_ _ | refine Ext.drew ?_ | refine Ext.drewN ?_ _ | refine Ext.setCell ?_ (by first | (simp; done) | (simp; omega) | omega) _ | refine Ext.trans ?_ (by assumption))))) ?_
          rintro e w12 ⟨rfl, hx12⟩
          rw [(cd_ok Hso.out).1, (cd_ok Hso.out).2]
          have g7 := (hx12.cell (p := ⟨b6, o6 + an, none⟩) hb6).trans g6
          clear g6
          have hz24 : w10.heap.size ≤ w12.heap.size := hx12.size
          clear ba0 ba1 bag
          have ba := Hba.out.ext hx12
          clear Hba
          have ba0 := ba.at0
          have ba1 := ba.at1
          have bag := ba.1
          have Hba := Lib.hid ba
          clear ba
          clear bb0 bb1 bbg
          have bb := Hbb.out.ext hx12
          clear Hbb
          have bb0 := bb.at0
          have bb1 := bb.at1
          have bbg := bb.1
          have Hbb := Lib.hid bb
          clear bb
          clear bc0 bc1 bcg
          have bc := Hbc.out.ext hx12
          clear Hbc
          have bc0 := bc.at0
          have bc1 := bc.at1
          have bcg := bc.1
          have Hbc := Lib.hid bc
          clear bc
          clear bd0 bd1 bdg
          have bd := Hbd.out.ext hx12
          clear Hbd
          have bd0 := bd.at0
          have bd1 := bd.at1
          have bdg := bd.1
          have Hbd := Lib.hid bd
          clear bd
          clear be0 be1 beg
          have be := Hbe.out.ext hx12
          clear Hbe
          have be0 := be.at0
          have be1 := be.at1
          have beg := be.1
          have Hbe := Lib.hid be
          clear be
          clear bl0 bl1 bl2 bl3 blg
          have bl := Hbl.out.ext hx12
          clear Hbl
          have bl0 := bl.at0
          have bl1 := bl.at1
          have bl2 := bl.at2
          have bl3 := bl.at3
          have blg := bl.1
          have Hbl := Lib.hid bl
          clear bl
          have hdb := daysTo_bd Hso.out (setAt n.sets an).length (Nat.le_refl _)
          have hd0 : 0 ≤ days (setAt n.sets an) := hdb.1
          clear hdb
          by_cases hc0 : days (setAt n.sets an) = 0
          case pos =>
            go_wp2_with fail
            go_ret
            exact ⟨rfl, (((((((((((((((((((((((hxN.trans hxwb2).trans hxP).trans hxQ).trans hxR).trans hxwb6).trans hxM).trans hxwb8).trans hxL).trans hxwb10).trans hxB).trans hxwb12).trans hxE).trans hxF).trans hxt1).trans hxt2).trans hxt3).trans hxr).trans hxU).trans hxV).trans hx8).trans hxwb22).trans hx10).trans hx12)⟩
          have hc1 : 1 ≤ days (setAt n.sets an) := by omega
          have hc0f : (days (setAt n.sets an) == 0) = false := by simpa using hc0
          have hb67 : b6 < w12.heap.size := by omega
          have Hu7 := Lib.hid (Spans.up Hu6.out hx12)
          have HB12 := Lib.hid ((H.out.ext (((((((((((((((((((((((hxN.trans hxwb2).trans hxP).trans hxQ).trans hxR).trans hxwb6).trans hxM).trans hxwb8).trans hxL).trans hxwb10).trans hxB).trans hxwb12).trans hxE).trans hxF).trans hxt1).trans hxt2).trans hxt3).trans hxr).trans hxU).trans hxV).trans hx8).trans hxwb22).trans hx10).trans hx12) (Nat.le_refl _)))
          have HC12 := Lib.hid (Bytes.wide HB12.out (((((((((((((((((((((((hxN.trans hxwb2).trans hxP).trans hxQ).trans hxR).trans hxwb6).trans hxM).trans hxwb8).trans hxL).trans hxwb10).trans hxB).trans hxwb12).trans hxE).trans hxF).trans hxt1).trans hxt2).trans hxt3).trans hxr).trans hxU).trans hxV).trans hx8).trans hxwb22).trans hx10).trans hx12).size)
          clear hc0
          go_wp2_with fail
          go_region_held3 (fun w' => Ext w12 w' ∧ w'.cell? ⟨wN.heap.size, 0, none⟩ = some (.slice (some ⟨b6, o6, none⟩) n.sets.length Ncs) ∧ w'.cell? ⟨wN.heap.size, 1, none⟩ = some (.slice (some ⟨b4, o4, none⟩) n.links.length Nck) ∧ w'.cell? ⟨b6, o6 + an, none⟩ = some (.slice U6 (setAt n.sets an).length u6c))
            (exact ext_keep (by repeat (first | assumption | exact (by assumption : Ext w12 _ ∧ _).1 | exact Ext.refl _ | refine Ext.drew ?_ | refine Ext.alloc ?_ _)) bag ba0 ba1 hb67 g7)
            (first
              | (go_at_call 57; refine Calls.mono (laws_roll cn _ _ _ (Bytes.up2 HC12.out (by assumption : Ext w12 _ ∧ _).1)) ?_; rintro e w13 ⟨bD, rfl, hbD, hx13, hD13⟩; have hE13 := (by assumption : Ext w12 _ ∧ _).1.trans hx13; have hbD0 := Nat.le_trans (by assumption : Ext w12 _ ∧ _).1.size hbD; have HD13 := Lib.hid hD13; clear hx13 hD13 hbD)
              | (go_at_call 58; refine Calls.mono (laws_below cn _ _ _ w12 _ (HC12.out.ext (by assumption : Ext w12 _ ∧ _).1 (Nat.le_refl _)) hbD0 (by assumption : Ext w12 _ ∧ _).1 HD13.out hc1) ?_; rintro e w14 ⟨r, rfl, hr0, hr1, hE14⟩)
              | (go_at_call 56; refine Calls.mono (impl_NthDay _ (setAt n.sets an) r _ (Spans.up Hu7.out (by assumption : Ext w12 _ ∧ _).1) Hso.out hr0 hr1) ?_; rintro e w15 ⟨d, rfl, hd, hx15⟩; have hE15 := (by assumption : Ext w12 _ ∧ _).1.trans hx15; clear hx15))
          have hd12 := hd
          have hz25 : w12.heap.size ≤ w15.heap.size := hE15.size
          clear ba0 ba1 bag
          have ba := Hba.out.ext hE15
          clear Hba
          have ba0 := ba.at0
          have ba1 := ba.at1
          have bag := ba.1
          have Hba := Lib.hid ba
          clear ba
          clear bb0 bb1 bbg
          have bb := Hbb.out.ext hE15
          clear Hbb
          have bb0 := bb.at0
          have bb1 := bb.at1
          have bbg := bb.1
          have Hbb := Lib.hid bb
          clear bb
          clear bc0 bc1 bcg
          have bc := Hbc.out.ext hE15
          clear Hbc
          have bc0 := bc.at0
          have bc1 := bc.at1
          have bcg := bc.1
          have Hbc := Lib.hid bc
          clear bc
          clear bd0 bd1 bdg
          have bd := Hbd.out.ext hE15
          clear Hbd
          have bd0 := bd.at0
          have bd1 := bd.at1
          have bdg := bd.1
          have Hbd := Lib.hid bd
          clear bd
          clear be0 be1 beg
          have be := Hbe.out.ext hE15
          clear Hbe
          have be0 := be.at0
          have be1 := be.at1
          have beg := be.1
          have Hbe := Lib.hid be
          clear be
          clear bl0 bl1 bl2 bl3 blg
          have bl := Hbl.out.ext hE15
          clear Hbl
          have bl0 := bl.at0
          have bl1 := bl.at1
          have bl2 := bl.at2
          have bl3 := bl.at3
          have blg := bl.1
          have Hbl := Lib.hid bl
          clear bl
          obtain ⟨q1, q2, q3, q4⟩ := pd_law (o := true) (d := d) Hj.out Hok.out Hk.out Hpl.out Hlen.out (by rw [Ea.out]; exact hd)
          rw [Ea.out] at q1 q3 q4
          rw [Bool.not_true] at q3 q4
          have Q1 := Lib.hid q1
          have Q2 := Lib.hid q2
          have Q3 := Lib.hid q3
          have Q4 := Lib.hid q4
          clear q1 q2 q3 q4 hd hd12 hd0 hc1 hc0f hr0 hr1 g7
          go_wp2_with fail
          refine Calls.mono (impl_FixDay _ _ n (an : Int) d _ (HN.out.up ((((((((((((((((((((((((hxwb2.trans hxP).trans hxQ).trans hxR).trans hxwb6).trans hxM).trans hxwb8).trans hxL).trans hxwb10).trans hxB).trans hxwb12).trans hxE).trans hxF).trans hxt1).trans hxt2).trans hxt3).trans hxr).trans hxU).trans hxV).trans hx8).trans hxwb22).trans hx10).trans hx12).trans hE15).trans (by repeat (first | exact Ext.refl _ | assumption | refine Ext.alloc ?_ _ | refine Ext.drew ?_ | refine Ext.drewN ?_ _ | refine Ext.setCell ?_ (by first | (simp; done) | (simp; omega) | omega) _ | refine Ext.trans ?_ (by assumption)))))) ?_
          intro e wX hp
          obtain ⟨Xs, Xcs, Xk, Xck, rfl, hxX, HX⟩ := hp.plain
          clear hp
          rw [Q1.out]
          have hz26 : w15.heap.size ≤ wX.heap.size := hxX.size
          clear ba0 ba1 bag
          have ba := Hba.out.ext hxX
          clear Hba
          have ba0 := ba.at0
          have ba1 := ba.at1
          have bag := ba.1
          have Hba := Lib.hid ba
          clear ba
          clear bb0 bb1 bbg
          have bb := Hbb.out.ext hxX
          clear Hbb
          have bb0 := bb.at0
          have bb1 := bb.at1
          have bbg := bb.1
          have Hbb := Lib.hid bb
          clear bb
          clear bc0 bc1 bcg
          have bc := Hbc.out.ext hxX
          clear Hbc
          have bc0 := bc.at0
          have bc1 := bc.at1
          have bcg := bc.1
          have Hbc := Lib.hid bc
          clear bc
          clear bd0 bd1 bdg
          have bd := Hbd.out.ext hxX
          clear Hbd
          have bd0 := bd.at0
          have bd1 := bd.at1
          have bdg := bd.1
          have Hbd := Lib.hid bd
          clear bd
          clear be0 be1 beg
          have be := Hbe.out.ext hxX
          clear Hbe
          have be0 := be.at0
          have be1 := be.at1
          have beg := be.1
          have Hbe := Lib.hid be
          clear be
          clear bl0 bl1 bl2 bl3 blg
          have bl := Hbl.out.ext hxX
          clear Hbl
          have bl0 := bl.at0
          have bl1 := bl.at1
          have bl2 := bl.at2
          have bl3 := bl.at3
          have blg := bl.1
          have Hbl := Lib.hid bl
          clear bl
          obtain ⟨wb27, hwb27⟩ : ∃ x : World, x = wX.alloc (.cells #[.slice Xs (fixV n (an : Int) d).sets.length Xcs, .slice Xk (fixV n (an : Int) d).links.length Xck] 27) := ⟨_, rfl⟩
          have hxwb27 : Ext wX wb27 := by rw [hwb27]; exact (by repeat (first | exact Ext.refl _ | assumption | refine Ext.alloc ?_ _ | refine Ext.drew ?_ | refine Ext.drewN ?_ _ | refine Ext.setCell ?_ (by first | (simp; done) | (simp; omega) | omega) _ | refine Ext.trans ?_ (by assumption)))
          have Hbx := Lib.hid (show Boxed wb27 wX.heap.size [.slice Xs (fixV n (an : Int) d).sets.length Xcs, .slice Xk (fixV n (an : Int) d).links.length Xck] from by rw [hwb27]; exact Boxed.new wX [.slice Xs (fixV n (an : Int) d).sets.length Xcs, .slice Xk (fixV n (an : Int) d).links.length Xck] 27)
          go_wp2_with fail
          rw [← hwb27]
          clear hwb27
          have hz27 : wX.heap.size ≤ wb27.heap.size := hxwb27.size
          clear ba0 ba1 bag
          have ba := Hba.out.ext hxwb27
          clear Hba
          have ba0 := ba.at0
          have ba1 := ba.at1
          have bag := ba.1
          have Hba := Lib.hid ba
          clear ba
          clear bb0 bb1 bbg
          have bb := Hbb.out.ext hxwb27
          clear Hbb
          have bb0 := bb.at0
          have bb1 := bb.at1
          have bbg := bb.1
          have Hbb := Lib.hid bb
          clear bb
          clear bc0 bc1 bcg
          have bc := Hbc.out.ext hxwb27
          clear Hbc
          have bc0 := bc.at0
          have bc1 := bc.at1
          have bcg := bc.1
          have Hbc := Lib.hid bc
          clear bc
          clear bd0 bd1 bdg
          have bd := Hbd.out.ext hxwb27
          clear Hbd
          have bd0 := bd.at0
          have bd1 := bd.at1
          have bdg := bd.1
          have Hbd := Lib.hid bd
          clear bd
          clear be0 be1 beg
          have be := Hbe.out.ext hxwb27
          clear Hbe
          have be0 := be.at0
          have be1 := be.at1
          have beg := be.1
          have Hbe := Lib.hid be
          clear be
          clear bl0 bl1 bl2 bl3 blg
          have bl := Hbl.out.ext hxwb27
          clear Hbl
          have bl0 := bl.at0
          have bl1 := bl.at1
          have bl2 := bl.at2
          have bl3 := bl.at3
          have blg := bl.1
          have Hbl := Lib.hid bl
          clear bl
          have bx0 := Hbx.out.at0
          have bx1 := Hbx.out.at1
          have bxg := Hbx.out.1
          refine Calls.mono (impl_HasDay _ (pdL n (j : Int) true) d _ (Spans.up IP.out ((((((((((((((((((((((((hxQ.trans hxR).trans hxwb6).trans hxM).trans hxwb8).trans hxL).trans hxwb10).trans hxB).trans hxwb12).trans hxE).trans hxF).trans hxt1).trans hxt2).trans hxt3).trans hxr).trans hxU).trans hxV).trans hx8).trans hxwb22).trans hx10).trans hx12).trans hE15).trans hxX).trans hxwb27).trans (by repeat (first | exact Ext.refl _ | assumption | refine Ext.alloc ?_ _ | refine Ext.drew ?_ | refine Ext.drewN ?_ _ | refine Ext.setCell ?_ (by first | (simp; done) | (simp; omega) | omega) _ | refine Ext.trans ?_ (by assumption)))))) ?_
          rintro e wY ⟨rfl, hxY⟩
          rw [Q2.out, Q4.out]
          have hz28 : wb27.heap.size ≤ wY.heap.size := hxY.size
          clear ba0 ba1 bag
          have ba := Hba.out.ext hxY
          clear Hba
          have ba0 := ba.at0
          have ba1 := ba.at1
          have bag := ba.1
          have Hba := Lib.hid ba
          clear ba
          clear bb0 bb1 bbg
          have bb := Hbb.out.ext hxY
          clear Hbb
          have bb0 := bb.at0
          have bb1 := bb.at1
          have bbg := bb.1
          have Hbb := Lib.hid bb
          clear bb
          clear bc0 bc1 bcg
          have bc := Hbc.out.ext hxY
          clear Hbc
          have bc0 := bc.at0
          have bc1 := bc.at1
          have bcg := bc.1
          have Hbc := Lib.hid bc
          clear bc
          clear bd0 bd1 bdg
          have bd := Hbd.out.ext hxY
          clear Hbd
          have bd0 := bd.at0
          have bd1 := bd.at1
          have bdg := bd.1
          have Hbd := Lib.hid bd
          clear bd
          clear be0 be1 beg
          have be := Hbe.out.ext hxY
          clear Hbe
          have be0 := be.at0
          have be1 := be.at1
          have beg := be.1
          have Hbe := Lib.hid be
          clear be
          clear bl0 bl1 bl2 bl3 blg
          have bl := Hbl.out.ext hxY
          clear Hbl
          have bl0 := bl.at0
          have bl1 := bl.at1
          have bl2 := bl.at2
          have bl3 := bl.at3
          have blg := bl.1
          have Hbl := Lib.hid bl
          clear bl
          clear bx0 bx1 bxg
          have bx := Hbx.out.ext hxY
          clear Hbx
          have bx0 := bx.at0
          have bx1 := bx.at1
          have bxg := bx.1
          have Hbx := Lib.hid bx
          clear bx
          go_wp2_with fail
          refine Calls.mono (impl_PartnerDays _ _ (fixV n (an : Int) d) (j : Int) false _ (HX.out.up ((hxwb27.trans hxY).trans (by repeat (first | exact Ext.refl _ | assumption | refine Ext.alloc ?_ _ | refine Ext.drew ?_ | refine Ext.drewN ?_ _ | refine Ext.setCell ?_ (by first | (simp; done) | (simp; omega) | omega) _ | refine Ext.trans ?_ (by assumption)))))) ?_
          intro e wZ hp
          obtain ⟨Za, Zc, rfl, hxZ, IZ⟩ := hp.plain
          clear hp
          have hz29 : wY.heap.size ≤ wZ.heap.size := hxZ.size
          clear ba0 ba1 bag
          have ba := Hba.out.ext hxZ
          clear Hba
          have ba0 := ba.at0
          have ba1 := ba.at1
          have bag := ba.1
          have Hba := Lib.hid ba
          clear ba
          clear bb0 bb1 bbg
          have bb := Hbb.out.ext hxZ
          clear Hbb
          have bb0 := bb.at0
          have bb1 := bb.at1
          have bbg := bb.1
          have Hbb := Lib.hid bb
          clear bb
          clear bc0 bc1 bcg
          have bc := Hbc.out.ext hxZ
          clear Hbc
          have bc0 := bc.at0
          have bc1 := bc.at1
          have bcg := bc.1
          have Hbc := Lib.hid bc
          clear bc
          clear bd0 bd1 bdg
          have bd := Hbd.out.ext hxZ
          clear Hbd
          have bd0 := bd.at0
          have bd1 := bd.at1
          have bdg := bd.1
          have Hbd := Lib.hid bd
          clear bd
          clear be0 be1 beg
          have be := Hbe.out.ext hxZ
          clear Hbe
          have be0 := be.at0
          have be1 := be.at1
          have beg := be.1
          have Hbe := Lib.hid be
          clear be
          clear bl0 bl1 bl2 bl3 blg
          have bl := Hbl.out.ext hxZ
          clear Hbl
          have bl0 := bl.at0
          have bl1 := bl.at1
          have bl2 := bl.at2
          have bl3 := bl.at3
          have blg := bl.1
          have Hbl := Lib.hid bl
          clear bl
          clear bx0 bx1 bxg
          have bx := Hbx.out.ext hxZ
          clear Hbx
          have bx0 := bx.at0
          have bx1 := bx.at1
          have bxg := bx.1
          have Hbx := Lib.hid bx
          clear bx
          rw [Q3.out]
          have hbaf : ((an : Int) == (bn : Int)) = false := by simpa using hba
          have habf : ((bn : Int) == (an : Int)) = false := by simpa using hab
          have hban : ((an : Int) != (bn : Int)) = true := by simpa using hba
          have habn : ((bn : Int) != (an : Int)) = true := by simpa using hab
          go_wp2_with fail
          go_ret
          exact ⟨rfl, ((((((((((((((((((((((((((((hxN.trans hxwb2).trans hxP).trans hxQ).trans hxR).trans hxwb6).trans hxM).trans hxwb8).trans hxL).trans hxwb10).trans hxB).trans hxwb12).trans hxE).trans hxF).trans hxt1).trans hxt2).trans hxt3).trans hxr).trans hxU).trans hxV).trans hx8).trans hxwb22).trans hx10).trans hx12).trans hE15).trans hxX).trans hxwb27).trans hxY).trans hxZ)⟩
      · have h1f : (nlE a k == 0) = false := by simpa using h1
        by_cases h2 : pdE n lk o = 0
        case neg =>
          have h2f : (pdE n lk o == 0) = false := by simpa using h2
          go_wp2_with fail
          go_ret
          exact ⟨rfl, ((((((((((((((((((hxN.trans hxwb2).trans hxP).trans hxQ).trans hxR).trans hxwb6).trans hxM).trans hxwb8).trans hxL).trans hxwb10).trans hxB).trans hxwb12).trans hxE).trans hxF).trans hxt1).trans hxt2).trans hxt3).trans hxr).trans (by repeat (first | exact Ext.refl _ | assumption | refine Ext.alloc ?_ _ | refine Ext.drew ?_ | refine Ext.drewN ?_ _ | refine Ext.setCell ?_ (by first | (simp; done) | (simp; omega) | omega) _ | refine Ext.trans ?_ (by assumption))))⟩
        obtain ⟨j, rfl, hj, hok, hk, hpl, hlen⟩ := pd_in h2
        obtain ⟨b4, o4, eN, _, hb4, d0, d1, d2, d3⟩ := (HN.out.up (((((((((((((((((hxwb2.trans hxP).trans hxQ).trans hxR).trans hxwb6).trans hxM).trans hxwb8).trans hxL).trans hxwb10).trans hxB).trans hxwb12).trans hxE).trans hxF).trans hxt1).trans hxt2).trans hxt3).trans hxr).trans (by repeat (first | exact Ext.refl _ | assumption | refine Ext.alloc ?_ _ | refine Ext.drew ?_ | refine Ext.drewN ?_ _ | refine Ext.setCell ?_ (by first | (simp; done) | (simp; omega) | omega) _ | refine Ext.trans ?_ (by assumption))))).2.at_ hj
        subst eN
        have hj0 : (0 : Int) ≤ (j : Int) := by omega
        have hj1 : (j : Int) < (n.links.length : Int) := by omega
        have Hok := Lib.hid hok
        have Hk := Lib.hid hk
        have Hpl := Lib.hid hpl
        have Hlen := Lib.hid hlen
        have Hj := Lib.hid hj
        clear hok hk hpl hlen hj
        have hbe0 : 0 ≤ (lkAt n.links j).be := Hk.out.1.1
        have haf0 : 0 ≤ (lkAt n.links j).af := Hk.out.2.1.1
        have hltN := Hk.out.lt
        have hne := Hk.out.2.2.1
        obtain ⟨bn, hbn⟩ := Int.eq_ofNat_of_zero_le hbe0
        obtain ⟨an, han⟩ := Int.eq_ofNat_of_zero_le haf0
        rw [hbn] at d0 hne hltN
        rw [han] at d1 hne hltN
        rw [Int.toNat_natCast, Int.toNat_natCast] at hltN
        have hba : ¬ (an : Int) = (bn : Int) := fun hh => hne (by omega)
        have hab : ¬ (bn : Int) = (an : Int) := hne
        have eb : ownI false (lkAt n.links j) = bn := by unfold ownI; simp [hbn]
        have ea : ownI true (lkAt n.links j) = an := by unfold ownI; simp [han]
        have Eb := Lib.hid eb
        have Ea := Lib.hid ea
        clear hbn han hbe0 haf0 eb ea hne
        obtain ⟨hal, hbl⟩ := hltN
        cases o
        case false =>
          obtain ⟨wb19, hwb19⟩ : ∃ x : World, x = wr.alloc (.cells #[.int .i64 (bn : Int), .int .i64 (an : Int), .int .i64 (lkAt n.links j).le, .int .i64 (lkAt n.links j).mo] 60) := ⟨_, rfl⟩
          have hxwb19 : Ext wr wb19 := by rw [hwb19]; exact (by repeat (first | exact Ext.refl _ | assumption | refine Ext.alloc ?_ _ | refine Ext.drew ?_ | refine Ext.drewN ?_ _ | refine Ext.setCell ?_ (by first | (simp; done) | (simp; omega) | omega) _ | refine Ext.trans ?_ (by assumption)))
          have Hbl := Lib.hid (show Boxed wb19 wr.heap.size [.int .i64 (bn : Int), .int .i64 (an : Int), .int .i64 (lkAt n.links j).le, .int .i64 (lkAt n.links j).mo] from by rw [hwb19]; exact Boxed.new wr [.int .i64 (bn : Int), .int .i64 (an : Int), .int .i64 (lkAt n.links j).le, .int .i64 (lkAt n.links j).mo] 60)
          go_wp2_with fail
          rw [← hwb19]
          clear hwb19
          have hz19 : wr.heap.size ≤ wb19.heap.size := hxwb19.size
          clear ba0 ba1 bag
          have ba := Hba.out.ext hxwb19
          clear Hba
          have ba0 := ba.at0
          have ba1 := ba.at1
          have bag := ba.1
          have Hba := Lib.hid ba
          clear ba
          clear bb0 bb1 bbg
          have bb := Hbb.out.ext hxwb19
          clear Hbb
          have bb0 := bb.at0
          have bb1 := bb.at1
          have bbg := bb.1
          have Hbb := Lib.hid bb
          clear bb
          clear bc0 bc1 bcg
          have bc := Hbc.out.ext hxwb19
          clear Hbc
          have bc0 := bc.at0
          have bc1 := bc.at1
          have bcg := bc.1
          have Hbc := Lib.hid bc
          clear bc
          clear bd0 bd1 bdg
          have bd := Hbd.out.ext hxwb19
          clear Hbd
          have bd0 := bd.at0
          have bd1 := bd.at1
          have bdg := bd.1
          have Hbd := Lib.hid bd
          clear bd
          clear be0 be1 beg
          have be := Hbe.out.ext hxwb19
          clear Hbe
          have be0 := be.at0
          have be1 := be.at1
          have beg := be.1
          have Hbe := Lib.hid be
          clear be
          have bl0 := Hbl.out.at0
          have bl1 := Hbl.out.at1
          have bl2 := Hbl.out.at2
          have bl3 := Hbl.out.at3
          have blg := Hbl.out.1
          (refine wp_region_onto prog_mixed (by kernel_rfl) ?_; (repeat (go_big_quiet_step ((fail)))); refine onto_end ?_; intro w10 hx10)
          have hz20 : wb19.heap.size ≤ w10.heap.size := hx10.size
          clear ba0 ba1 bag
          have ba := Hba.out.ext hx10
          clear Hba
          have ba0 := ba.at0
          have ba1 := ba.at1
          have bag := ba.1
          have Hba := Lib.hid ba
          clear ba
          clear bb0 bb1 bbg
          have bb := Hbb.out.ext hx10
          clear Hbb
          have bb0 := bb.at0
          have bb1 := bb.at1
          have bbg := bb.1
          have Hbb := Lib.hid bb
          clear bb
          clear bc0 bc1 bcg
          have bc := Hbc.out.ext hx10
          clear Hbc
          have bc0 := bc.at0
          have bc1 := bc.at1
          have bcg := bc.1
          have Hbc := Lib.hid bc
          clear bc
          clear bd0 bd1 bdg
          have bd := Hbd.out.ext hx10
          clear Hbd
          have bd0 := bd.at0
          have bd1 := bd.at1
          have bdg := bd.1
          have Hbd := Lib.hid bd
          clear bd
          clear be0 be1 beg
          have be := Hbe.out.ext hx10
          clear Hbe
          have be0 := be.at0
          have be1 := be.at1
          have beg := be.1
          have Hbe := Lib.hid be
          clear be
          clear bl0 bl1 bl2 bl3 blg
          have bl := Hbl.out.ext hx10
          clear Hbl
          have bl0 := bl.at0
          have bl1 := bl.at1
          have bl2 := bl.at2
          have bl3 := bl.at3
          have blg := bl.1
          have Hbl := Lib.hid bl
          clear bl
          go_wp2_with fail
          (refine wp_region_onto prog_mixed (by kernel_rfl) ?_; (repeat (go_big_quiet_step ((fail)))); refine onto_end ?_; intro w11 hx11)
          have hz21 : w10.heap.size ≤ w11.heap.size := hx11.size
          clear ba0 ba1 bag
          have ba := Hba.out.ext hx11
          clear Hba
          have ba0 := ba.at0
          have ba1 := ba.at1
          have bag := ba.1
          have Hba := Lib.hid ba
          clear ba
          clear bb0 bb1 bbg
          have bb := Hbb.out.ext hx11
          clear Hbb
          have bb0 := bb.at0
          have bb1 := bb.at1
          have bbg := bb.1
          have Hbb := Lib.hid bb
          clear bb
          clear bc0 bc1 bcg
          have bc := Hbc.out.ext hx11
          clear Hbc
          have bc0 := bc.at0
          have bc1 := bc.at1
          have bcg := bc.1
          have Hbc := Lib.hid bc
          clear bc
          clear bd0 bd1 bdg
          have bd := Hbd.out.ext hx11
          clear Hbd
          have bd0 := bd.at0
          have bd1 := bd.at1
          have bdg := bd.1
          have Hbd := Lib.hid bd
          clear bd
          clear be0 be1 beg
          have be := Hbe.out.ext hx11
          clear Hbe
          have be0 := be.at0
          have be1 := be.at1
          have beg := be.1
          have Hbe := Lib.hid be
          clear be
          clear bl0 bl1 bl2 bl3 blg
          have bl := Hbl.out.ext hx11
          clear Hbl
          have bl0 := bl.at0
          have bl1 := bl.at1
          have bl2 := bl.at2
          have bl3 := bl.at3
          have blg := bl.1
          have Hbl := Lib.hid bl
          clear bl
          obtain ⟨b6, o6, u6, eS, _, hb6, g6, hu6⟩ := (HN.out.up (((((((((((((((((((hxwb2.trans hxP).trans hxQ).trans hxR).trans hxwb6).trans hxM).trans hxwb8).trans hxL).trans hxwb10).trans hxB).trans hxwb12).trans hxE).trans hxF).trans hxt1).trans hxt2).trans hxt3).trans hxr).trans hxwb19).trans hx10).trans hx11)).1.at_ (i := bn) (by omega)
          subst eS
          obtain ⟨U6, u6c, rfl, _⟩ := hu6.len
          have Hu6 := Lib.hid hu6
          clear hu6
          have hb6' : b6 < w11.heap.size := hb6
          have i6 : (0 : Int) ≤ (bn : Int) := by omega
          have i7 : (bn : Int) < (n.sets.length : Int) := by omega
          have hso := Hok.out.2.2.1 bn (by omega)
          have Hso := Lib.hid hso
          clear hso
          go_wp2_with fail
          refine Calls.mono (impl_CountDays _ (setAt n.sets bn) _ (Spans.up Hu6.out (by repeat (first | exact Ext.refl _ | assumption | refine Ext.alloc ?_ _ | refine Ext.drew ?_ | refine Ext.drewN ?_ _ | refine Ext.setCell ?_ (by first | (simp; done) | (simp; omega) | omega) _ | refine Ext.trans ?_ (by assumption))))) ?_
          rintro e w12 ⟨rfl, hx12⟩
          rw [(cd_ok Hso.out).1, (cd_ok Hso.out).2]
          have g7 := (hx12.cell (p := ⟨b6, o6 + bn, none⟩) hb6).trans g6
          clear g6
          have hz22 : w11.heap.size ≤ w12.heap.size := hx12.size
          clear ba0 ba1 bag
          have ba := Hba.out.ext hx12
          clear Hba
          have ba0 := ba.at0
          have ba1 := ba.at1
          have bag := ba.1
          have Hba := Lib.hid ba
          clear ba
          clear bb0 bb1 bbg
          have bb := Hbb.out.ext hx12
          clear Hbb
          have bb0 := bb.at0
          have bb1 := bb.at1
          have bbg := bb.1
          have Hbb := Lib.hid bb
          clear bb
          clear bc0 bc1 bcg
          have bc := Hbc.out.ext hx12
          clear Hbc
          have bc0 := bc.at0
          have bc1 := bc.at1
          have bcg := bc.1
          have Hbc := Lib.hid bc
          clear bc
          clear bd0 bd1 bdg
          have bd := Hbd.out.ext hx12
          clear Hbd
          have bd0 := bd.at0
          have bd1 := bd.at1
          have bdg := bd.1
          have Hbd := Lib.hid bd
          clear bd
          clear be0 be1 beg
          have be := Hbe.out.ext hx12
          clear Hbe
          have be0 := be.at0
          have be1 := be.at1
          have beg := be.1
          have Hbe := Lib.hid be
          clear be
          clear bl0 bl1 bl2 bl3 blg
          have bl := Hbl.out.ext hx12
          clear Hbl
          have bl0 := bl.at0
          have bl1 := bl.at1
          have bl2 := bl.at2
          have bl3 := bl.at3
          have blg := bl.1
          have Hbl := Lib.hid bl
          clear bl
          have hdb := daysTo_bd Hso.out (setAt n.sets bn).length (Nat.le_refl _)
          have hd0 : 0 ≤ days (setAt n.sets bn) := hdb.1
          clear hdb
          by_cases hc0 : days (setAt n.sets bn) = 0
          case pos =>
            go_wp2_with fail
            go_ret
            exact ⟨rfl, (((((((((((((((((((((hxN.trans hxwb2).trans hxP).trans hxQ).trans hxR).trans hxwb6).trans hxM).trans hxwb8).trans hxL).trans hxwb10).trans hxB).trans hxwb12).trans hxE).trans hxF).trans hxt1).trans hxt2).trans hxt3).trans hxr).trans hxwb19).trans hx10).trans hx11).trans hx12)⟩
          have hc1 : 1 ≤ days (setAt n.sets bn) := by omega
          have hc0f : (days (setAt n.sets bn) == 0) = false := by simpa using hc0
          have hb67 : b6 < w12.heap.size := by omega
          have Hu7 := Lib.hid (Spans.up Hu6.out hx12)
          have HB12 := Lib.hid ((H.out.ext (((((((((((((((((((((hxN.trans hxwb2).trans hxP).trans hxQ).trans hxR).trans hxwb6).trans hxM).trans hxwb8).trans hxL).trans hxwb10).trans hxB).trans hxwb12).trans hxE).trans hxF).trans hxt1).trans hxt2).trans hxt3).trans hxr).trans hxwb19).trans hx10).trans hx11).trans hx12) (Nat.le_refl _)))
          have HC12 := Lib.hid (Bytes.wide HB12.out (((((((((((((((((((((hxN.trans hxwb2).trans hxP).trans hxQ).trans hxR).trans hxwb6).trans hxM).trans hxwb8).trans hxL).trans hxwb10).trans hxB).trans hxwb12).trans hxE).trans hxF).trans hxt1).trans hxt2).trans hxt3).trans hxr).trans hxwb19).trans hx10).trans hx11).trans hx12).size)
          clear hc0
          go_wp2_with fail
          go_region_held3 (fun w' => Ext w12 w' ∧ w'.cell? ⟨wN.heap.size, 0, none⟩ = some (.slice (some ⟨b6, o6, none⟩) n.sets.length Ncs) ∧ w'.cell? ⟨wN.heap.size, 1, none⟩ = some (.slice (some ⟨b4, o4, none⟩) n.links.length Nck) ∧ w'.cell? ⟨b6, o6 + bn, none⟩ = some (.slice U6 (setAt n.sets bn).length u6c))
            (exact ext_keep (by repeat (first | assumption | exact (by assumption : Ext w12 _ ∧ _).1 | exact Ext.refl _ | refine Ext.drew ?_ | refine Ext.alloc ?_ _)) bag ba0 ba1 hb67 g7)
            (first
              | (go_at_call 57; refine Calls.mono (laws_roll cn _ _ _ (Bytes.up2 HC12.out (by assumption : Ext w12 _ ∧ _).1)) ?_; rintro e w13 ⟨bD, rfl, hbD, hx13, hD13⟩; have hE13 := (by assumption : Ext w12 _ ∧ _).1.trans hx13; have hbD0 := Nat.le_trans (by assumption : Ext w12 _ ∧ _).1.size hbD; have HD13 := Lib.hid hD13; clear hx13 hD13 hbD)
              | (go_at_call 58; refine Calls.mono (laws_below cn _ _ _ w12 _ (HC12.out.ext (by assumption : Ext w12 _ ∧ _).1 (Nat.le_refl _)) hbD0 (by assumption : Ext w12 _ ∧ _).1 HD13.out hc1) ?_; rintro e w14 ⟨r, rfl, hr0, hr1, hE14⟩)
              | (go_at_call 56; refine Calls.mono (impl_NthDay _ (setAt n.sets bn) r _ (Spans.up Hu7.out (by assumption : Ext w12 _ ∧ _).1) Hso.out hr0 hr1) ?_; rintro e w15 ⟨d, rfl, hd, hx15⟩; have hE15 := (by assumption : Ext w12 _ ∧ _).1.trans hx15; clear hx15))
          have hd12 := hd
          have hz23 : w12.heap.size ≤ w15.heap.size := hE15.size
          clear ba0 ba1 bag
          have ba := Hba.out.ext hE15
          clear Hba
          have ba0 := ba.at0
          have ba1 := ba.at1
          have bag := ba.1
          have Hba := Lib.hid ba
          clear ba
          clear bb0 bb1 bbg
          have bb := Hbb.out.ext hE15
          clear Hbb
          have bb0 := bb.at0
          have bb1 := bb.at1
          have bbg := bb.1
          have Hbb := Lib.hid bb
          clear bb
          clear bc0 bc1 bcg
          have bc := Hbc.out.ext hE15
          clear Hbc
          have bc0 := bc.at0
          have bc1 := bc.at1
          have bcg := bc.1
          have Hbc := Lib.hid bc
          clear bc
          clear bd0 bd1 bdg
          have bd := Hbd.out.ext hE15
          clear Hbd
          have bd0 := bd.at0
          have bd1 := bd.at1
          have bdg := bd.1
          have Hbd := Lib.hid bd
          clear bd
          clear be0 be1 beg
          have be := Hbe.out.ext hE15
          clear Hbe
          have be0 := be.at0
          have be1 := be.at1
          have beg := be.1
          have Hbe := Lib.hid be
          clear be
          clear bl0 bl1 bl2 bl3 blg
          have bl := Hbl.out.ext hE15
          clear Hbl
          have bl0 := bl.at0
          have bl1 := bl.at1
          have bl2 := bl.at2
          have bl3 := bl.at3
          have blg := bl.1
          have Hbl := Lib.hid bl
          clear bl
          obtain ⟨q1, q2, q3, q4⟩ := pd_law (o := false) (d := d) Hj.out Hok.out Hk.out Hpl.out Hlen.out (by rw [Eb.out]; exact hd)
          rw [Eb.out] at q1 q3 q4
          rw [Bool.not_false] at q3 q4
          have Q1 := Lib.hid q1
          have Q2 := Lib.hid q2
          have Q3 := Lib.hid q3
          have Q4 := Lib.hid q4
          clear q1 q2 q3 q4 hd hd12 hd0 hc1 hc0f hr0 hr1 g7
          go_wp2_with fail
          refine Calls.mono (impl_FixDay _ _ n (bn : Int) d _ (HN.out.up ((((((((((((((((((((((hxwb2.trans hxP).trans hxQ).trans hxR).trans hxwb6).trans hxM).trans hxwb8).trans hxL).trans hxwb10).trans hxB).trans hxwb12).trans hxE).trans hxF).trans hxt1).trans hxt2).trans hxt3).trans hxr).trans hxwb19).trans hx10).trans hx11).trans hx12).trans hE15).trans (by repeat (first | exact Ext.refl _ | assumption | refine Ext.alloc ?_ _ | refine Ext.drew ?_ | refine Ext.drewN ?_ _ | refine Ext.setCell ?_ (by first | (simp; done) | (simp; omega) | omega) _ | refine Ext.trans ?_ (by assumption)))))) ?_
          intro e wX hp
          obtain ⟨Xs, Xcs, Xk, Xck, rfl, hxX, HX⟩ := hp.plain
          clear hp
          rw [Q1.out]
          have hz24 : w15.heap.size ≤ wX.heap.size := hxX.size
          clear ba0 ba1 bag
          have ba := Hba.out.ext hxX
          clear Hba
          have ba0 := ba.at0
          have ba1 := ba.at1
          have bag := ba.1
          have Hba := Lib.hid ba
          clear ba
          clear bb0 bb1 bbg
          have bb := Hbb.out.ext hxX
          clear Hbb
          have bb0 := bb.at0
          have bb1 := bb.at1
          have bbg := bb.1
          have Hbb := Lib.hid bb
          clear bb
          clear bc0 bc1 bcg
          have bc := Hbc.out.ext hxX
          clear Hbc
          have bc0 := bc.at0
          have bc1 := bc.at1
          have bcg := bc.1
          have Hbc := Lib.hid bc
          clear bc
          clear bd0 bd1 bdg
          have bd := Hbd.out.ext hxX
          clear Hbd
          have bd0 := bd.at0
          have bd1 := bd.at1
          have bdg := bd.1
          have Hbd := Lib.hid bd
          clear bd
          clear be0 be1 beg
          have be := Hbe.out.ext hxX
          clear Hbe
          have be0 := be.at0
          have be1 := be.at1
          have beg := be.1
          have Hbe := Lib.hid be
          clear be
          clear bl0 bl1 bl2 bl3 blg
          have bl := Hbl.out.ext hxX
          clear Hbl
          have bl0 := bl.at0
          have bl1 := bl.at1
          have bl2 := bl.at2
          have bl3 := bl.at3
          have blg := bl.1
          have Hbl := Lib.hid bl
          clear bl
          obtain ⟨wb25, hwb25⟩ : ∃ x : World, x = wX.alloc (.cells #[.slice Xs (fixV n (bn : Int) d).sets.length Xcs, .slice Xk (fixV n (bn : Int) d).links.length Xck] 27) := ⟨_, rfl⟩
          have hxwb25 : Ext wX wb25 := by rw [hwb25]; exact (by repeat (first | exact Ext.refl _ | assumption | refine Ext.alloc ?_ _ | refine Ext.drew ?_ | refine Ext.drewN ?_ _ | refine Ext.setCell ?_ (by first | (simp; done) | (simp; omega) | omega) _ | refine Ext.trans ?_ (by assumption)))
          have Hbx := Lib.hid (show Boxed wb25 wX.heap.size [.slice Xs (fixV n (bn : Int) d).sets.length Xcs, .slice Xk (fixV n (bn : Int) d).links.length Xck] from by rw [hwb25]; exact Boxed.new wX [.slice Xs (fixV n (bn : Int) d).sets.length Xcs, .slice Xk (fixV n (bn : Int) d).links.length Xck] 27)
          go_wp2_with fail
          rw [← hwb25]
          clear hwb25
          have hz25 : wX.heap.size ≤ wb25.heap.size := hxwb25.size
          clear ba0 ba1 bag
          have ba := Hba.out.ext hxwb25
          clear Hba
          have ba0 := ba.at0
          have ba1 := ba.at1
          have bag := ba.1
          have Hba := Lib.hid ba
          clear ba
          clear bb0 bb1 bbg
          have bb := Hbb.out.ext hxwb25
          clear Hbb
          have bb0 := bb.at0
          have bb1 := bb.at1
          have bbg := bb.1
          have Hbb := Lib.hid bb
          clear bb
          clear bc0 bc1 bcg
          have bc := Hbc.out.ext hxwb25
          clear Hbc
          have bc0 := bc.at0
          have bc1 := bc.at1
          have bcg := bc.1
          have Hbc := Lib.hid bc
          clear bc
          clear bd0 bd1 bdg
          have bd := Hbd.out.ext hxwb25
          clear Hbd
          have bd0 := bd.at0
          have bd1 := bd.at1
          have bdg := bd.1
          have Hbd := Lib.hid bd
          clear bd
          clear be0 be1 beg
          have be := Hbe.out.ext hxwb25
          clear Hbe
          have be0 := be.at0
          have be1 := be.at1
          have beg := be.1
          have Hbe := Lib.hid be
          clear be
          clear bl0 bl1 bl2 bl3 blg
          have bl := Hbl.out.ext hxwb25
          clear Hbl
          have bl0 := bl.at0
          have bl1 := bl.at1
          have bl2 := bl.at2
          have bl3 := bl.at3
          have blg := bl.1
          have Hbl := Lib.hid bl
          clear bl
          have bx0 := Hbx.out.at0
          have bx1 := Hbx.out.at1
          have bxg := Hbx.out.1
          refine Calls.mono (impl_HasDay _ (pdL n (j : Int) false) d _ (Spans.up IP.out ((((((((((((((((((((((hxQ.trans hxR).trans hxwb6).trans hxM).trans hxwb8).trans hxL).trans hxwb10).trans hxB).trans hxwb12).trans hxE).trans hxF).trans hxt1).trans hxt2).trans hxt3).trans hxr).trans hxwb19).trans hx10).trans hx11).trans hx12).trans hE15).trans hxX).trans hxwb25).trans (by repeat (first | exact Ext.refl _ | assumption | refine Ext.alloc ?_ _ | refine Ext.drew ?_ | refine Ext.drewN ?_ _ | refine Ext.setCell ?_ (by first | (simp; done) | (simp; omega) | omega) _ | refine Ext.trans ?_ (by assumption)))))) ?_
          rintro e wY ⟨rfl, hxY⟩
          rw [Q2.out, Q4.out]
          have hz26 : wb25.heap.size ≤ wY.heap.size := hxY.size
          clear ba0 ba1 bag
          have ba := Hba.out.ext hxY
          clear Hba
          have ba0 := ba.at0
          have ba1 := ba.at1
          have bag := ba.1
          have Hba := Lib.hid ba
          clear ba
          clear bb0 bb1 bbg
          have bb := Hbb.out.ext hxY
          clear Hbb
          have bb0 := bb.at0
          have bb1 := bb.at1
          have bbg := bb.1
          have Hbb := Lib.hid bb
          clear bb
          clear bc0 bc1 bcg
          have bc := Hbc.out.ext hxY
          clear Hbc
          have bc0 := bc.at0
          have bc1 := bc.at1
          have bcg := bc.1
          have Hbc := Lib.hid bc
          clear bc
          clear bd0 bd1 bdg
          have bd := Hbd.out.ext hxY
          clear Hbd
          have bd0 := bd.at0
          have bd1 := bd.at1
          have bdg := bd.1
          have Hbd := Lib.hid bd
          clear bd
          clear be0 be1 beg
          have be := Hbe.out.ext hxY
          clear Hbe
          have be0 := be.at0
          have be1 := be.at1
          have beg := be.1
          have Hbe := Lib.hid be
          clear be
          clear bl0 bl1 bl2 bl3 blg
          have bl := Hbl.out.ext hxY
          clear Hbl
          have bl0 := bl.at0
          have bl1 := bl.at1
          have bl2 := bl.at2
          have bl3 := bl.at3
          have blg := bl.1
          have Hbl := Lib.hid bl
          clear bl
          clear bx0 bx1 bxg
          have bx := Hbx.out.ext hxY
          clear Hbx
          have bx0 := bx.at0
          have bx1 := bx.at1
          have bxg := bx.1
          have Hbx := Lib.hid bx
          clear bx
          go_wp2_with fail
          refine Calls.mono (impl_PartnerDays _ _ (fixV n (bn : Int) d) (j : Int) true _ (HX.out.up ((hxwb25.trans hxY).trans (by repeat (first | exact Ext.refl _ | assumption | refine Ext.alloc ?_ _ | refine Ext.drew ?_ | refine Ext.drewN ?_ _ | refine Ext.setCell ?_ (by first | (simp; done) | (simp; omega) | omega) _ | refine Ext.trans ?_ (by assumption)))))) ?_
          intro e wZ hp
          obtain ⟨Za, Zc, rfl, hxZ, IZ⟩ := hp.plain
          clear hp
          have hz27 : wY.heap.size ≤ wZ.heap.size := hxZ.size
          clear ba0 ba1 bag
          have ba := Hba.out.ext hxZ
          clear Hba
          have ba0 := ba.at0
          have ba1 := ba.at1
          have bag := ba.1
          have Hba := Lib.hid ba
          clear ba
          clear bb0 bb1 bbg
          have bb := Hbb.out.ext hxZ
          clear Hbb
          have bb0 := bb.at0
          have bb1 := bb.at1
          have bbg := bb.1
          have Hbb := Lib.hid bb
          clear bb
          clear bc0 bc1 bcg
          have bc := Hbc.out.ext hxZ
          clear Hbc
          have bc0 := bc.at0
          have bc1 := bc.at1
          have bcg := bc.1
          have Hbc := Lib.hid bc
          clear bc
          clear bd0 bd1 bdg
          have bd := Hbd.out.ext hxZ
          clear Hbd
          have bd0 := bd.at0
          have bd1 := bd.at1
          have bdg := bd.1
          have Hbd := Lib.hid bd
          clear bd
          clear be0 be1 beg
          have be := Hbe.out.ext hxZ
          clear Hbe
          have be0 := be.at0
          have be1 := be.at1
          have beg := be.1
          have Hbe := Lib.hid be
          clear be
          clear bl0 bl1 bl2 bl3 blg
          have bl := Hbl.out.ext hxZ
          clear Hbl
          have bl0 := bl.at0
          have bl1 := bl.at1
          have bl2 := bl.at2
          have bl3 := bl.at3
          have blg := bl.1
          have Hbl := Lib.hid bl
          clear bl
          clear bx0 bx1 bxg
          have bx := Hbx.out.ext hxZ
          clear Hbx
          have bx0 := bx.at0
          have bx1 := bx.at1
          have bxg := bx.1
          have Hbx := Lib.hid bx
          clear bx
          rw [Q3.out]
          have hbaf : ((an : Int) == (bn : Int)) = false := by simpa using hba
          have habf : ((bn : Int) == (an : Int)) = false := by simpa using hab
          have hban : ((an : Int) != (bn : Int)) = true := by simpa using hba
          have habn : ((bn : Int) != (an : Int)) = true := by simpa using hab
          go_wp2_with fail
          go_ret
          exact ⟨rfl, ((((((((((((((((((((((((((hxN.trans hxwb2).trans hxP).trans hxQ).trans hxR).trans hxwb6).trans hxM).trans hxwb8).trans hxL).trans hxwb10).trans hxB).trans hxwb12).trans hxE).trans hxF).trans hxt1).trans hxt2).trans hxt3).trans hxr).trans hxwb19).trans hx10).trans hx11).trans hx12).trans hE15).trans hxX).trans hxwb25).trans hxY).trans hxZ)⟩
        case true =>
          obtain ⟨wb19, hwb19⟩ : ∃ x : World, x = wr.alloc (.cells #[.int .i64 (bn : Int), .int .i64 (an : Int), .int .i64 (lkAt n.links j).le, .int .i64 (lkAt n.links j).mo] 60) := ⟨_, rfl⟩
          have hxwb19 : Ext wr wb19 := by rw [hwb19]; exact (by repeat (first | exact Ext.refl _ | assumption | refine Ext.alloc ?_ _ | refine Ext.drew ?_ | refine Ext.drewN ?_ _ | refine Ext.setCell ?_ (by first | (simp; done) | (simp; omega) | omega) _ | refine Ext.trans ?_ (by assumption)))
          have Hbl := Lib.hid (show Boxed wb19 wr.heap.size [.int .i64 (bn : Int), .int .i64 (an : Int), .int .i64 (lkAt n.links j).le, .int .i64 (lkAt n.links j).mo] from by rw [hwb19]; exact Boxed.new wr [.int .i64 (bn : Int), .int .i64 (an : Int), .int .i64 (lkAt n.links j).le, .int .i64 (lkAt n.links j).mo] 60)
          go_wp2_with fail
          rw [← hwb19]
          clear hwb19
          have hz19 : wr.heap.size ≤ wb19.heap.size := hxwb19.size
          clear ba0 ba1 bag
          have ba := Hba.out.ext hxwb19
          clear Hba
          have ba0 := ba.at0
          have ba1 := ba.at1
          have bag := ba.1
          have Hba := Lib.hid ba
          clear ba
          clear bb0 bb1 bbg
          have bb := Hbb.out.ext hxwb19
          clear Hbb
          have bb0 := bb.at0
          have bb1 := bb.at1
          have bbg := bb.1
          have Hbb := Lib.hid bb
          clear bb
          clear bc0 bc1 bcg
          have bc := Hbc.out.ext hxwb19
          clear Hbc
          have bc0 := bc.at0
          have bc1 := bc.at1
          have bcg := bc.1
          have Hbc := Lib.hid bc
          clear bc
          clear bd0 bd1 bdg
          have bd := Hbd.out.ext hxwb19
          clear Hbd
          have bd0 := bd.at0
          have bd1 := bd.at1
          have bdg := bd.1
          have Hbd := Lib.hid bd
          clear bd
          clear be0 be1 beg
          have be := Hbe.out.ext hxwb19
          clear Hbe
          have be0 := be.at0
          have be1 := be.at1
          have beg := be.1
          have Hbe := Lib.hid be
          clear be
          have bl0 := Hbl.out.at0
          have bl1 := Hbl.out.at1
          have bl2 := Hbl.out.at2
          have bl3 := Hbl.out.at3
          have blg := Hbl.out.1
          (refine wp_region_onto prog_mixed (by kernel_rfl) ?_; (repeat (go_big_quiet_step ((fail)))); refine onto_end ?_; intro w10 hx10)
          have hz20 : wb19.heap.size ≤ w10.heap.size := hx10.size
          clear ba0 ba1 bag
          have ba := Hba.out.ext hx10
          clear Hba
          have ba0 := ba.at0
          have ba1 := ba.at1
          have bag := ba.1
          have Hba := Lib.hid ba
          clear ba
          clear bb0 bb1 bbg
          have bb := Hbb.out.ext hx10
          clear Hbb
          have bb0 := bb.at0
          have bb1 := bb.at1
          have bbg := bb.1
          have Hbb := Lib.hid bb
          clear bb
          clear bc0 bc1 bcg
          have bc := Hbc.out.ext hx10
          clear Hbc
          have bc0 := bc.at0
          have bc1 := bc.at1
          have bcg := bc.1
          have Hbc := Lib.hid bc
          clear bc
          clear bd0 bd1 bdg
          have bd := Hbd.out.ext hx10
          clear Hbd
          have bd0 := bd.at0
          have bd1 := bd.at1
          have bdg := bd.1
          have Hbd := Lib.hid bd
          clear bd
          clear be0 be1 beg
          have be := Hbe.out.ext hx10
          clear Hbe
          have be0 := be.at0
          have be1 := be.at1
          have beg := be.1
          have Hbe := Lib.hid be
          clear be
          clear bl0 bl1 bl2 bl3 blg
          have bl := Hbl.out.ext hx10
          clear Hbl
          have bl0 := bl.at0
          have bl1 := bl.at1
          have bl2 := bl.at2
          have bl3 := bl.at3
          have blg := bl.1
          have Hbl := Lib.hid bl
          clear bl
          obtain ⟨b6, o6, u6, eS, _, hb6, g6, hu6⟩ := (HN.out.up ((((((((((((((((((hxwb2.trans hxP).trans hxQ).trans hxR).trans hxwb6).trans hxM).trans hxwb8).trans hxL).trans hxwb10).trans hxB).trans hxwb12).trans hxE).trans hxF).trans hxt1).trans hxt2).trans hxt3).trans hxr).trans hxwb19).trans hx10)).1.at_ (i := an) (by omega)
          subst eS
          obtain ⟨U6, u6c, rfl, _⟩ := hu6.len
          have Hu6 := Lib.hid hu6
          clear hu6
          have hb6' : b6 < w10.heap.size := hb6
          have i6 : (0 : Int) ≤ (an : Int) := by omega
          have i7 : (an : Int) < (n.sets.length : Int) := by omega
          have hso := Hok.out.2.2.1 an (by omega)
          have Hso := Lib.hid hso
          clear hso
          go_wp2_with fail
          refine Calls.mono (impl_CountDays _ (setAt n.sets an) _ (Spans.up Hu6.out (by repeat (first | exact Ext.refl _ | assumption | refine Ext.alloc ?_ _ | refine Ext.drew ?_ | refine Ext.drewN ?_ _ | refine Ext.setCell ?_ (by first | (simp; done) | (simp; omega) | omega) _ | refine Ext.trans ?_ (by assumption))))) ?_
          rintro e w12 ⟨rfl, hx12⟩
          rw [(cd_ok Hso.out).1, (cd_ok Hso.out).2]
          have g7 := (hx12.cell (p := ⟨b6, o6 + an, none⟩) hb6).trans g6
          clear g6
          have hz21 : w10.heap.size ≤ w12.heap.size := hx12.size
          clear ba0 ba1 bag
          have ba := Hba.out.ext hx12
          clear Hba
          have ba0 := ba.at0
          have ba1 := ba.at1
          have bag := ba.1
          have Hba := Lib.hid ba
          clear ba
          clear bb0 bb1 bbg
          have bb := Hbb.out.ext hx12
          clear Hbb
          have bb0 := bb.at0
          have bb1 := bb.at1
          have bbg := bb.1
          have Hbb := Lib.hid bb
          clear bb
          clear bc0 bc1 bcg
          have bc := Hbc.out.ext hx12
          clear Hbc
          have bc0 := bc.at0
          have bc1 := bc.at1
          have bcg := bc.1
          have Hbc := Lib.hid bc
          clear bc
          clear bd0 bd1 bdg
          have bd := Hbd.out.ext hx12
          clear Hbd
          have bd0 := bd.at0
          have bd1 := bd.at1
          have bdg := bd.1
          have Hbd := Lib.hid bd
          clear bd
          clear be0 be1 beg
          have be := Hbe.out.ext hx12
          clear Hbe
          have be0 := be.at0
          have be1 := be.at1
          have beg := be.1
          have Hbe := Lib.hid be
          clear be
          clear bl0 bl1 bl2 bl3 blg
          have bl := Hbl.out.ext hx12
          clear Hbl
          have bl0 := bl.at0
          have bl1 := bl.at1
          have bl2 := bl.at2
          have bl3 := bl.at3
          have blg := bl.1
          have Hbl := Lib.hid bl
          clear bl
          have hdb := daysTo_bd Hso.out (setAt n.sets an).length (Nat.le_refl _)
          have hd0 : 0 ≤ days (setAt n.sets an) := hdb.1
          clear hdb
          by_cases hc0 : days (setAt n.sets an) = 0
          case pos =>
            go_wp2_with fail
            go_ret
            exact ⟨rfl, ((((((((((((((((((((hxN.trans hxwb2).trans hxP).trans hxQ).trans hxR).trans hxwb6).trans hxM).trans hxwb8).trans hxL).trans hxwb10).trans hxB).trans hxwb12).trans hxE).trans hxF).trans hxt1).trans hxt2).trans hxt3).trans hxr).trans hxwb19).trans hx10).trans hx12)⟩
          have hc1 : 1 ≤ days (setAt n.sets an) := by omega
          have hc0f : (days (setAt n.sets an) == 0) = false := by simpa using hc0
          have hb67 : b6 < w12.heap.size := by omega
          have Hu7 := Lib.hid (Spans.up Hu6.out hx12)
          have HB12 := Lib.hid ((H.out.ext ((((((((((((((((((((hxN.trans hxwb2).trans hxP).trans hxQ).trans hxR).trans hxwb6).trans hxM).trans hxwb8).trans hxL).trans hxwb10).trans hxB).trans hxwb12).trans hxE).trans hxF).trans hxt1).trans hxt2).trans hxt3).trans hxr).trans hxwb19).trans hx10).trans hx12) (Nat.le_refl _)))
          have HC12 := Lib.hid (Bytes.wide HB12.out ((((((((((((((((((((hxN.trans hxwb2).trans hxP).trans hxQ).trans hxR).trans hxwb6).trans hxM).trans hxwb8).trans hxL).trans hxwb10).trans hxB).trans hxwb12).trans hxE).trans hxF).trans hxt1).trans hxt2).trans hxt3).trans hxr).trans hxwb19).trans hx10).trans hx12).size)
          clear hc0
          go_wp2_with fail
          go_region_held3 (fun w' => Ext w12 w' ∧ w'.cell? ⟨wN.heap.size, 0, none⟩ = some (.slice (some ⟨b6, o6, none⟩) n.sets.length Ncs) ∧ w'.cell? ⟨wN.heap.size, 1, none⟩ = some (.slice (some ⟨b4, o4, none⟩) n.links.length Nck) ∧ w'.cell? ⟨b6, o6 + an, none⟩ = some (.slice U6 (setAt n.sets an).length u6c))
            (exact ext_keep (by repeat (first | assumption | exact (by assumption : Ext w12 _ ∧ _).1 | exact Ext.refl _ | refine Ext.drew ?_ | refine Ext.alloc ?_ _)) bag ba0 ba1 hb67 g7)
            (first
              | (go_at_call 57; refine Calls.mono (laws_roll cn _ _ _ (Bytes.up2 HC12.out (by assumption : Ext w12 _ ∧ _).1)) ?_; rintro e w13 ⟨bD, rfl, hbD, hx13, hD13⟩; have hE13 := (by assumption : Ext w12 _ ∧ _).1.trans hx13; have hbD0 := Nat.le_trans (by assumption : Ext w12 _ ∧ _).1.size hbD; have HD13 := Lib.hid hD13; clear hx13 hD13 hbD)
              | (go_at_call 58; refine Calls.mono (laws_below cn _ _ _ w12 _ (HC12.out.ext (by assumption : Ext w12 _ ∧ _).1 (Nat.le_refl _)) hbD0 (by assumption : Ext w12 _ ∧ _).1 HD13.out hc1) ?_; rintro e w14 ⟨r, rfl, hr0, hr1, hE14⟩)
              | (go_at_call 56; refine Calls.mono (impl_NthDay _ (setAt n.sets an) r _ (Spans.up Hu7.out (by assumption : Ext w12 _ ∧ _).1) Hso.out hr0 hr1) ?_; rintro e w15 ⟨d, rfl, hd, hx15⟩; have hE15 := (by assumption : Ext w12 _ ∧ _).1.trans hx15; clear hx15))
          have hd12 := hd
          have hz22 : w12.heap.size ≤ w15.heap.size := hE15.size
          clear ba0 ba1 bag
          have ba := Hba.out.ext hE15
          clear Hba
          have ba0 := ba.at0
          have ba1 := ba.at1
          have bag := ba.1
          have Hba := Lib.hid ba
          clear ba
          clear bb0 bb1 bbg
          have bb := Hbb.out.ext hE15
          clear Hbb
          have bb0 := bb.at0
          have bb1 := bb.at1
          have bbg := bb.1
          have Hbb := Lib.hid bb
          clear bb
          clear bc0 bc1 bcg
          have bc := Hbc.out.ext hE15
          clear Hbc
          have bc0 := bc.at0
          have bc1 := bc.at1
          have bcg := bc.1
          have Hbc := Lib.hid bc
          clear bc
          clear bd0 bd1 bdg
          have bd := Hbd.out.ext hE15
          clear Hbd
          have bd0 := bd.at0
          have bd1 := bd.at1
          have bdg := bd.1
          have Hbd := Lib.hid bd
          clear bd
          clear be0 be1 beg
          have be := Hbe.out.ext hE15
          clear Hbe
          have be0 := be.at0
          have be1 := be.at1
          have beg := be.1
          have Hbe := Lib.hid be
          clear be
          clear bl0 bl1 bl2 bl3 blg
          have bl := Hbl.out.ext hE15
          clear Hbl
          have bl0 := bl.at0
          have bl1 := bl.at1
          have bl2 := bl.at2
          have bl3 := bl.at3
          have blg := bl.1
          have Hbl := Lib.hid bl
          clear bl
          obtain ⟨q1, q2, q3, q4⟩ := pd_law (o := true) (d := d) Hj.out Hok.out Hk.out Hpl.out Hlen.out (by rw [Ea.out]; exact hd)
          rw [Ea.out] at q1 q3 q4
          rw [Bool.not_true] at q3 q4
          have Q1 := Lib.hid q1
          have Q2 := Lib.hid q2
          have Q3 := Lib.hid q3
          have Q4 := Lib.hid q4
          clear q1 q2 q3 q4 hd hd12 hd0 hc1 hc0f hr0 hr1 g7
          go_wp2_with fail
          refine Calls.mono (impl_FixDay _ _ n (an : Int) d _ (HN.out.up (((((((((((((((((((((hxwb2.trans hxP).trans hxQ).trans hxR).trans hxwb6).trans hxM).trans hxwb8).trans hxL).trans hxwb10).trans hxB).trans hxwb12).trans hxE).trans hxF).trans hxt1).trans hxt2).trans hxt3).trans hxr).trans hxwb19).trans hx10).trans hx12).trans hE15).trans (by repeat (first | exact Ext.refl _ | assumption | refine Ext.alloc ?_ _ | refine Ext.drew ?_ | refine Ext.drewN ?_ _ | refine Ext.setCell ?_ (by first | (simp; done) | (simp; omega) | omega) _ | refine Ext.trans ?_ (by assumption)))))) ?_
          intro e wX hp
          obtain ⟨Xs, Xcs, Xk, Xck, rfl, hxX, HX⟩ := hp.plain
          clear hp
          rw [Q1.out]
          have hz23 : w15.heap.size ≤ wX.heap.size := hxX.size
          clear ba0 ba1 bag
          have ba := Hba.out.ext hxX
          clear Hba
          have ba0 := ba.at0
          have ba1 := ba.at1
          have bag := ba.1
          have Hba := Lib.hid ba
          clear ba
          clear bb0 bb1 bbg
          have bb := Hbb.out.ext hxX
          clear Hbb
          have bb0 := bb.at0
          have bb1 := bb.at1
          have bbg := bb.1
          have Hbb := Lib.hid bb
          clear bb
          clear bc0 bc1 bcg
          have bc := Hbc.out.ext hxX
          clear Hbc
          have bc0 := bc.at0
          have bc1 := bc.at1
          have bcg := bc.1
          have Hbc := Lib.hid bc
          clear bc
          clear bd0 bd1 bdg
          have bd := Hbd.out.ext hxX
          clear Hbd
          have bd0 := bd.at0
          have bd1 := bd.at1
          have bdg := bd.1
          have Hbd := Lib.hid bd
          clear bd
          clear be0 be1 beg
          have be := Hbe.out.ext hxX
          clear Hbe
          have be0 := be.at0
          have be1 := be.at1
          have beg := be.1
          have Hbe := Lib.hid be
          clear be
          clear bl0 bl1 bl2 bl3 blg
          have bl := Hbl.out.ext hxX
          clear Hbl
          have bl0 := bl.at0
          have bl1 := bl.at1
          have bl2 := bl.at2
          have bl3 := bl.at3
          have blg := bl.1
          have Hbl := Lib.hid bl
          clear bl
          obtain ⟨wb24, hwb24⟩ : ∃ x : World, x = wX.alloc (.cells #[.slice Xs (fixV n (an : Int) d).sets.length Xcs, .slice Xk (fixV n (an : Int) d).links.length Xck] 27) := ⟨_, rfl⟩
          have hxwb24 : Ext wX wb24 := by rw [hwb24]; exact (by repeat (first | exact Ext.refl _ | assumption | refine Ext.alloc ?_ _ | refine Ext.drew ?_ | refine Ext.drewN ?_ _ | refine Ext.setCell ?_ (by first | (simp; done) | (simp; omega) | omega) _ | refine Ext.trans ?_ (by assumption)))
          have Hbx := Lib.hid (show Boxed wb24 wX.heap.size [.slice Xs (fixV n (an : Int) d).sets.length Xcs, .slice Xk (fixV n (an : Int) d).links.length Xck] from by rw [hwb24]; exact Boxed.new wX [.slice Xs (fixV n (an : Int) d).sets.length Xcs, .slice Xk (fixV n (an : Int) d).links.length Xck] 27)
          go_wp2_with fail
          rw [← hwb24]
          clear hwb24
          have hz24 : wX.heap.size ≤ wb24.heap.size := hxwb24.size
          clear ba0 ba1 bag
          have ba := Hba.out.ext hxwb24
          clear Hba
          have ba0 := ba.at0
          have ba1 := ba.at1
          have bag := ba.1
          have Hba := Lib.hid ba
          clear ba
          clear bb0 bb1 bbg
          have bb := Hbb.out.ext hxwb24
          clear Hbb
          have bb0 := bb.at0
          have bb1 := bb.at1
          have bbg := bb.1
          have Hbb := Lib.hid bb
          clear bb
          clear bc0 bc1 bcg
          have bc := Hbc.out.ext hxwb24
          clear Hbc
          have bc0 := bc.at0
          have bc1 := bc.at1
          have bcg := bc.1
          have Hbc := Lib.hid bc
          clear bc
          clear bd0 bd1 bdg
          have bd := Hbd.out.ext hxwb24
          clear Hbd
          have bd0 := bd.at0
          have bd1 := bd.at1
          have bdg := bd.1
          have Hbd := Lib.hid bd
          clear bd
          clear be0 be1 beg
          have be := Hbe.out.ext hxwb24
          clear Hbe
          have be0 := be.at0
          have be1 := be.at1
          have beg := be.1
          have Hbe := Lib.hid be
          clear be
          clear bl0 bl1 bl2 bl3 blg
          have bl := Hbl.out.ext hxwb24
          clear Hbl
          have bl0 := bl.at0
          have bl1 := bl.at1
          have bl2 := bl.at2
          have bl3 := bl.at3
          have blg := bl.1
          have Hbl := Lib.hid bl
          clear bl
          have bx0 := Hbx.out.at0
          have bx1 := Hbx.out.at1
          have bxg := Hbx.out.1
          refine Calls.mono (impl_HasDay _ (pdL n (j : Int) true) d _ (Spans.up IP.out (((((((((((((((((((((hxQ.trans hxR).trans hxwb6).trans hxM).trans hxwb8).trans hxL).trans hxwb10).trans hxB).trans hxwb12).trans hxE).trans hxF).trans hxt1).trans hxt2).trans hxt3).trans hxr).trans hxwb19).trans hx10).trans hx12).trans hE15).trans hxX).trans hxwb24).trans (by repeat (first | exact Ext.refl _ | assumption | refine Ext.alloc ?_ _ | refine Ext.drew ?_ | refine Ext.drewN ?_ _ | refine Ext.setCell ?_ (by first | (simp; done) | (simp; omega) | omega) _ | refine Ext.trans ?_ (by assumption)))))) ?_
          rintro e wY ⟨rfl, hxY⟩
          rw [Q2.out, Q4.out]
          have hz25 : wb24.heap.size ≤ wY.heap.size := hxY.size
          clear ba0 ba1 bag
          have ba := Hba.out.ext hxY
          clear Hba
          have ba0 := ba.at0
          have ba1 := ba.at1
          have bag := ba.1
          have Hba := Lib.hid ba
          clear ba
          clear bb0 bb1 bbg
          have bb := Hbb.out.ext hxY
          clear Hbb
          have bb0 := bb.at0
          have bb1 := bb.at1
          have bbg := bb.1
          have Hbb := Lib.hid bb
          clear bb
          clear bc0 bc1 bcg
          have bc := Hbc.out.ext hxY
          clear Hbc
          have bc0 := bc.at0
          have bc1 := bc.at1
          have bcg := bc.1
          have Hbc := Lib.hid bc
          clear bc
          clear bd0 bd1 bdg
          have bd := Hbd.out.ext hxY
          clear Hbd
          have bd0 := bd.at0
          have bd1 := bd.at1
          have bdg := bd.1
          have Hbd := Lib.hid bd
          clear bd
          clear be0 be1 beg
          have be := Hbe.out.ext hxY
          clear Hbe
          have be0 := be.at0
          have be1 := be.at1
          have beg := be.1
          have Hbe := Lib.hid be
          clear be
          clear bl0 bl1 bl2 bl3 blg
          have bl := Hbl.out.ext hxY
          clear Hbl
          have bl0 := bl.at0
          have bl1 := bl.at1
          have bl2 := bl.at2
          have bl3 := bl.at3
          have blg := bl.1
          have Hbl := Lib.hid bl
          clear bl
          clear bx0 bx1 bxg
          have bx := Hbx.out.ext hxY
          clear Hbx
          have bx0 := bx.at0
          have bx1 := bx.at1
          have bxg := bx.1
          have Hbx := Lib.hid bx
          clear bx
          go_wp2_with fail
          refine Calls.mono (impl_PartnerDays _ _ (fixV n (an : Int) d) (j : Int) false _ (HX.out.up ((hxwb24.trans hxY).trans (by repeat (first | exact Ext.refl _ | assumption | refine Ext.alloc ?_ _ | refine Ext.drew ?_ | refine Ext.drewN ?_ _ | refine Ext.setCell ?_ (by first | (simp; done) | (simp; omega) | omega) _ | refine Ext.trans ?_ (by assumption)))))) ?_
          intro e wZ hp
          obtain ⟨Za, Zc, rfl, hxZ, IZ⟩ := hp.plain
          clear hp
          have hz26 : wY.heap.size ≤ wZ.heap.size := hxZ.size
          clear ba0 ba1 bag
          have ba := Hba.out.ext hxZ
          clear Hba
          have ba0 := ba.at0
          have ba1 := ba.at1
          have bag := ba.1
          have Hba := Lib.hid ba
          clear ba
          clear bb0 bb1 bbg
          have bb := Hbb.out.ext hxZ
          clear Hbb
          have bb0 := bb.at0
          have bb1 := bb.at1
          have bbg := bb.1
          have Hbb := Lib.hid bb
          clear bb
          clear bc0 bc1 bcg
          have bc := Hbc.out.ext hxZ
          clear Hbc
          have bc0 := bc.at0
          have bc1 := bc.at1
          have bcg := bc.1
          have Hbc := Lib.hid bc
          clear bc
          clear bd0 bd1 bdg
          have bd := Hbd.out.ext hxZ
          clear Hbd
          have bd0 := bd.at0
          have bd1 := bd.at1
          have bdg := bd.1
          have Hbd := Lib.hid bd
          clear bd
          clear be0 be1 beg
          have be := Hbe.out.ext hxZ
          clear Hbe
          have be0 := be.at0
          have be1 := be.at1
          have beg := be.1
          have Hbe := Lib.hid be
          clear be
          clear bl0 bl1 bl2 bl3 blg
          have bl := Hbl.out.ext hxZ
          clear Hbl
          have bl0 := bl.at0
          have bl1 := bl.at1
          have bl2 := bl.at2
          have bl3 := bl.at3
          have blg := bl.1
          have Hbl := Lib.hid bl
          clear bl
          clear bx0 bx1 bxg
          have bx := Hbx.out.ext hxZ
          clear Hbx
          have bx0 := bx.at0
          have bx1 := bx.at1
          have bxg := bx.1
          have Hbx := Lib.hid bx
          clear bx
          rw [Q3.out]
          have hbaf : ((an : Int) == (bn : Int)) = false := by simpa using hba
          have habf : ((bn : Int) == (an : Int)) = false := by simpa using hab
          have hban : ((an : Int) != (bn : Int)) = true := by simpa using hba
          have habn : ((bn : Int) != (an : Int)) = true := by simpa using hab
          go_wp2_with fail
          go_ret
          exact ⟨rfl, (((((((((((((((((((((((((hxN.trans hxwb2).trans hxP).trans hxQ).trans hxR).trans hxwb6).trans hxM).trans hxwb8).trans hxL).trans hxwb10).trans hxB).trans hxwb12).trans hxE).trans hxF).trans hxt1).trans hxt2).trans hxt3).trans hxr).trans hxwb19).trans hx10).trans hx12).trans hE15).trans hxX).trans hxwb24).trans hxY).trans hxZ)⟩
end Go.Proofs.Ytfajmlkiidnhlaa
