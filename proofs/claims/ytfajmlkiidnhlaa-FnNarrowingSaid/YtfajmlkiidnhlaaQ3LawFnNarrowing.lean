/- The law FnNarrowing, walked out of the contracts of the draws, the program's functions and the reference's. -/
import Derived.Test.YtfajmlkiidnhlaaQ3Yc
import Derived.Test.YtfajmlkiidnhlaaQ3Dj
import Derived.Test.YtfajmlkiidnhlaaQ3Zs
import Derived.Test.YtfajmlkiidnhlaaQ3Ny
import Derived.Test.YtfajmlkiidnhlaaQ3H
import Derived.Deep.RegionHeld3
import Derived.IntWalk
namespace Go.Proofs.Ytfajmlkiidnhlaa
set_option linter.unusedVariables false
set_option linter.unusedSimpArgs false
open Go.RowKit
attribute [local go_sem] cell_onto

theorem NewNet3.plain {m : Net} {x c0 : Int} {w w' : World} {e : Ending} (h : NewNet3 m x c0 w e w') : ∃ As cs Ak ck, e = .returned (.tuple #[.agg #[.slice As m.sets.length cs, .slice Ak m.links.length ck], .int .i64 x, .int .i64 c0]) ∧ Ext w w' ∧ Hid (NetIn w' (.slice As m.sets.length cs) (.slice Ak m.links.length ck) m) := by
  obtain ⟨s, k, he, hx, h1⟩ := h
  have h2 := h1.at_.all (Nat.le_refl _)
  obtain ⟨As, cs, Ak, ck, rfl, rfl⟩ := h2.out2
  exact ⟨As, cs, Ak, ck, he, hx, h2⟩
theorem DNetN.plain {w w' : World} {e : Ending} (h : DNetN w e w') : ∃ As cs Ak ck n Bs ds Bk dk m, e = .returned (.tuple #[.agg #[.slice As n.sets.length cs, .slice Ak n.links.length ck], .agg #[.slice Bs m.sets.length ds, .slice Bk m.links.length dk]]) ∧ Ext w w' ∧
    Hid (NetIn w' (.slice As n.sets.length cs) (.slice Ak n.links.length ck) n) ∧ Hid (NetIn w' (.slice Bs m.sets.length ds) (.slice Bk m.links.length dk) m) := by
  obtain ⟨s, k, s', k', n, m, he, hx, h1, h3⟩ := h
  have h2 := h1.all (Nat.le_refl _)
  have h4 := h3.all (Nat.le_refl _)
  obtain ⟨As, cs, Ak, ck, rfl, rfl⟩ := h2.out2
  obtain ⟨Bs, ds, Bk, dk, rfl, rfl⟩ := h4.out2
  exact ⟨As, cs, Ak, ck, n, Bs, ds, Bk, dk, m, he, hx, h2, h4⟩
set_option maxRecDepth 100000 in
set_option maxHeartbeats 8000000 in
theorem law_FnNarrowing (v : Value) (cn : Nat) (w : World) (h : Byts w v cn) : Calls Try.prog 7 #[v] w (RetX (.bool true) w) := by
  obtain ⟨A, c, rfl⟩ := h.len
  have HX := Lib.hid h
  clear h
  go_enter Try.func7, Try.ntmps7
  go_wp2_with fail
  by_cases hbig : cn ≤ 4096
  case neg =>
    refine Calls.mono (laws_big_yes cn A c w hbig) ?_
    rintro e w' ⟨rfl, rfl⟩
    go_wp2_with fail
    go_ret
    exact ⟨rfl, (by repeat (first | exact Ext.refl _ | assumption | refine Ext.alloc ?_ _ | refine Ext.drew ?_ | refine Ext.drewN ?_ _ | refine Ext.setCell ?_ (by first | (simp; done) | (simp; omega) | omega) _ | refine Ext.trans ?_ (by assumption)))⟩
  have H := Lib.hid (HX.out.few hbig)
  refine Calls.mono (laws_big_no cn A c w hbig) ?_
  rintro e w' ⟨rfl, rfl⟩
  clear HX hbig
  go_wp2_with fail
  refine Calls.mono (spec_DrawNarrowAll cn _ _ (H.out.up (by repeat (first | exact Ext.refl _ | assumption | refine Ext.alloc ?_ _ | refine Ext.drew ?_ | refine Ext.drewN ?_ _ | refine Ext.setCell ?_ (by first | (simp; done) | (simp; omega) | omega) _ | refine Ext.trans ?_ (by assumption))))) ?_
  intro e wN hp
  obtain ⟨Ns, Ncs, Nk, Nck, n, rfl, hxN, HN⟩ := hp.plain
  clear hp
  have hz1 : w.heap.size ≤ wN.heap.size := hxN.size
  obtain ⟨wb2, hwb2⟩ : ∃ x : World, x = wN.alloc (.cells #[.slice Ns n.sets.length Ncs, .slice Nk n.links.length Nck] 27) := ⟨_, rfl⟩
  have hxwb2 : Ext wN wb2 := by rw [hwb2]; exact (by repeat (first | exact Ext.refl _ | assumption | refine Ext.alloc ?_ _ | refine Ext.drew ?_ | refine Ext.drewN ?_ _ | refine Ext.setCell ?_ (by first | (simp; done) | (simp; omega) | omega) _ | refine Ext.trans ?_ (by assumption)))
  have Hba := Lib.hid (show Boxed wb2 wN.heap.size [.slice Ns n.sets.length Ncs, .slice Nk n.links.length Nck] from by rw [hwb2]; exact Boxed.new wN [.slice Ns n.sets.length Ncs, .slice Nk n.links.length Nck] 27)
  go_wp2_with fail
  rw [← hwb2]
  clear hwb2
  have hz2 : wN.heap.size ≤ wb2.heap.size := hxwb2.size
  have ba0 := Hba.out.at0
  have ba1 := Hba.out.at1
  have bag := Hba.out.1
  refine Calls.mono (impl_NarrowAll _ _ n _ (HN.out.up (hxwb2.trans (by repeat (first | exact Ext.refl _ | assumption | refine Ext.alloc ?_ _ | refine Ext.drew ?_ | refine Ext.drewN ?_ _ | refine Ext.setCell ?_ (by first | (simp; done) | (simp; omega) | omega) _ | refine Ext.trans ?_ (by assumption)))))) ?_
  intro e wM hp
  obtain ⟨Ms, Mcs, Mk, Mck, rfl, hxM, HM⟩ := hp.plain
  clear hp
  have hz3 : wb2.heap.size ≤ wM.heap.size := hxM.size
  clear ba0 ba1 bag
  have ba := Hba.out.ext hxM
  clear Hba
  have ba0 := ba.at0
  have ba1 := ba.at1
  have bag := ba.1
  have Hba := Lib.hid ba
  clear ba
  obtain ⟨wb4, hwb4⟩ : ∃ x : World, x = wM.alloc (.cells #[.slice Ms (naV n).sets.length Mcs, .slice Mk (naV n).links.length Mck] 27) := ⟨_, rfl⟩
  have hxwb4 : Ext wM wb4 := by rw [hwb4]; exact (by repeat (first | exact Ext.refl _ | assumption | refine Ext.alloc ?_ _ | refine Ext.drew ?_ | refine Ext.drewN ?_ _ | refine Ext.setCell ?_ (by first | (simp; done) | (simp; omega) | omega) _ | refine Ext.trans ?_ (by assumption)))
  have Hbb := Lib.hid (show Boxed wb4 wM.heap.size [.slice Ms (naV n).sets.length Mcs, .slice Mk (naV n).links.length Mck] from by rw [hwb4]; exact Boxed.new wM [.slice Ms (naV n).sets.length Mcs, .slice Mk (naV n).links.length Mck] 27)
  go_wp2_with fail
  rw [← hwb4]
  clear hwb4
  have hz4 : wM.heap.size ≤ wb4.heap.size := hxwb4.size
  clear ba0 ba1 bag
  have ba := Hba.out.ext hxwb4
  clear Hba
  have ba0 := ba.at0
  have ba1 := ba.at1
  have bag := ba.1
  have Hba := Lib.hid ba
  clear ba
  have bb0 := Hbb.out.at0
  have bb1 := Hbb.out.at1
  have bbg := Hbb.out.1
  refine Calls.mono (spec_NarrowAll _ _ n _ (HN.out.up (((hxwb2.trans hxM).trans hxwb4).trans (by repeat (first | exact Ext.refl _ | assumption | refine Ext.alloc ?_ _ | refine Ext.drew ?_ | refine Ext.drewN ?_ _ | refine Ext.setCell ?_ (by first | (simp; done) | (simp; omega) | omega) _ | refine Ext.trans ?_ (by assumption)))))) ?_
  intro e wR hp
  obtain ⟨Rs, Rcs, Rk, Rck, rfl, hxR, HR⟩ := hp.plain
  clear hp
  have hz5 : wb4.heap.size ≤ wR.heap.size := hxR.size
  clear ba0 ba1 bag
  have ba := Hba.out.ext hxR
  clear Hba
  have ba0 := ba.at0
  have ba1 := ba.at1
  have bag := ba.1
  have Hba := Lib.hid ba
  clear ba
  clear bb0 bb1 bbg
  have bb := Hbb.out.ext hxR
  clear Hbb
  have bb0 := bb.at0
  have bb1 := bb.at1
  have bbg := bb.1
  have Hbb := Lib.hid bb
  clear bb
  obtain ⟨wb6, hwb6⟩ : ∃ x : World, x = wR.alloc (.cells #[.slice Rs (naV n).sets.length Rcs, .slice Rk (naV n).links.length Rck] 27) := ⟨_, rfl⟩
  have hxwb6 : Ext wR wb6 := by rw [hwb6]; exact (by repeat (first | exact Ext.refl _ | assumption | refine Ext.alloc ?_ _ | refine Ext.drew ?_ | refine Ext.drewN ?_ _ | refine Ext.setCell ?_ (by first | (simp; done) | (simp; omega) | omega) _ | refine Ext.trans ?_ (by assumption)))
  have Hbc := Lib.hid (show Boxed wb6 wR.heap.size [.slice Rs (naV n).sets.length Rcs, .slice Rk (naV n).links.length Rck] from by rw [hwb6]; exact Boxed.new wR [.slice Rs (naV n).sets.length Rcs, .slice Rk (naV n).links.length Rck] 27)
  go_wp2_with fail
  rw [← hwb6]
  clear hwb6
  have hz6 : wR.heap.size ≤ wb6.heap.size := hxwb6.size
  clear ba0 ba1 bag
  have ba := Hba.out.ext hxwb6
  clear Hba
  have ba0 := ba.at0
  have ba1 := ba.at1
  have bag := ba.1
  have Hba := Lib.hid ba
  clear ba
  clear bb0 bb1 bbg
  have bb := Hbb.out.ext hxwb6
  clear Hbb
  have bb0 := bb.at0
  have bb1 := bb.at1
  have bbg := bb.1
  have Hbb := Lib.hid bb
  clear bb
  have bc0 := Hbc.out.at0
  have bc1 := Hbc.out.at1
  have bcg := Hbc.out.1
  refine Calls.mono (spec_DrawNarrowRound cn _ _ (H.out.up ((((((hxN.trans hxwb2).trans hxM).trans hxwb4).trans hxR).trans hxwb6).trans (by repeat (first | exact Ext.refl _ | assumption | refine Ext.alloc ?_ _ | refine Ext.drew ?_ | refine Ext.drewN ?_ _ | refine Ext.setCell ?_ (by first | (simp; done) | (simp; omega) | omega) _ | refine Ext.trans ?_ (by assumption)))))) ?_
  intro e wP hp
  obtain ⟨Ps, Pcs, Pk, Pck, a, rfl, hxP, HP⟩ := hp.plain
  clear hp
  have hz7 : wb6.heap.size ≤ wP.heap.size := hxP.size
  clear ba0 ba1 bag
  have ba := Hba.out.ext hxP
  clear Hba
  have ba0 := ba.at0
  have ba1 := ba.at1
  have bag := ba.1
  have Hba := Lib.hid ba
  clear ba
  clear bb0 bb1 bbg
  have bb := Hbb.out.ext hxP
  clear Hbb
  have bb0 := bb.at0
  have bb1 := bb.at1
  have bbg := bb.1
  have Hbb := Lib.hid bb
  clear bb
  clear bc0 bc1 bcg
  have bc := Hbc.out.ext hxP
  clear Hbc
  have bc0 := bc.at0
  have bc1 := bc.at1
  have bcg := bc.1
  have Hbc := Lib.hid bc
  clear bc
  obtain ⟨wb8, hwb8⟩ : ∃ x : World, x = wP.alloc (.cells #[.slice Ps a.sets.length Pcs, .slice Pk a.links.length Pck] 27) := ⟨_, rfl⟩
  have hxwb8 : Ext wP wb8 := by rw [hwb8]; exact (by repeat (first | exact Ext.refl _ | assumption | refine Ext.alloc ?_ _ | refine Ext.drew ?_ | refine Ext.drewN ?_ _ | refine Ext.setCell ?_ (by first | (simp; done) | (simp; omega) | omega) _ | refine Ext.trans ?_ (by assumption)))
  have Hbd := Lib.hid (show Boxed wb8 wP.heap.size [.slice Ps a.sets.length Pcs, .slice Pk a.links.length Pck] from by rw [hwb8]; exact Boxed.new wP [.slice Ps a.sets.length Pcs, .slice Pk a.links.length Pck] 27)
  go_wp2_with fail
  rw [← hwb8]
  clear hwb8
  have hz8 : wP.heap.size ≤ wb8.heap.size := hxwb8.size
  clear ba0 ba1 bag
  have ba := Hba.out.ext hxwb8
  clear Hba
  have ba0 := ba.at0
  have ba1 := ba.at1
  have bag := ba.1
  have Hba := Lib.hid ba
  clear ba
  clear bb0 bb1 bbg
  have bb := Hbb.out.ext hxwb8
  clear Hbb
  have bb0 := bb.at0
  have bb1 := bb.at1
  have bbg := bb.1
  have Hbb := Lib.hid bb
  clear bb
  clear bc0 bc1 bcg
  have bc := Hbc.out.ext hxwb8
  clear Hbc
  have bc0 := bc.at0
  have bc1 := bc.at1
  have bcg := bc.1
  have Hbc := Lib.hid bc
  clear bc
  have bd0 := Hbd.out.at0
  have bd1 := Hbd.out.at1
  have bdg := Hbd.out.1
  refine Calls.mono (impl_NarrowRound _ _ a _ (HP.out.up (hxwb8.trans (by repeat (first | exact Ext.refl _ | assumption | refine Ext.alloc ?_ _ | refine Ext.drew ?_ | refine Ext.drewN ?_ _ | refine Ext.setCell ?_ (by first | (simp; done) | (simp; omega) | omega) _ | refine Ext.trans ?_ (by assumption)))))) ?_
  intro e wQ hp
  obtain ⟨Qs, Qcs, Qk, Qck, rfl, hxQ, HQ⟩ := hp.plain
  clear hp
  have hz9 : wb8.heap.size ≤ wQ.heap.size := hxQ.size
  clear ba0 ba1 bag
  have ba := Hba.out.ext hxQ
  clear Hba
  have ba0 := ba.at0
  have ba1 := ba.at1
  have bag := ba.1
  have Hba := Lib.hid ba
  clear ba
  clear bb0 bb1 bbg
  have bb := Hbb.out.ext hxQ
  clear Hbb
  have bb0 := bb.at0
  have bb1 := bb.at1
  have bbg := bb.1
  have Hbb := Lib.hid bb
  clear bb
  clear bc0 bc1 bcg
  have bc := Hbc.out.ext hxQ
  clear Hbc
  have bc0 := bc.at0
  have bc1 := bc.at1
  have bcg := bc.1
  have Hbc := Lib.hid bc
  clear bc
  clear bd0 bd1 bdg
  have bd := Hbd.out.ext hxQ
  clear Hbd
  have bd0 := bd.at0
  have bd1 := bd.at1
  have bdg := bd.1
  have Hbd := Lib.hid bd
  clear bd
  obtain ⟨wb10, hwb10⟩ : ∃ x : World, x = wQ.alloc (.cells #[.slice Qs (nrV a).sets.length Qcs, .slice Qk (nrV a).links.length Qck] 27) := ⟨_, rfl⟩
  have hxwb10 : Ext wQ wb10 := by rw [hwb10]; exact (by repeat (first | exact Ext.refl _ | assumption | refine Ext.alloc ?_ _ | refine Ext.drew ?_ | refine Ext.drewN ?_ _ | refine Ext.setCell ?_ (by first | (simp; done) | (simp; omega) | omega) _ | refine Ext.trans ?_ (by assumption)))
  have Hbe := Lib.hid (show Boxed wb10 wQ.heap.size [.slice Qs (nrV a).sets.length Qcs, .slice Qk (nrV a).links.length Qck] from by rw [hwb10]; exact Boxed.new wQ [.slice Qs (nrV a).sets.length Qcs, .slice Qk (nrV a).links.length Qck] 27)
  go_wp2_with fail
  rw [← hwb10]
  clear hwb10
  have hz10 : wQ.heap.size ≤ wb10.heap.size := hxwb10.size
  clear ba0 ba1 bag
  have ba := Hba.out.ext hxwb10
  clear Hba
  have ba0 := ba.at0
  have ba1 := ba.at1
  have bag := ba.1
  have Hba := Lib.hid ba
  clear ba
  clear bb0 bb1 bbg
  have bb := Hbb.out.ext hxwb10
  clear Hbb
  have bb0 := bb.at0
  have bb1 := bb.at1
  have bbg := bb.1
  have Hbb := Lib.hid bb
  clear bb
  clear bc0 bc1 bcg
  have bc := Hbc.out.ext hxwb10
  clear Hbc
  have bc0 := bc.at0
  have bc1 := bc.at1
  have bcg := bc.1
  have Hbc := Lib.hid bc
  clear bc
  clear bd0 bd1 bdg
  have bd := Hbd.out.ext hxwb10
  clear Hbd
  have bd0 := bd.at0
  have bd1 := bd.at1
  have bdg := bd.1
  have Hbd := Lib.hid bd
  clear bd
  have be0 := Hbe.out.at0
  have be1 := Hbe.out.at1
  have beg := Hbe.out.1
  refine Calls.mono (spec_NarrowRound _ _ a _ (HP.out.up (((hxwb8.trans hxQ).trans hxwb10).trans (by repeat (first | exact Ext.refl _ | assumption | refine Ext.alloc ?_ _ | refine Ext.drew ?_ | refine Ext.drewN ?_ _ | refine Ext.setCell ?_ (by first | (simp; done) | (simp; omega) | omega) _ | refine Ext.trans ?_ (by assumption)))))) ?_
  intro e wT hp
  obtain ⟨Ts, Tcs, Tk, Tck, rfl, hxT, HT⟩ := hp.plain
  clear hp
  have hz11 : wb10.heap.size ≤ wT.heap.size := hxT.size
  clear ba0 ba1 bag
  have ba := Hba.out.ext hxT
  clear Hba
  have ba0 := ba.at0
  have ba1 := ba.at1
  have bag := ba.1
  have Hba := Lib.hid ba
  clear ba
  clear bb0 bb1 bbg
  have bb := Hbb.out.ext hxT
  clear Hbb
  have bb0 := bb.at0
  have bb1 := bb.at1
  have bbg := bb.1
  have Hbb := Lib.hid bb
  clear bb
  clear bc0 bc1 bcg
  have bc := Hbc.out.ext hxT
  clear Hbc
  have bc0 := bc.at0
  have bc1 := bc.at1
  have bcg := bc.1
  have Hbc := Lib.hid bc
  clear bc
  clear bd0 bd1 bdg
  have bd := Hbd.out.ext hxT
  clear Hbd
  have bd0 := bd.at0
  have bd1 := bd.at1
  have bdg := bd.1
  have Hbd := Lib.hid bd
  clear bd
  clear be0 be1 beg
  have be := Hbe.out.ext hxT
  clear Hbe
  have be0 := be.at0
  have be1 := be.at1
  have beg := be.1
  have Hbe := Lib.hid be
  clear be
  obtain ⟨wb12, hwb12⟩ : ∃ x : World, x = wT.alloc (.cells #[.slice Ts (nrV a).sets.length Tcs, .slice Tk (nrV a).links.length Tck] 27) := ⟨_, rfl⟩
  have hxwb12 : Ext wT wb12 := by rw [hwb12]; exact (by repeat (first | exact Ext.refl _ | assumption | refine Ext.alloc ?_ _ | refine Ext.drew ?_ | refine Ext.drewN ?_ _ | refine Ext.setCell ?_ (by first | (simp; done) | (simp; omega) | omega) _ | refine Ext.trans ?_ (by assumption)))
  have Hbf := Lib.hid (show Boxed wb12 wT.heap.size [.slice Ts (nrV a).sets.length Tcs, .slice Tk (nrV a).links.length Tck] from by rw [hwb12]; exact Boxed.new wT [.slice Ts (nrV a).sets.length Tcs, .slice Tk (nrV a).links.length Tck] 27)
  go_wp2_with fail
  rw [← hwb12]
  clear hwb12
  have hz12 : wT.heap.size ≤ wb12.heap.size := hxwb12.size
  clear ba0 ba1 bag
  have ba := Hba.out.ext hxwb12
  clear Hba
  have ba0 := ba.at0
  have ba1 := ba.at1
  have bag := ba.1
  have Hba := Lib.hid ba
  clear ba
  clear bb0 bb1 bbg
  have bb := Hbb.out.ext hxwb12
  clear Hbb
  have bb0 := bb.at0
  have bb1 := bb.at1
  have bbg := bb.1
  have Hbb := Lib.hid bb
  clear bb
  clear bc0 bc1 bcg
  have bc := Hbc.out.ext hxwb12
  clear Hbc
  have bc0 := bc.at0
  have bc1 := bc.at1
  have bcg := bc.1
  have Hbc := Lib.hid bc
  clear bc
  clear bd0 bd1 bdg
  have bd := Hbd.out.ext hxwb12
  clear Hbd
  have bd0 := bd.at0
  have bd1 := bd.at1
  have bdg := bd.1
  have Hbd := Lib.hid bd
  clear bd
  clear be0 be1 beg
  have be := Hbe.out.ext hxwb12
  clear Hbe
  have be0 := be.at0
  have be1 := be.at1
  have beg := be.1
  have Hbe := Lib.hid be
  clear be
  have bf0 := Hbf.out.at0
  have bf1 := Hbf.out.at1
  have bfg := Hbf.out.1
  refine Calls.mono (spec_DrawIsNarrow cn _ _ (H.out.up ((((((((((((hxN.trans hxwb2).trans hxM).trans hxwb4).trans hxR).trans hxwb6).trans hxP).trans hxwb8).trans hxQ).trans hxwb10).trans hxT).trans hxwb12).trans (by repeat (first | exact Ext.refl _ | assumption | refine Ext.alloc ?_ _ | refine Ext.drew ?_ | refine Ext.drewN ?_ _ | refine Ext.setCell ?_ (by first | (simp; done) | (simp; omega) | omega) _ | refine Ext.trans ?_ (by assumption)))))) ?_
  intro e wU hp
  obtain ⟨Us, Ucs, Uk, Uck, u, rfl, hxU, HU⟩ := hp.plain
  clear hp
  have hz13 : wb12.heap.size ≤ wU.heap.size := hxU.size
  clear ba0 ba1 bag
  have ba := Hba.out.ext hxU
  clear Hba
  have ba0 := ba.at0
  have ba1 := ba.at1
  have bag := ba.1
  have Hba := Lib.hid ba
  clear ba
  clear bb0 bb1 bbg
  have bb := Hbb.out.ext hxU
  clear Hbb
  have bb0 := bb.at0
  have bb1 := bb.at1
  have bbg := bb.1
  have Hbb := Lib.hid bb
  clear bb
  clear bc0 bc1 bcg
  have bc := Hbc.out.ext hxU
  clear Hbc
  have bc0 := bc.at0
  have bc1 := bc.at1
  have bcg := bc.1
  have Hbc := Lib.hid bc
  clear bc
  clear bd0 bd1 bdg
  have bd := Hbd.out.ext hxU
  clear Hbd
  have bd0 := bd.at0
  have bd1 := bd.at1
  have bdg := bd.1
  have Hbd := Lib.hid bd
  clear bd
  clear be0 be1 beg
  have be := Hbe.out.ext hxU
  clear Hbe
  have be0 := be.at0
  have be1 := be.at1
  have beg := be.1
  have Hbe := Lib.hid be
  clear be
  clear bf0 bf1 bfg
  have bf := Hbf.out.ext hxU
  clear Hbf
  have bf0 := bf.at0
  have bf1 := bf.at1
  have bfg := bf.1
  have Hbf := Lib.hid bf
  clear bf
  obtain ⟨wb14, hwb14⟩ : ∃ x : World, x = wU.alloc (.cells #[.slice Us u.sets.length Ucs, .slice Uk u.links.length Uck] 27) := ⟨_, rfl⟩
  have hxwb14 : Ext wU wb14 := by rw [hwb14]; exact (by repeat (first | exact Ext.refl _ | assumption | refine Ext.alloc ?_ _ | refine Ext.drew ?_ | refine Ext.drewN ?_ _ | refine Ext.setCell ?_ (by first | (simp; done) | (simp; omega) | omega) _ | refine Ext.trans ?_ (by assumption)))
  have Hbg := Lib.hid (show Boxed wb14 wU.heap.size [.slice Us u.sets.length Ucs, .slice Uk u.links.length Uck] from by rw [hwb14]; exact Boxed.new wU [.slice Us u.sets.length Ucs, .slice Uk u.links.length Uck] 27)
  go_wp2_with fail
  rw [← hwb14]
  clear hwb14
  have hz14 : wU.heap.size ≤ wb14.heap.size := hxwb14.size
  clear ba0 ba1 bag
  have ba := Hba.out.ext hxwb14
  clear Hba
  have ba0 := ba.at0
  have ba1 := ba.at1
  have bag := ba.1
  have Hba := Lib.hid ba
  clear ba
  clear bb0 bb1 bbg
  have bb := Hbb.out.ext hxwb14
  clear Hbb
  have bb0 := bb.at0
  have bb1 := bb.at1
  have bbg := bb.1
  have Hbb := Lib.hid bb
  clear bb
  clear bc0 bc1 bcg
  have bc := Hbc.out.ext hxwb14
  clear Hbc
  have bc0 := bc.at0
  have bc1 := bc.at1
  have bcg := bc.1
  have Hbc := Lib.hid bc
  clear bc
  clear bd0 bd1 bdg
  have bd := Hbd.out.ext hxwb14
  clear Hbd
  have bd0 := bd.at0
  have bd1 := bd.at1
  have bdg := bd.1
  have Hbd := Lib.hid bd
  clear bd
  clear be0 be1 beg
  have be := Hbe.out.ext hxwb14
  clear Hbe
  have be0 := be.at0
  have be1 := be.at1
  have beg := be.1
  have Hbe := Lib.hid be
  clear be
  clear bf0 bf1 bfg
  have bf := Hbf.out.ext hxwb14
  clear Hbf
  have bf0 := bf.at0
  have bf1 := bf.at1
  have bfg := bf.1
  have Hbf := Lib.hid bf
  clear bf
  have bg0 := Hbg.out.at0
  have bg1 := Hbg.out.at1
  have bgg := Hbg.out.1
  refine Calls.mono (impl_IsNarrow _ _ u _ (HU.out.up (hxwb14.trans (by repeat (first | exact Ext.refl _ | assumption | refine Ext.alloc ?_ _ | refine Ext.drew ?_ | refine Ext.drewN ?_ _ | refine Ext.setCell ?_ (by first | (simp; done) | (simp; omega) | omega) _ | refine Ext.trans ?_ (by assumption)))))) ?_
  rintro e wi0 ⟨rfl, hxi0⟩
  have hz15 : wb14.heap.size ≤ wi0.heap.size := hxi0.size
  clear ba0 ba1 bag
  have ba := Hba.out.ext hxi0
  clear Hba
  have ba0 := ba.at0
  have ba1 := ba.at1
  have bag := ba.1
  have Hba := Lib.hid ba
  clear ba
  clear bb0 bb1 bbg
  have bb := Hbb.out.ext hxi0
  clear Hbb
  have bb0 := bb.at0
  have bb1 := bb.at1
  have bbg := bb.1
  have Hbb := Lib.hid bb
  clear bb
  clear bc0 bc1 bcg
  have bc := Hbc.out.ext hxi0
  clear Hbc
  have bc0 := bc.at0
  have bc1 := bc.at1
  have bcg := bc.1
  have Hbc := Lib.hid bc
  clear bc
  clear bd0 bd1 bdg
  have bd := Hbd.out.ext hxi0
  clear Hbd
  have bd0 := bd.at0
  have bd1 := bd.at1
  have bdg := bd.1
  have Hbd := Lib.hid bd
  clear bd
  clear be0 be1 beg
  have be := Hbe.out.ext hxi0
  clear Hbe
  have be0 := be.at0
  have be1 := be.at1
  have beg := be.1
  have Hbe := Lib.hid be
  clear be
  clear bf0 bf1 bfg
  have bf := Hbf.out.ext hxi0
  clear Hbf
  have bf0 := bf.at0
  have bf1 := bf.at1
  have bfg := bf.1
  have Hbf := Lib.hid bf
  clear bf
  clear bg0 bg1 bgg
  have bg := Hbg.out.ext hxi0
  clear Hbg
  have bg0 := bg.at0
  have bg1 := bg.at1
  have bgg := bg.1
  have Hbg := Lib.hid bg
  clear bg
  go_wp2_with fail
  refine Calls.mono (spec_IsNarrow _ _ u _ (HU.out.up ((hxwb14.trans hxi0).trans (by repeat (first | exact Ext.refl _ | assumption | refine Ext.alloc ?_ _ | refine Ext.drew ?_ | refine Ext.drewN ?_ _ | refine Ext.setCell ?_ (by first | (simp; done) | (simp; omega) | omega) _ | refine Ext.trans ?_ (by assumption)))))) ?_
  rintro e wi1 ⟨rfl, hxi1⟩
  have hz16 : wi0.heap.size ≤ wi1.heap.size := hxi1.size
  clear ba0 ba1 bag
  have ba := Hba.out.ext hxi1
  clear Hba
  have ba0 := ba.at0
  have ba1 := ba.at1
  have bag := ba.1
  have Hba := Lib.hid ba
  clear ba
  clear bb0 bb1 bbg
  have bb := Hbb.out.ext hxi1
  clear Hbb
  have bb0 := bb.at0
  have bb1 := bb.at1
  have bbg := bb.1
  have Hbb := Lib.hid bb
  clear bb
  clear bc0 bc1 bcg
  have bc := Hbc.out.ext hxi1
  clear Hbc
  have bc0 := bc.at0
  have bc1 := bc.at1
  have bcg := bc.1
  have Hbc := Lib.hid bc
  clear bc
  clear bd0 bd1 bdg
  have bd := Hbd.out.ext hxi1
  clear Hbd
  have bd0 := bd.at0
  have bd1 := bd.at1
  have bdg := bd.1
  have Hbd := Lib.hid bd
  clear bd
  clear be0 be1 beg
  have be := Hbe.out.ext hxi1
  clear Hbe
  have be0 := be.at0
  have be1 := be.at1
  have beg := be.1
  have Hbe := Lib.hid be
  clear be
  clear bf0 bf1 bfg
  have bf := Hbf.out.ext hxi1
  clear Hbf
  have bf0 := bf.at0
  have bf1 := bf.at1
  have bfg := bf.1
  have Hbf := Lib.hid bf
  clear bf
  clear bg0 bg1 bgg
  have bg := Hbg.out.ext hxi1
  clear Hbg
  have bg0 := bg.at0
  have bg1 := bg.at1
  have bgg := bg.1
  have Hbg := Lib.hid bg
  clear bg
  go_wp2_with fail
  refine Calls.mono (spec_DrawLostDays cn _ _ (H.out.up ((((((((((((((((hxN.trans hxwb2).trans hxM).trans hxwb4).trans hxR).trans hxwb6).trans hxP).trans hxwb8).trans hxQ).trans hxwb10).trans hxT).trans hxwb12).trans hxU).trans hxwb14).trans hxi0).trans hxi1).trans (by repeat (first | exact Ext.refl _ | assumption | refine Ext.alloc ?_ _ | refine Ext.drew ?_ | refine Ext.drewN ?_ _ | refine Ext.setCell ?_ (by first | (simp; done) | (simp; omega) | omega) _ | refine Ext.trans ?_ (by assumption)))))) ?_
  intro e wL hp
  obtain ⟨Ds, Dcs, Dk, Dck, d, Es, Ecs, Ek, Eck, f, rfl, hxL, HD, HE⟩ := hp.plain
  clear hp
  have hz17 : wi1.heap.size ≤ wL.heap.size := hxL.size
  clear ba0 ba1 bag
  have ba := Hba.out.ext hxL
  clear Hba
  have ba0 := ba.at0
  have ba1 := ba.at1
  have bag := ba.1
  have Hba := Lib.hid ba
  clear ba
  clear bb0 bb1 bbg
  have bb := Hbb.out.ext hxL
  clear Hbb
  have bb0 := bb.at0
  have bb1 := bb.at1
  have bbg := bb.1
  have Hbb := Lib.hid bb
  clear bb
  clear bc0 bc1 bcg
  have bc := Hbc.out.ext hxL
  clear Hbc
  have bc0 := bc.at0
  have bc1 := bc.at1
  have bcg := bc.1
  have Hbc := Lib.hid bc
  clear bc
  clear bd0 bd1 bdg
  have bd := Hbd.out.ext hxL
  clear Hbd
  have bd0 := bd.at0
  have bd1 := bd.at1
  have bdg := bd.1
  have Hbd := Lib.hid bd
  clear bd
  clear be0 be1 beg
  have be := Hbe.out.ext hxL
  clear Hbe
  have be0 := be.at0
  have be1 := be.at1
  have beg := be.1
  have Hbe := Lib.hid be
  clear be
  clear bf0 bf1 bfg
  have bf := Hbf.out.ext hxL
  clear Hbf
  have bf0 := bf.at0
  have bf1 := bf.at1
  have bfg := bf.1
  have Hbf := Lib.hid bf
  clear bf
  clear bg0 bg1 bgg
  have bg := Hbg.out.ext hxL
  clear Hbg
  have bg0 := bg.at0
  have bg1 := bg.at1
  have bgg := bg.1
  have Hbg := Lib.hid bg
  clear bg
  obtain ⟨wx1, hwx1⟩ : ∃ x : World, x = wL.alloc (.cells #[.slice Ds d.sets.length Dcs, .slice Dk d.links.length Dck] 27) := ⟨_, rfl⟩
  have hxwx1 : Ext wL wx1 := by rw [hwx1]; exact (by repeat (first | exact Ext.refl _ | assumption | refine Ext.alloc ?_ _ | refine Ext.drew ?_ | refine Ext.drewN ?_ _ | refine Ext.setCell ?_ (by first | (simp; done) | (simp; omega) | omega) _ | refine Ext.trans ?_ (by assumption)))
  have hszwx1 : wx1.heap.size = wL.heap.size + 1 := by rw [hwx1]; simp
  have Hbh := Lib.hid (show Boxed wx1 wL.heap.size [.slice Ds d.sets.length Dcs, .slice Dk d.links.length Dck] from by rw [hwx1]; exact Boxed.new wL [.slice Ds d.sets.length Dcs, .slice Dk d.links.length Dck] 27)
  obtain ⟨wx2, hwx2⟩ : ∃ x : World, x = wx1.alloc (.cells #[.slice Es f.sets.length Ecs, .slice Ek f.links.length Eck] 27) := ⟨_, rfl⟩
  have hxwx2 : Ext wx1 wx2 := by rw [hwx2]; exact (by repeat (first | exact Ext.refl _ | assumption | refine Ext.alloc ?_ _ | refine Ext.drew ?_ | refine Ext.drewN ?_ _ | refine Ext.setCell ?_ (by first | (simp; done) | (simp; omega) | omega) _ | refine Ext.trans ?_ (by assumption)))
  have hszwx2 : wx2.heap.size = wx1.heap.size + 1 := by rw [hwx2]; simp
  have Hbi := Lib.hid (show Boxed wx2 wx1.heap.size [.slice Es f.sets.length Ecs, .slice Ek f.links.length Eck] from by rw [hwx2]; exact Boxed.new wx1 [.slice Es f.sets.length Ecs, .slice Ek f.links.length Eck] 27)
  have Hbi2 := Lib.hid (show Boxed wx2 (wL.heap.size + 1) [.slice Es f.sets.length Ecs, .slice Ek f.links.length Eck] from by rw [← hszwx1]; exact Hbi.out)
  clear Hbi
  have Hbi := Hbi2
  clear Hbi2
  go_wp2_with fail
  rw [← hwx1, ← hwx2]
  clear hwx1 hwx2
  have hz18 : wL.heap.size ≤ wx1.heap.size := hxwx1.size
  clear ba0 ba1 bag
  have ba := Hba.out.ext hxwx1
  clear Hba
  have ba0 := ba.at0
  have ba1 := ba.at1
  have bag := ba.1
  have Hba := Lib.hid ba
  clear ba
  clear bb0 bb1 bbg
  have bb := Hbb.out.ext hxwx1
  clear Hbb
  have bb0 := bb.at0
  have bb1 := bb.at1
  have bbg := bb.1
  have Hbb := Lib.hid bb
  clear bb
  clear bc0 bc1 bcg
  have bc := Hbc.out.ext hxwx1
  clear Hbc
  have bc0 := bc.at0
  have bc1 := bc.at1
  have bcg := bc.1
  have Hbc := Lib.hid bc
  clear bc
  clear bd0 bd1 bdg
  have bd := Hbd.out.ext hxwx1
  clear Hbd
  have bd0 := bd.at0
  have bd1 := bd.at1
  have bdg := bd.1
  have Hbd := Lib.hid bd
  clear bd
  clear be0 be1 beg
  have be := Hbe.out.ext hxwx1
  clear Hbe
  have be0 := be.at0
  have be1 := be.at1
  have beg := be.1
  have Hbe := Lib.hid be
  clear be
  clear bf0 bf1 bfg
  have bf := Hbf.out.ext hxwx1
  clear Hbf
  have bf0 := bf.at0
  have bf1 := bf.at1
  have bfg := bf.1
  have Hbf := Lib.hid bf
  clear bf
  clear bg0 bg1 bgg
  have bg := Hbg.out.ext hxwx1
  clear Hbg
  have bg0 := bg.at0
  have bg1 := bg.at1
  have bgg := bg.1
  have Hbg := Lib.hid bg
  clear bg
  have bh0 := Hbh.out.at0
  have bh1 := Hbh.out.at1
  have bhg := Hbh.out.1
  have hz19 : wx1.heap.size ≤ wx2.heap.size := hxwx2.size
  clear ba0 ba1 bag
  have ba := Hba.out.ext hxwx2
  clear Hba
  have ba0 := ba.at0
  have ba1 := ba.at1
  have bag := ba.1
  have Hba := Lib.hid ba
  clear ba
  clear bb0 bb1 bbg
  have bb := Hbb.out.ext hxwx2
  clear Hbb
  have bb0 := bb.at0
  have bb1 := bb.at1
  have bbg := bb.1
  have Hbb := Lib.hid bb
  clear bb
  clear bc0 bc1 bcg
  have bc := Hbc.out.ext hxwx2
  clear Hbc
  have bc0 := bc.at0
  have bc1 := bc.at1
  have bcg := bc.1
  have Hbc := Lib.hid bc
  clear bc
  clear bd0 bd1 bdg
  have bd := Hbd.out.ext hxwx2
  clear Hbd
  have bd0 := bd.at0
  have bd1 := bd.at1
  have bdg := bd.1
  have Hbd := Lib.hid bd
  clear bd
  clear be0 be1 beg
  have be := Hbe.out.ext hxwx2
  clear Hbe
  have be0 := be.at0
  have be1 := be.at1
  have beg := be.1
  have Hbe := Lib.hid be
  clear be
  clear bf0 bf1 bfg
  have bf := Hbf.out.ext hxwx2
  clear Hbf
  have bf0 := bf.at0
  have bf1 := bf.at1
  have bfg := bf.1
  have Hbf := Lib.hid bf
  clear bf
  clear bg0 bg1 bgg
  have bg := Hbg.out.ext hxwx2
  clear Hbg
  have bg0 := bg.at0
  have bg1 := bg.at1
  have bgg := bg.1
  have Hbg := Lib.hid bg
  clear bg
  clear bh0 bh1 bhg
  have bh := Hbh.out.ext hxwx2
  clear Hbh
  have bh0 := bh.at0
  have bh1 := bh.at1
  have bhg := bh.1
  have Hbh := Lib.hid bh
  clear bh
  have bi0 := Hbi.out.at0
  have bi1 := Hbi.out.at1
  have big := Hbi.out.1
  refine Calls.mono (impl_LostDays _ _ _ _ d f _ (HD.out.up ((hxwx1.trans hxwx2).trans (by repeat (first | exact Ext.refl _ | assumption | refine Ext.alloc ?_ _ | refine Ext.drew ?_ | refine Ext.drewN ?_ _ | refine Ext.setCell ?_ (by first | (simp; done) | (simp; omega) | omega) _ | refine Ext.trans ?_ (by assumption))))) (HE.out.up ((hxwx1.trans hxwx2).trans (by repeat (first | exact Ext.refl _ | assumption | refine Ext.alloc ?_ _ | refine Ext.drew ?_ | refine Ext.drewN ?_ _ | refine Ext.setCell ?_ (by first | (simp; done) | (simp; omega) | omega) _ | refine Ext.trans ?_ (by assumption)))))) ?_
  rintro e wj0 ⟨rfl, hxj0⟩
  have hz20 : wx2.heap.size ≤ wj0.heap.size := hxj0.size
  clear ba0 ba1 bag
  have ba := Hba.out.ext hxj0
  clear Hba
  have ba0 := ba.at0
  have ba1 := ba.at1
  have bag := ba.1
  have Hba := Lib.hid ba
  clear ba
  clear bb0 bb1 bbg
  have bb := Hbb.out.ext hxj0
  clear Hbb
  have bb0 := bb.at0
  have bb1 := bb.at1
  have bbg := bb.1
  have Hbb := Lib.hid bb
  clear bb
  clear bc0 bc1 bcg
  have bc := Hbc.out.ext hxj0
  clear Hbc
  have bc0 := bc.at0
  have bc1 := bc.at1
  have bcg := bc.1
  have Hbc := Lib.hid bc
  clear bc
  clear bd0 bd1 bdg
  have bd := Hbd.out.ext hxj0
  clear Hbd
  have bd0 := bd.at0
  have bd1 := bd.at1
  have bdg := bd.1
  have Hbd := Lib.hid bd
  clear bd
  clear be0 be1 beg
  have be := Hbe.out.ext hxj0
  clear Hbe
  have be0 := be.at0
  have be1 := be.at1
  have beg := be.1
  have Hbe := Lib.hid be
  clear be
  clear bf0 bf1 bfg
  have bf := Hbf.out.ext hxj0
  clear Hbf
  have bf0 := bf.at0
  have bf1 := bf.at1
  have bfg := bf.1
  have Hbf := Lib.hid bf
  clear bf
  clear bg0 bg1 bgg
  have bg := Hbg.out.ext hxj0
  clear Hbg
  have bg0 := bg.at0
  have bg1 := bg.at1
  have bgg := bg.1
  have Hbg := Lib.hid bg
  clear bg
  clear bh0 bh1 bhg
  have bh := Hbh.out.ext hxj0
  clear Hbh
  have bh0 := bh.at0
  have bh1 := bh.at1
  have bhg := bh.1
  have Hbh := Lib.hid bh
  clear bh
  clear bi0 bi1 big
  have bi := Hbi.out.ext hxj0
  clear Hbi
  have bi0 := bi.at0
  have bi1 := bi.at1
  have big := bi.1
  have Hbi := Lib.hid bi
  clear bi
  go_wp2_with fail
  refine Calls.mono (spec_LostDays _ _ _ _ d f _ (HD.out.up (((hxwx1.trans hxwx2).trans hxj0).trans (by repeat (first | exact Ext.refl _ | assumption | refine Ext.alloc ?_ _ | refine Ext.drew ?_ | refine Ext.drewN ?_ _ | refine Ext.setCell ?_ (by first | (simp; done) | (simp; omega) | omega) _ | refine Ext.trans ?_ (by assumption))))) (HE.out.up (((hxwx1.trans hxwx2).trans hxj0).trans (by repeat (first | exact Ext.refl _ | assumption | refine Ext.alloc ?_ _ | refine Ext.drew ?_ | refine Ext.drewN ?_ _ | refine Ext.setCell ?_ (by first | (simp; done) | (simp; omega) | omega) _ | refine Ext.trans ?_ (by assumption)))))) ?_
  rintro e wj1 ⟨rfl, hxj1⟩
  have hz21 : wj0.heap.size ≤ wj1.heap.size := hxj1.size
  clear ba0 ba1 bag
  have ba := Hba.out.ext hxj1
  clear Hba
  have ba0 := ba.at0
  have ba1 := ba.at1
  have bag := ba.1
  have Hba := Lib.hid ba
  clear ba
  clear bb0 bb1 bbg
  have bb := Hbb.out.ext hxj1
  clear Hbb
  have bb0 := bb.at0
  have bb1 := bb.at1
  have bbg := bb.1
  have Hbb := Lib.hid bb
  clear bb
  clear bc0 bc1 bcg
  have bc := Hbc.out.ext hxj1
  clear Hbc
  have bc0 := bc.at0
  have bc1 := bc.at1
  have bcg := bc.1
  have Hbc := Lib.hid bc
  clear bc
  clear bd0 bd1 bdg
  have bd := Hbd.out.ext hxj1
  clear Hbd
  have bd0 := bd.at0
  have bd1 := bd.at1
  have bdg := bd.1
  have Hbd := Lib.hid bd
  clear bd
  clear be0 be1 beg
  have be := Hbe.out.ext hxj1
  clear Hbe
  have be0 := be.at0
  have be1 := be.at1
  have beg := be.1
  have Hbe := Lib.hid be
  clear be
  clear bf0 bf1 bfg
  have bf := Hbf.out.ext hxj1
  clear Hbf
  have bf0 := bf.at0
  have bf1 := bf.at1
  have bfg := bf.1
  have Hbf := Lib.hid bf
  clear bf
  clear bg0 bg1 bgg
  have bg := Hbg.out.ext hxj1
  clear Hbg
  have bg0 := bg.at0
  have bg1 := bg.at1
  have bgg := bg.1
  have Hbg := Lib.hid bg
  clear bg
  clear bh0 bh1 bhg
  have bh := Hbh.out.ext hxj1
  clear Hbh
  have bh0 := bh.at0
  have bh1 := bh.at1
  have bhg := bh.1
  have Hbh := Lib.hid bh
  clear bh
  clear bi0 bi1 big
  have bi := Hbi.out.ext hxj1
  clear Hbi
  have bi0 := bi.at0
  have bi1 := bi.at1
  have big := bi.1
  have Hbi := Lib.hid bi
  clear bi
  go_wp2_with fail
  refine Calls.mono (laws_likeNetworks9 _ _ _ _ (naV n) _ (HM.out.up ((((((((((((((((((hxwb4.trans hxR).trans hxwb6).trans hxP).trans hxwb8).trans hxQ).trans hxwb10).trans hxT).trans hxwb12).trans hxU).trans hxwb14).trans hxi0).trans hxi1).trans hxL).trans hxwx1).trans hxwx2).trans hxj0).trans hxj1).trans (by repeat (first | exact Ext.refl _ | assumption | refine Ext.alloc ?_ _ | refine Ext.drew ?_ | refine Ext.drewN ?_ _ | refine Ext.setCell ?_ (by first | (simp; done) | (simp; omega) | omega) _ | refine Ext.trans ?_ (by assumption))))) (HR.out.up ((((((((((((((((hxwb6.trans hxP).trans hxwb8).trans hxQ).trans hxwb10).trans hxT).trans hxwb12).trans hxU).trans hxwb14).trans hxi0).trans hxi1).trans hxL).trans hxwx1).trans hxwx2).trans hxj0).trans hxj1).trans (by repeat (first | exact Ext.refl _ | assumption | refine Ext.alloc ?_ _ | refine Ext.drew ?_ | refine Ext.drewN ?_ _ | refine Ext.setCell ?_ (by first | (simp; done) | (simp; omega) | omega) _ | refine Ext.trans ?_ (by assumption)))))) ?_
  rintro e wt1 ⟨rfl, hxt1⟩
  have hz22 : wj1.heap.size ≤ wt1.heap.size := hxt1.size
  clear ba0 ba1 bag
  have ba := Hba.out.ext hxt1
  clear Hba
  have ba0 := ba.at0
  have ba1 := ba.at1
  have bag := ba.1
  have Hba := Lib.hid ba
  clear ba
  clear bb0 bb1 bbg
  have bb := Hbb.out.ext hxt1
  clear Hbb
  have bb0 := bb.at0
  have bb1 := bb.at1
  have bbg := bb.1
  have Hbb := Lib.hid bb
  clear bb
  clear bc0 bc1 bcg
  have bc := Hbc.out.ext hxt1
  clear Hbc
  have bc0 := bc.at0
  have bc1 := bc.at1
  have bcg := bc.1
  have Hbc := Lib.hid bc
  clear bc
  clear bd0 bd1 bdg
  have bd := Hbd.out.ext hxt1
  clear Hbd
  have bd0 := bd.at0
  have bd1 := bd.at1
  have bdg := bd.1
  have Hbd := Lib.hid bd
  clear bd
  clear be0 be1 beg
  have be := Hbe.out.ext hxt1
  clear Hbe
  have be0 := be.at0
  have be1 := be.at1
  have beg := be.1
  have Hbe := Lib.hid be
  clear be
  clear bf0 bf1 bfg
  have bf := Hbf.out.ext hxt1
  clear Hbf
  have bf0 := bf.at0
  have bf1 := bf.at1
  have bfg := bf.1
  have Hbf := Lib.hid bf
  clear bf
  clear bg0 bg1 bgg
  have bg := Hbg.out.ext hxt1
  clear Hbg
  have bg0 := bg.at0
  have bg1 := bg.at1
  have bgg := bg.1
  have Hbg := Lib.hid bg
  clear bg
  clear bh0 bh1 bhg
  have bh := Hbh.out.ext hxt1
  clear Hbh
  have bh0 := bh.at0
  have bh1 := bh.at1
  have bhg := bh.1
  have Hbh := Lib.hid bh
  clear bh
  clear bi0 bi1 big
  have bi := Hbi.out.ext hxt1
  clear Hbi
  have bi0 := bi.at0
  have bi1 := bi.at1
  have big := bi.1
  have Hbi := Lib.hid bi
  clear bi
  go_wp2_with fail
  refine Calls.mono (laws_likeNetworks9 _ _ _ _ (nrV a) _ (HQ.out.up (((((((((((((hxwb10.trans hxT).trans hxwb12).trans hxU).trans hxwb14).trans hxi0).trans hxi1).trans hxL).trans hxwx1).trans hxwx2).trans hxj0).trans hxj1).trans hxt1).trans (by repeat (first | exact Ext.refl _ | assumption | refine Ext.alloc ?_ _ | refine Ext.drew ?_ | refine Ext.drewN ?_ _ | refine Ext.setCell ?_ (by first | (simp; done) | (simp; omega) | omega) _ | refine Ext.trans ?_ (by assumption))))) (HT.out.up (((((((((((hxwb12.trans hxU).trans hxwb14).trans hxi0).trans hxi1).trans hxL).trans hxwx1).trans hxwx2).trans hxj0).trans hxj1).trans hxt1).trans (by repeat (first | exact Ext.refl _ | assumption | refine Ext.alloc ?_ _ | refine Ext.drew ?_ | refine Ext.drewN ?_ _ | refine Ext.setCell ?_ (by first | (simp; done) | (simp; omega) | omega) _ | refine Ext.trans ?_ (by assumption)))))) ?_
  rintro e wt2 ⟨rfl, hxt2⟩
  have hz23 : wt1.heap.size ≤ wt2.heap.size := hxt2.size
  clear ba0 ba1 bag
  have ba := Hba.out.ext hxt2
  clear Hba
  have ba0 := ba.at0
  have ba1 := ba.at1
  have bag := ba.1
  have Hba := Lib.hid ba
  clear ba
  clear bb0 bb1 bbg
  have bb := Hbb.out.ext hxt2
  clear Hbb
  have bb0 := bb.at0
  have bb1 := bb.at1
  have bbg := bb.1
  have Hbb := Lib.hid bb
  clear bb
  clear bc0 bc1 bcg
  have bc := Hbc.out.ext hxt2
  clear Hbc
  have bc0 := bc.at0
  have bc1 := bc.at1
  have bcg := bc.1
  have Hbc := Lib.hid bc
  clear bc
  clear bd0 bd1 bdg
  have bd := Hbd.out.ext hxt2
  clear Hbd
  have bd0 := bd.at0
  have bd1 := bd.at1
  have bdg := bd.1
  have Hbd := Lib.hid bd
  clear bd
  clear be0 be1 beg
  have be := Hbe.out.ext hxt2
  clear Hbe
  have be0 := be.at0
  have be1 := be.at1
  have beg := be.1
  have Hbe := Lib.hid be
  clear be
  clear bf0 bf1 bfg
  have bf := Hbf.out.ext hxt2
  clear Hbf
  have bf0 := bf.at0
  have bf1 := bf.at1
  have bfg := bf.1
  have Hbf := Lib.hid bf
  clear bf
  clear bg0 bg1 bgg
  have bg := Hbg.out.ext hxt2
  clear Hbg
  have bg0 := bg.at0
  have bg1 := bg.at1
  have bgg := bg.1
  have Hbg := Lib.hid bg
  clear bg
  clear bh0 bh1 bhg
  have bh := Hbh.out.ext hxt2
  clear Hbh
  have bh0 := bh.at0
  have bh1 := bh.at1
  have bhg := bh.1
  have Hbh := Lib.hid bh
  clear bh
  clear bi0 bi1 big
  have bi := Hbi.out.ext hxt2
  clear Hbi
  have bi0 := bi.at0
  have bi1 := bi.at1
  have big := bi.1
  have Hbi := Lib.hid bi
  clear bi
  by_cases h1 : nrE a = 0
  · obtain ⟨j1, j2, j3, j4⟩ := nr_lost h1
    go_wp2_with fail
    refine Calls.mono (impl_LostDays _ _ _ _ a (nrV a) _ (HP.out.up ((((((((((((((((hxwb8.trans hxQ).trans hxwb10).trans hxT).trans hxwb12).trans hxU).trans hxwb14).trans hxi0).trans hxi1).trans hxL).trans hxwx1).trans hxwx2).trans hxj0).trans hxj1).trans hxt1).trans hxt2).trans (by repeat (first | exact Ext.refl _ | assumption | refine Ext.alloc ?_ _ | refine Ext.drew ?_ | refine Ext.drewN ?_ _ | refine Ext.setCell ?_ (by first | (simp; done) | (simp; omega) | omega) _ | refine Ext.trans ?_ (by assumption))))) (HQ.out.up ((((((((((((((hxwb10.trans hxT).trans hxwb12).trans hxU).trans hxwb14).trans hxi0).trans hxi1).trans hxL).trans hxwx1).trans hxwx2).trans hxj0).trans hxj1).trans hxt1).trans hxt2).trans (by repeat (first | exact Ext.refl _ | assumption | refine Ext.alloc ?_ _ | refine Ext.drew ?_ | refine Ext.drewN ?_ _ | refine Ext.setCell ?_ (by first | (simp; done) | (simp; omega) | omega) _ | refine Ext.trans ?_ (by assumption)))))) ?_
    rintro e wv1 ⟨rfl, hxv1⟩
    rw [j1]
    have hz24 : wt2.heap.size ≤ wv1.heap.size := hxv1.size
    clear ba0 ba1 bag
    have ba := Hba.out.ext hxv1
    clear Hba
    have ba0 := ba.at0
    have ba1 := ba.at1
    have bag := ba.1
    have Hba := Lib.hid ba
    clear ba
    clear bb0 bb1 bbg
    have bb := Hbb.out.ext hxv1
    clear Hbb
    have bb0 := bb.at0
    have bb1 := bb.at1
    have bbg := bb.1
    have Hbb := Lib.hid bb
    clear bb
    clear bc0 bc1 bcg
    have bc := Hbc.out.ext hxv1
    clear Hbc
    have bc0 := bc.at0
    have bc1 := bc.at1
    have bcg := bc.1
    have Hbc := Lib.hid bc
    clear bc
    clear bd0 bd1 bdg
    have bd := Hbd.out.ext hxv1
    clear Hbd
    have bd0 := bd.at0
    have bd1 := bd.at1
    have bdg := bd.1
    have Hbd := Lib.hid bd
    clear bd
    clear be0 be1 beg
    have be := Hbe.out.ext hxv1
    clear Hbe
    have be0 := be.at0
    have be1 := be.at1
    have beg := be.1
    have Hbe := Lib.hid be
    clear be
    clear bf0 bf1 bfg
    have bf := Hbf.out.ext hxv1
    clear Hbf
    have bf0 := bf.at0
    have bf1 := bf.at1
    have bfg := bf.1
    have Hbf := Lib.hid bf
    clear bf
    clear bg0 bg1 bgg
    have bg := Hbg.out.ext hxv1
    clear Hbg
    have bg0 := bg.at0
    have bg1 := bg.at1
    have bgg := bg.1
    have Hbg := Lib.hid bg
    clear bg
    clear bh0 bh1 bhg
    have bh := Hbh.out.ext hxv1
    clear Hbh
    have bh0 := bh.at0
    have bh1 := bh.at1
    have bhg := bh.1
    have Hbh := Lib.hid bh
    clear bh
    clear bi0 bi1 big
    have bi := Hbi.out.ext hxv1
    clear Hbi
    have bi0 := bi.at0
    have bi1 := bi.at1
    have big := bi.1
    have Hbi := Lib.hid bi
    clear bi
    go_wp2_with fail
    refine Calls.mono (impl_IsNarrow _ _ a _ (HP.out.up (((((((((((((((((hxwb8.trans hxQ).trans hxwb10).trans hxT).trans hxwb12).trans hxU).trans hxwb14).trans hxi0).trans hxi1).trans hxL).trans hxwx1).trans hxwx2).trans hxj0).trans hxj1).trans hxt1).trans hxt2).trans hxv1).trans (by repeat (first | exact Ext.refl _ | assumption | refine Ext.alloc ?_ _ | refine Ext.drew ?_ | refine Ext.drewN ?_ _ | refine Ext.setCell ?_ (by first | (simp; done) | (simp; omega) | omega) _ | refine Ext.trans ?_ (by assumption)))))) ?_
    rintro e wv2 ⟨rfl, hxv2⟩
    rw [j3, j4]
    have hz25 : wv1.heap.size ≤ wv2.heap.size := hxv2.size
    clear ba0 ba1 bag
    have ba := Hba.out.ext hxv2
    clear Hba
    have ba0 := ba.at0
    have ba1 := ba.at1
    have bag := ba.1
    have Hba := Lib.hid ba
    clear ba
    clear bb0 bb1 bbg
    have bb := Hbb.out.ext hxv2
    clear Hbb
    have bb0 := bb.at0
    have bb1 := bb.at1
    have bbg := bb.1
    have Hbb := Lib.hid bb
    clear bb
    clear bc0 bc1 bcg
    have bc := Hbc.out.ext hxv2
    clear Hbc
    have bc0 := bc.at0
    have bc1 := bc.at1
    have bcg := bc.1
    have Hbc := Lib.hid bc
    clear bc
    clear bd0 bd1 bdg
    have bd := Hbd.out.ext hxv2
    clear Hbd
    have bd0 := bd.at0
    have bd1 := bd.at1
    have bdg := bd.1
    have Hbd := Lib.hid bd
    clear bd
    clear be0 be1 beg
    have be := Hbe.out.ext hxv2
    clear Hbe
    have be0 := be.at0
    have be1 := be.at1
    have beg := be.1
    have Hbe := Lib.hid be
    clear be
    clear bf0 bf1 bfg
    have bf := Hbf.out.ext hxv2
    clear Hbf
    have bf0 := bf.at0
    have bf1 := bf.at1
    have bfg := bf.1
    have Hbf := Lib.hid bf
    clear bf
    clear bg0 bg1 bgg
    have bg := Hbg.out.ext hxv2
    clear Hbg
    have bg0 := bg.at0
    have bg1 := bg.at1
    have bgg := bg.1
    have Hbg := Lib.hid bg
    clear bg
    clear bh0 bh1 bhg
    have bh := Hbh.out.ext hxv2
    clear Hbh
    have bh0 := bh.at0
    have bh1 := bh.at1
    have bhg := bh.1
    have Hbh := Lib.hid bh
    clear bh
    clear bi0 bi1 big
    have bi := Hbi.out.ext hxv2
    clear Hbi
    have bi0 := bi.at0
    have bi1 := bi.at1
    have big := bi.1
    have Hbi := Lib.hid bi
    clear bi
    generalize lostV a (nrV a) = la at *
    have hla : ¬ la < 0 := by omega
    clear j1 j3 j4 h1
    by_cases h2 : naE n = 0
    case neg =>
      have h2f : (naE n == 0) = false := by simpa using h2
      go_wp2_with fail
      go_ret
      exact ⟨rfl, (((((((((((((((((((((((((hxN.trans hxwb2).trans hxM).trans hxwb4).trans hxR).trans hxwb6).trans hxP).trans hxwb8).trans hxQ).trans hxwb10).trans hxT).trans hxwb12).trans hxU).trans hxwb14).trans hxi0).trans hxi1).trans hxL).trans hxwx1).trans hxwx2).trans hxj0).trans hxj1).trans hxt1).trans hxt2).trans hxv1).trans hxv2).trans (by repeat (first | exact Ext.refl _ | assumption | refine Ext.alloc ?_ _ | refine Ext.drew ?_ | refine Ext.drewN ?_ _ | refine Ext.setCell ?_ (by first | (simp; done) | (simp; omega) | omega) _ | refine Ext.trans ?_ (by assumption))))⟩
    obtain ⟨k1, k2, k3, k4, k5⟩ := na_law h2
    go_wp2_with fail
    refine Calls.mono (impl_IsNarrow _ _ (naV n) _ (HM.out.up ((((((((((((((((((((((hxwb4.trans hxR).trans hxwb6).trans hxP).trans hxwb8).trans hxQ).trans hxwb10).trans hxT).trans hxwb12).trans hxU).trans hxwb14).trans hxi0).trans hxi1).trans hxL).trans hxwx1).trans hxwx2).trans hxj0).trans hxj1).trans hxt1).trans hxt2).trans hxv1).trans hxv2).trans (by repeat (first | exact Ext.refl _ | assumption | refine Ext.alloc ?_ _ | refine Ext.drew ?_ | refine Ext.drewN ?_ _ | refine Ext.setCell ?_ (by first | (simp; done) | (simp; omega) | omega) _ | refine Ext.trans ?_ (by assumption)))))) ?_
    rintro e wu1 ⟨rfl, hxu1⟩
    rw [k1, k2]
    have hz26 : wv2.heap.size ≤ wu1.heap.size := hxu1.size
    clear ba0 ba1 bag
    have ba := Hba.out.ext hxu1
    clear Hba
    have ba0 := ba.at0
    have ba1 := ba.at1
    have bag := ba.1
    have Hba := Lib.hid ba
    clear ba
    clear bb0 bb1 bbg
    have bb := Hbb.out.ext hxu1
    clear Hbb
    have bb0 := bb.at0
    have bb1 := bb.at1
    have bbg := bb.1
    have Hbb := Lib.hid bb
    clear bb
    clear bc0 bc1 bcg
    have bc := Hbc.out.ext hxu1
    clear Hbc
    have bc0 := bc.at0
    have bc1 := bc.at1
    have bcg := bc.1
    have Hbc := Lib.hid bc
    clear bc
    clear bd0 bd1 bdg
    have bd := Hbd.out.ext hxu1
    clear Hbd
    have bd0 := bd.at0
    have bd1 := bd.at1
    have bdg := bd.1
    have Hbd := Lib.hid bd
    clear bd
    clear be0 be1 beg
    have be := Hbe.out.ext hxu1
    clear Hbe
    have be0 := be.at0
    have be1 := be.at1
    have beg := be.1
    have Hbe := Lib.hid be
    clear be
    clear bf0 bf1 bfg
    have bf := Hbf.out.ext hxu1
    clear Hbf
    have bf0 := bf.at0
    have bf1 := bf.at1
    have bfg := bf.1
    have Hbf := Lib.hid bf
    clear bf
    clear bg0 bg1 bgg
    have bg := Hbg.out.ext hxu1
    clear Hbg
    have bg0 := bg.at0
    have bg1 := bg.at1
    have bgg := bg.1
    have Hbg := Lib.hid bg
    clear bg
    clear bh0 bh1 bhg
    have bh := Hbh.out.ext hxu1
    clear Hbh
    have bh0 := bh.at0
    have bh1 := bh.at1
    have bhg := bh.1
    have Hbh := Lib.hid bh
    clear bh
    clear bi0 bi1 big
    have bi := Hbi.out.ext hxu1
    clear Hbi
    have bi0 := bi.at0
    have bi1 := bi.at1
    have big := bi.1
    have Hbi := Lib.hid bi
    clear bi
    go_wp2_with fail
    refine Calls.mono (impl_LostDays _ _ _ _ n (naV n) _ (HN.out.up (((((((((((((((((((((((((hxwb2.trans hxM).trans hxwb4).trans hxR).trans hxwb6).trans hxP).trans hxwb8).trans hxQ).trans hxwb10).trans hxT).trans hxwb12).trans hxU).trans hxwb14).trans hxi0).trans hxi1).trans hxL).trans hxwx1).trans hxwx2).trans hxj0).trans hxj1).trans hxt1).trans hxt2).trans hxv1).trans hxv2).trans hxu1).trans (by repeat (first | exact Ext.refl _ | assumption | refine Ext.alloc ?_ _ | refine Ext.drew ?_ | refine Ext.drewN ?_ _ | refine Ext.setCell ?_ (by first | (simp; done) | (simp; omega) | omega) _ | refine Ext.trans ?_ (by assumption))))) (HM.out.up (((((((((((((((((((((((hxwb4.trans hxR).trans hxwb6).trans hxP).trans hxwb8).trans hxQ).trans hxwb10).trans hxT).trans hxwb12).trans hxU).trans hxwb14).trans hxi0).trans hxi1).trans hxL).trans hxwx1).trans hxwx2).trans hxj0).trans hxj1).trans hxt1).trans hxt2).trans hxv1).trans hxv2).trans hxu1).trans (by repeat (first | exact Ext.refl _ | assumption | refine Ext.alloc ?_ _ | refine Ext.drew ?_ | refine Ext.drewN ?_ _ | refine Ext.setCell ?_ (by first | (simp; done) | (simp; omega) | omega) _ | refine Ext.trans ?_ (by assumption)))))) ?_
    rintro e wu2 ⟨rfl, hxu2⟩
    rw [k3]
    have hz27 : wu1.heap.size ≤ wu2.heap.size := hxu2.size
    clear ba0 ba1 bag
    have ba := Hba.out.ext hxu2
    clear Hba
    have ba0 := ba.at0
    have ba1 := ba.at1
    have bag := ba.1
    have Hba := Lib.hid ba
    clear ba
    clear bb0 bb1 bbg
    have bb := Hbb.out.ext hxu2
    clear Hbb
    have bb0 := bb.at0
    have bb1 := bb.at1
    have bbg := bb.1
    have Hbb := Lib.hid bb
    clear bb
    clear bc0 bc1 bcg
    have bc := Hbc.out.ext hxu2
    clear Hbc
    have bc0 := bc.at0
    have bc1 := bc.at1
    have bcg := bc.1
    have Hbc := Lib.hid bc
    clear bc
    clear bd0 bd1 bdg
    have bd := Hbd.out.ext hxu2
    clear Hbd
    have bd0 := bd.at0
    have bd1 := bd.at1
    have bdg := bd.1
    have Hbd := Lib.hid bd
    clear bd
    clear be0 be1 beg
    have be := Hbe.out.ext hxu2
    clear Hbe
    have be0 := be.at0
    have be1 := be.at1
    have beg := be.1
    have Hbe := Lib.hid be
    clear be
    clear bf0 bf1 bfg
    have bf := Hbf.out.ext hxu2
    clear Hbf
    have bf0 := bf.at0
    have bf1 := bf.at1
    have bfg := bf.1
    have Hbf := Lib.hid bf
    clear bf
    clear bg0 bg1 bgg
    have bg := Hbg.out.ext hxu2
    clear Hbg
    have bg0 := bg.at0
    have bg1 := bg.at1
    have bgg := bg.1
    have Hbg := Lib.hid bg
    clear bg
    clear bh0 bh1 bhg
    have bh := Hbh.out.ext hxu2
    clear Hbh
    have bh0 := bh.at0
    have bh1 := bh.at1
    have bhg := bh.1
    have Hbh := Lib.hid bh
    clear bh
    clear bi0 bi1 big
    have bi := Hbi.out.ext hxu2
    clear Hbi
    have bi0 := bi.at0
    have bi1 := bi.at1
    have big := bi.1
    have Hbi := Lib.hid bi
    clear bi
    have k6 : decide (0 ≤ lostV n (naV n)) = true := decide_eq_true k4
    generalize lostV n (naV n) = lv at *
    generalize naC n = nc at *
    clear k1 k2 k3 h2
    go_wp2_with fail
    go_ret
    exact ⟨rfl, ((((((((((((((((((((((((((hxN.trans hxwb2).trans hxM).trans hxwb4).trans hxR).trans hxwb6).trans hxP).trans hxwb8).trans hxQ).trans hxwb10).trans hxT).trans hxwb12).trans hxU).trans hxwb14).trans hxi0).trans hxi1).trans hxL).trans hxwx1).trans hxwx2).trans hxj0).trans hxj1).trans hxt1).trans hxt2).trans hxv1).trans hxv2).trans hxu1).trans hxu2)⟩
  · have h1f : (nrE a == 0) = false := by simpa using h1
    by_cases h2 : naE n = 0
    case neg =>
      have h2f : (naE n == 0) = false := by simpa using h2
      go_wp2_with fail
      go_ret
      exact ⟨rfl, (((((((((((((((((((((((hxN.trans hxwb2).trans hxM).trans hxwb4).trans hxR).trans hxwb6).trans hxP).trans hxwb8).trans hxQ).trans hxwb10).trans hxT).trans hxwb12).trans hxU).trans hxwb14).trans hxi0).trans hxi1).trans hxL).trans hxwx1).trans hxwx2).trans hxj0).trans hxj1).trans hxt1).trans hxt2).trans (by repeat (first | exact Ext.refl _ | assumption | refine Ext.alloc ?_ _ | refine Ext.drew ?_ | refine Ext.drewN ?_ _ | refine Ext.setCell ?_ (by first | (simp; done) | (simp; omega) | omega) _ | refine Ext.trans ?_ (by assumption))))⟩
    obtain ⟨k1, k2, k3, k4, k5⟩ := na_law h2
    go_wp2_with fail
    refine Calls.mono (impl_IsNarrow _ _ (naV n) _ (HM.out.up ((((((((((((((((((((hxwb4.trans hxR).trans hxwb6).trans hxP).trans hxwb8).trans hxQ).trans hxwb10).trans hxT).trans hxwb12).trans hxU).trans hxwb14).trans hxi0).trans hxi1).trans hxL).trans hxwx1).trans hxwx2).trans hxj0).trans hxj1).trans hxt1).trans hxt2).trans (by repeat (first | exact Ext.refl _ | assumption | refine Ext.alloc ?_ _ | refine Ext.drew ?_ | refine Ext.drewN ?_ _ | refine Ext.setCell ?_ (by first | (simp; done) | (simp; omega) | omega) _ | refine Ext.trans ?_ (by assumption)))))) ?_
    rintro e wu1 ⟨rfl, hxu1⟩
    rw [k1, k2]
    have hz24 : wt2.heap.size ≤ wu1.heap.size := hxu1.size
    clear ba0 ba1 bag
    have ba := Hba.out.ext hxu1
    clear Hba
    have ba0 := ba.at0
    have ba1 := ba.at1
    have bag := ba.1
    have Hba := Lib.hid ba
    clear ba
    clear bb0 bb1 bbg
    have bb := Hbb.out.ext hxu1
    clear Hbb
    have bb0 := bb.at0
    have bb1 := bb.at1
    have bbg := bb.1
    have Hbb := Lib.hid bb
    clear bb
    clear bc0 bc1 bcg
    have bc := Hbc.out.ext hxu1
    clear Hbc
    have bc0 := bc.at0
    have bc1 := bc.at1
    have bcg := bc.1
    have Hbc := Lib.hid bc
    clear bc
    clear bd0 bd1 bdg
    have bd := Hbd.out.ext hxu1
    clear Hbd
    have bd0 := bd.at0
    have bd1 := bd.at1
    have bdg := bd.1
    have Hbd := Lib.hid bd
    clear bd
    clear be0 be1 beg
    have be := Hbe.out.ext hxu1
    clear Hbe
    have be0 := be.at0
    have be1 := be.at1
    have beg := be.1
    have Hbe := Lib.hid be
    clear be
    clear bf0 bf1 bfg
    have bf := Hbf.out.ext hxu1
    clear Hbf
    have bf0 := bf.at0
    have bf1 := bf.at1
    have bfg := bf.1
    have Hbf := Lib.hid bf
    clear bf
    clear bg0 bg1 bgg
    have bg := Hbg.out.ext hxu1
    clear Hbg
    have bg0 := bg.at0
    have bg1 := bg.at1
    have bgg := bg.1
    have Hbg := Lib.hid bg
    clear bg
    clear bh0 bh1 bhg
    have bh := Hbh.out.ext hxu1
    clear Hbh
    have bh0 := bh.at0
    have bh1 := bh.at1
    have bhg := bh.1
    have Hbh := Lib.hid bh
    clear bh
    clear bi0 bi1 big
    have bi := Hbi.out.ext hxu1
    clear Hbi
    have bi0 := bi.at0
    have bi1 := bi.at1
    have big := bi.1
    have Hbi := Lib.hid bi
    clear bi
    go_wp2_with fail
    refine Calls.mono (impl_LostDays _ _ _ _ n (naV n) _ (HN.out.up (((((((((((((((((((((((hxwb2.trans hxM).trans hxwb4).trans hxR).trans hxwb6).trans hxP).trans hxwb8).trans hxQ).trans hxwb10).trans hxT).trans hxwb12).trans hxU).trans hxwb14).trans hxi0).trans hxi1).trans hxL).trans hxwx1).trans hxwx2).trans hxj0).trans hxj1).trans hxt1).trans hxt2).trans hxu1).trans (by repeat (first | exact Ext.refl _ | assumption | refine Ext.alloc ?_ _ | refine Ext.drew ?_ | refine Ext.drewN ?_ _ | refine Ext.setCell ?_ (by first | (simp; done) | (simp; omega) | omega) _ | refine Ext.trans ?_ (by assumption))))) (HM.out.up (((((((((((((((((((((hxwb4.trans hxR).trans hxwb6).trans hxP).trans hxwb8).trans hxQ).trans hxwb10).trans hxT).trans hxwb12).trans hxU).trans hxwb14).trans hxi0).trans hxi1).trans hxL).trans hxwx1).trans hxwx2).trans hxj0).trans hxj1).trans hxt1).trans hxt2).trans hxu1).trans (by repeat (first | exact Ext.refl _ | assumption | refine Ext.alloc ?_ _ | refine Ext.drew ?_ | refine Ext.drewN ?_ _ | refine Ext.setCell ?_ (by first | (simp; done) | (simp; omega) | omega) _ | refine Ext.trans ?_ (by assumption)))))) ?_
    rintro e wu2 ⟨rfl, hxu2⟩
    rw [k3]
    have hz25 : wu1.heap.size ≤ wu2.heap.size := hxu2.size
    clear ba0 ba1 bag
    have ba := Hba.out.ext hxu2
    clear Hba
    have ba0 := ba.at0
    have ba1 := ba.at1
    have bag := ba.1
    have Hba := Lib.hid ba
    clear ba
    clear bb0 bb1 bbg
    have bb := Hbb.out.ext hxu2
    clear Hbb
    have bb0 := bb.at0
    have bb1 := bb.at1
    have bbg := bb.1
    have Hbb := Lib.hid bb
    clear bb
    clear bc0 bc1 bcg
    have bc := Hbc.out.ext hxu2
    clear Hbc
    have bc0 := bc.at0
    have bc1 := bc.at1
    have bcg := bc.1
    have Hbc := Lib.hid bc
    clear bc
    clear bd0 bd1 bdg
    have bd := Hbd.out.ext hxu2
    clear Hbd
    have bd0 := bd.at0
    have bd1 := bd.at1
    have bdg := bd.1
    have Hbd := Lib.hid bd
    clear bd
    clear be0 be1 beg
    have be := Hbe.out.ext hxu2
    clear Hbe
    have be0 := be.at0
    have be1 := be.at1
    have beg := be.1
    have Hbe := Lib.hid be
    clear be
    clear bf0 bf1 bfg
    have bf := Hbf.out.ext hxu2
    clear Hbf
    have bf0 := bf.at0
    have bf1 := bf.at1
    have bfg := bf.1
    have Hbf := Lib.hid bf
    clear bf
    clear bg0 bg1 bgg
    have bg := Hbg.out.ext hxu2
    clear Hbg
    have bg0 := bg.at0
    have bg1 := bg.at1
    have bgg := bg.1
    have Hbg := Lib.hid bg
    clear bg
    clear bh0 bh1 bhg
    have bh := Hbh.out.ext hxu2
    clear Hbh
    have bh0 := bh.at0
    have bh1 := bh.at1
    have bhg := bh.1
    have Hbh := Lib.hid bh
    clear bh
    clear bi0 bi1 big
    have bi := Hbi.out.ext hxu2
    clear Hbi
    have bi0 := bi.at0
    have bi1 := bi.at1
    have big := bi.1
    have Hbi := Lib.hid bi
    clear bi
    have k6 : decide (0 ≤ lostV n (naV n)) = true := decide_eq_true k4
    generalize lostV n (naV n) = lv at *
    generalize naC n = nc at *
    clear k1 k2 k3 h2
    go_wp2_with fail
    go_ret
    exact ⟨rfl, ((((((((((((((((((((((((hxN.trans hxwb2).trans hxM).trans hxwb4).trans hxR).trans hxwb6).trans hxP).trans hxwb8).trans hxQ).trans hxwb10).trans hxT).trans hxwb12).trans hxU).trans hxwb14).trans hxi0).trans hxi1).trans hxL).trans hxwx1).trans hxwx2).trans hxj0).trans hxj1).trans hxt1).trans hxt2).trans hxu1).trans hxu2)⟩
end Go.Proofs.Ytfajmlkiidnhlaa
