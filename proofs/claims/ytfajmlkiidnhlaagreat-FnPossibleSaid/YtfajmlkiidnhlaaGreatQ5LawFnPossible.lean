/- The law FnPossible, walked out of the contracts of the draws, the program's functions and the reference's. -/
import Derived.Test.YtfajmlkiidnhlaaGreatQ3Yc
import Derived.Test.YtfajmlkiidnhlaaGreatQ5Yf
import Derived.Test.YtfajmlkiidnhlaaGreatQ5Yj
import Derived.Test.YtfajmlkiidnhlaaGreatQ5Dn
import Derived.Test.YtfajmlkiidnhlaaGreatQ5Pk
import Derived.Test.YtfajmlkiidnhlaaGreatQ5Pq
import Derived.Test.YtfajmlkiidnhlaaGreatQ3Ha
import Derived.Deep.RegionHeld3
import Derived.IntWalk
namespace Go.Proofs.YtfajmlkiidnhlaaGreat
set_option linter.unusedVariables false
set_option linter.unusedSimpArgs false
open Go.RowKit
attribute [local go_sem] cell_onto

theorem NewSps2.plainO {l : List Sp} {e0 : Int} {w w' : World} {e : Ending} (h : NewSps2 l e0 w e w') : ∃ A c, e = .returned (.tuple #[.slice A l.length c, .int .i64 e0]) ∧ Ext w w' ∧ Hid (Spans w' 0 w'.heap.size (.slice A l.length c) l) := by
  obtain ⟨v, g, he, hx, h1, h2⟩ := h
  obtain ⟨A, c, rfl⟩ := h2.len
  exact ⟨A, c, he, hx, h2.row (fun h0 => ⟨Nat.zero_le _, h2.lt h0⟩)⟩
theorem DNetXX.plainO {w w' : World} {e : Ending} (h : DNetXX w e w') : ∃ As cs Ak ck n x y, e = .returned (.tuple #[.agg #[.slice As n.sets.length cs, .slice Ak n.links.length ck], .int .i64 x, .int .i64 y]) ∧ Ext w w' ∧ Hid (NetIn w' (.slice As n.sets.length cs) (.slice Ak n.links.length ck) n) := by
  obtain ⟨s, k, n, x, y, he, hx, h1⟩ := h
  have h2 := h1.all (Nat.le_refl _)
  obtain ⟨As, cs, Ak, ck, rfl, rfl⟩ := h2.out2
  exact ⟨As, cs, Ak, ck, n, x, y, he, hx, h2⟩
theorem Bytes.wideO {w : World} {hi hi' n : Nat} {v : Value} (h : Bytes w 0 hi v n) (hh : hi ≤ hi') : Bytes w 0 hi' v n := by
  obtain ⟨h0, f, h1, h2⟩ := h
  exact ⟨h0, f, h1.mono (Nat.le_refl _) hh, h2⟩
theorem Bytes.upO {w w' : World} {n : Nat} {v : Value} (h : Bytes w 0 w.heap.size v n) (hx : Ext w w') : Bytes w' 0 w'.heap.size v n := (h.ext hx (Nat.le_refl _)).wideO hx.size
theorem ext_keepO {w w' : World} {p q i : Nat} {a b c : Value} (hx : Ext w w') (hp : p < w.heap.size) (h0 : w.cell? ⟨p, 0, none⟩ = some a) (h1 : w.cell? ⟨p, 1, none⟩ = some b) (hq : q < w.heap.size) (h2 : w.cell? ⟨q, i, none⟩ = some c) :
    Ext w w' ∧ w'.cell? ⟨p, 0, none⟩ = some a ∧ w'.cell? ⟨p, 1, none⟩ = some b ∧ w'.cell? ⟨q, i, none⟩ = some c :=
  ⟨hx, (hx.cell (p := ⟨p, 0, none⟩) hp).trans h0, (hx.cell (p := ⟨p, 1, none⟩) hp).trans h1, (hx.cell (p := ⟨q, i, none⟩) hq).trans h2⟩
set_option maxRecDepth 100000 in
set_option maxHeartbeats 16000000 in
theorem law_FnPossible (v : Value) (cn : Nat) (w : World) (h : Byts w v cn) : Calls Tryz.prog 4 #[v] w (RetX (.bool true) w) := by
  obtain ⟨A, c, rfl⟩ := h.len
  have HX := Lib.hid h
  clear h
  go_enter Tryz.func4, Tryz.ntmps4
  go_wp2_with fail
  by_cases hbig : cn ≤ 4096
  case neg =>
    refine Calls.mono (laws_big_yes cn A c w hbig) ?_
    rintro e w' ⟨rfl, rfl⟩
    go_wp2_with fail
    go_ret
    exact ⟨rfl, (by repeat (first | exact Ext.refl _ | assumption | refine Ext.alloc ?_ _ | refine Ext.drew ?_ | refine Ext.drewN ?_ _ | refine Ext.setCell ?_ (by first | (simp; done) | (simp; omega) | omega) _ | refine Ext.trans ?_ (by assumption)))⟩
  have H := Lib.hid (HX.out.few hbig)
  refine Calls.mono (laws_big_no cn A c w hbig) ?_
  rintro e w' ⟨rfl, rfl⟩
  clear HX hbig
  go_wp2_with fail
  refine Calls.mono (spec_DrawPossibleDays cn _ _ (H.out.up (by repeat (first | exact Ext.refl _ | assumption | refine Ext.alloc ?_ _ | refine Ext.drew ?_ | refine Ext.drewN ?_ _ | refine Ext.setCell ?_ (by first | (simp; done) | (simp; omega) | omega) _ | refine Ext.trans ?_ (by assumption))))) ?_
  intro e wN hp
  obtain ⟨Ns, Ncs, Nk, Nck, n, v, rfl, hxN, HN⟩ := hp.plain
  clear hp
  have hz1 : w.heap.size ≤ wN.heap.size := hxN.size
  obtain ⟨wb2, hwb2⟩ : ∃ x : World, x = wN.alloc (.cells #[.slice Ns n.sets.length Ncs, .slice Nk n.links.length Nck] 27) := ⟨_, rfl⟩
  have hxwb2 : Ext wN wb2 := by rw [hwb2]; exact (by repeat (first | exact Ext.refl _ | assumption | refine Ext.alloc ?_ _ | refine Ext.drew ?_ | refine Ext.drewN ?_ _ | refine Ext.setCell ?_ (by first | (simp; done) | (simp; omega) | omega) _ | refine Ext.trans ?_ (by assumption)))
  have Hba := Lib.hid (show Boxed wb2 wN.heap.size [.slice Ns n.sets.length Ncs, .slice Nk n.links.length Nck] from by rw [hwb2]; exact Boxed.new wN [.slice Ns n.sets.length Ncs, .slice Nk n.links.length Nck] 27)
  go_wp2_with fail
  rw [← hwb2]
  clear hwb2
  have hz2 : wN.heap.size ≤ wb2.heap.size := hxwb2.size
  have ba0 := Hba.out.at0
  have ba1 := Hba.out.at1
  have bag := Hba.out.1
  refine Calls.mono (impl_PossibleDays _ _ n v _ (HN.out.up (hxwb2.trans (by repeat (first | exact Ext.refl _ | assumption | refine Ext.alloc ?_ _ | refine Ext.drew ?_ | refine Ext.drewN ?_ _ | refine Ext.setCell ?_ (by first | (simp; done) | (simp; omega) | omega) _ | refine Ext.trans ?_ (by assumption)))))) ?_
  intro e wP hp
  obtain ⟨Pa, Pc, rfl, hxP, IP⟩ := hp.plainO
  clear hp
  have hz3 : wb2.heap.size ≤ wP.heap.size := hxP.size
  clear ba0 ba1 bag
  have ba := Hba.out.ext hxP
  clear Hba
  have ba0 := ba.at0
  have ba1 := ba.at1
  have bag := ba.1
  have Hba := Lib.hid ba
  clear ba
  go_wp2_with fail
  refine Calls.mono (spec_PossibleDays _ _ n v _ (HN.out.up ((hxwb2.trans hxP).trans (by repeat (first | exact Ext.refl _ | assumption | refine Ext.alloc ?_ _ | refine Ext.drew ?_ | refine Ext.drewN ?_ _ | refine Ext.setCell ?_ (by first | (simp; done) | (simp; omega) | omega) _ | refine Ext.trans ?_ (by assumption)))))) ?_
  intro e wQ hp
  obtain ⟨Qa, Qc, rfl, hxQ, IQ⟩ := hp.plainO
  clear hp
  have hz4 : wP.heap.size ≤ wQ.heap.size := hxQ.size
  clear ba0 ba1 bag
  have ba := Hba.out.ext hxQ
  clear Hba
  have ba0 := ba.at0
  have ba1 := ba.at1
  have bag := ba.1
  have Hba := Lib.hid ba
  clear ba
  go_wp2_with fail
  refine Calls.mono (spec_DrawSolvedNetwork cn _ _ (H.out.up ((((hxN.trans hxwb2).trans hxP).trans hxQ).trans (by repeat (first | exact Ext.refl _ | assumption | refine Ext.alloc ?_ _ | refine Ext.drew ?_ | refine Ext.drewN ?_ _ | refine Ext.setCell ?_ (by first | (simp; done) | (simp; omega) | omega) _ | refine Ext.trans ?_ (by assumption)))))) ?_
  intro e wR hp
  obtain ⟨Rs, Rcs, Rk, Rck, a, rfl, hxR, HR⟩ := hp.plain
  clear hp
  have hz5 : wQ.heap.size ≤ wR.heap.size := hxR.size
  clear ba0 ba1 bag
  have ba := Hba.out.ext hxR
  clear Hba
  have ba0 := ba.at0
  have ba1 := ba.at1
  have bag := ba.1
  have Hba := Lib.hid ba
  clear ba
  obtain ⟨wb6, hwb6⟩ : ∃ x : World, x = wR.alloc (.cells #[.slice Rs a.sets.length Rcs, .slice Rk a.links.length Rck] 27) := ⟨_, rfl⟩
  have hxwb6 : Ext wR wb6 := by rw [hwb6]; exact (by repeat (first | exact Ext.refl _ | assumption | refine Ext.alloc ?_ _ | refine Ext.drew ?_ | refine Ext.drewN ?_ _ | refine Ext.setCell ?_ (by first | (simp; done) | (simp; omega) | omega) _ | refine Ext.trans ?_ (by assumption)))
  have Hbb := Lib.hid (show Boxed wb6 wR.heap.size [.slice Rs a.sets.length Rcs, .slice Rk a.links.length Rck] from by rw [hwb6]; exact Boxed.new wR [.slice Rs a.sets.length Rcs, .slice Rk a.links.length Rck] 27)
  go_wp2_with fail
  rw [← hwb6]
  clear hwb6
  have hz6 : wR.heap.size ≤ wb6.heap.size := hxwb6.size
  clear ba0 ba1 bag
  have ba := Hba.out.ext hxwb6
  clear Hba
  have ba0 := ba.at0
  have ba1 := ba.at1
  have bag := ba.1
  have Hba := Lib.hid ba
  clear ba
  have bb0 := Hbb.out.at0
  have bb1 := Hbb.out.at1
  have bbg := Hbb.out.1
  refine Calls.mono (impl_SolvedNetwork _ _ a _ (HR.out.up (hxwb6.trans (by repeat (first | exact Ext.refl _ | assumption | refine Ext.alloc ?_ _ | refine Ext.drew ?_ | refine Ext.drewN ?_ _ | refine Ext.setCell ?_ (by first | (simp; done) | (simp; omega) | omega) _ | refine Ext.trans ?_ (by assumption)))))) ?_
  intro e wM hp
  obtain ⟨Ms, Mcs, Mk, Mck, rfl, hxM, HM⟩ := hp.plain
  clear hp
  have hz7 : wb6.heap.size ≤ wM.heap.size := hxM.size
  clear ba0 ba1 bag
  have ba := Hba.out.ext hxM
  clear Hba
  have ba0 := ba.at0
  have ba1 := ba.at1
  have bag := ba.1
  have Hba := Lib.hid ba
  clear ba
  clear bb0 bb1 bbg
  have bb := Hbb.out.ext hxM
  clear Hbb
  have bb0 := bb.at0
  have bb1 := bb.at1
  have bbg := bb.1
  have Hbb := Lib.hid bb
  clear bb
  obtain ⟨wb8, hwb8⟩ : ∃ x : World, x = wM.alloc (.cells #[.slice Ms (svV a).sets.length Mcs, .slice Mk (svV a).links.length Mck] 27) := ⟨_, rfl⟩
  have hxwb8 : Ext wM wb8 := by rw [hwb8]; exact (by repeat (first | exact Ext.refl _ | assumption | refine Ext.alloc ?_ _ | refine Ext.drew ?_ | refine Ext.drewN ?_ _ | refine Ext.setCell ?_ (by first | (simp; done) | (simp; omega) | omega) _ | refine Ext.trans ?_ (by assumption)))
  have Hbc := Lib.hid (show Boxed wb8 wM.heap.size [.slice Ms (svV a).sets.length Mcs, .slice Mk (svV a).links.length Mck] from by rw [hwb8]; exact Boxed.new wM [.slice Ms (svV a).sets.length Mcs, .slice Mk (svV a).links.length Mck] 27)
  go_wp2_with fail
  rw [← hwb8]
  clear hwb8
  have hz8 : wM.heap.size ≤ wb8.heap.size := hxwb8.size
  clear ba0 ba1 bag
  have ba := Hba.out.ext hxwb8
  clear Hba
  have ba0 := ba.at0
  have ba1 := ba.at1
  have bag := ba.1
  have Hba := Lib.hid ba
  clear ba
  clear bb0 bb1 bbg
  have bb := Hbb.out.ext hxwb8
  clear Hbb
  have bb0 := bb.at0
  have bb1 := bb.at1
  have bbg := bb.1
  have Hbb := Lib.hid bb
  clear bb
  have bc0 := Hbc.out.at0
  have bc1 := Hbc.out.at1
  have bcg := Hbc.out.1
  refine Calls.mono (spec_SolvedNetwork _ _ a _ (HR.out.up (((hxwb6.trans hxM).trans hxwb8).trans (by repeat (first | exact Ext.refl _ | assumption | refine Ext.alloc ?_ _ | refine Ext.drew ?_ | refine Ext.drewN ?_ _ | refine Ext.setCell ?_ (by first | (simp; done) | (simp; omega) | omega) _ | refine Ext.trans ?_ (by assumption)))))) ?_
  intro e wL hp
  obtain ⟨Ls, Lcs, Lk, Lck, rfl, hxL, HL⟩ := hp.plain
  clear hp
  have hz9 : wb8.heap.size ≤ wL.heap.size := hxL.size
  clear ba0 ba1 bag
  have ba := Hba.out.ext hxL
  clear Hba
  have ba0 := ba.at0
  have ba1 := ba.at1
  have bag := ba.1
  have Hba := Lib.hid ba
  clear ba
  clear bb0 bb1 bbg
  have bb := Hbb.out.ext hxL
  clear Hbb
  have bb0 := bb.at0
  have bb1 := bb.at1
  have bbg := bb.1
  have Hbb := Lib.hid bb
  clear bb
  clear bc0 bc1 bcg
  have bc := Hbc.out.ext hxL
  clear Hbc
  have bc0 := bc.at0
  have bc1 := bc.at1
  have bcg := bc.1
  have Hbc := Lib.hid bc
  clear bc
  obtain ⟨wb10, hwb10⟩ : ∃ x : World, x = wL.alloc (.cells #[.slice Ls (svV a).sets.length Lcs, .slice Lk (svV a).links.length Lck] 27) := ⟨_, rfl⟩
  have hxwb10 : Ext wL wb10 := by rw [hwb10]; exact (by repeat (first | exact Ext.refl _ | assumption | refine Ext.alloc ?_ _ | refine Ext.drew ?_ | refine Ext.drewN ?_ _ | refine Ext.setCell ?_ (by first | (simp; done) | (simp; omega) | omega) _ | refine Ext.trans ?_ (by assumption)))
  have Hbd := Lib.hid (show Boxed wb10 wL.heap.size [.slice Ls (svV a).sets.length Lcs, .slice Lk (svV a).links.length Lck] from by rw [hwb10]; exact Boxed.new wL [.slice Ls (svV a).sets.length Lcs, .slice Lk (svV a).links.length Lck] 27)
  go_wp2_with fail
  rw [← hwb10]
  clear hwb10
  have hz10 : wL.heap.size ≤ wb10.heap.size := hxwb10.size
  clear ba0 ba1 bag
  have ba := Hba.out.ext hxwb10
  clear Hba
  have ba0 := ba.at0
  have ba1 := ba.at1
  have bag := ba.1
  have Hba := Lib.hid ba
  clear ba
  clear bb0 bb1 bbg
  have bb := Hbb.out.ext hxwb10
  clear Hbb
  have bb0 := bb.at0
  have bb1 := bb.at1
  have bbg := bb.1
  have Hbb := Lib.hid bb
  clear bb
  clear bc0 bc1 bcg
  have bc := Hbc.out.ext hxwb10
  clear Hbc
  have bc0 := bc.at0
  have bc1 := bc.at1
  have bcg := bc.1
  have Hbc := Lib.hid bc
  clear bc
  have bd0 := Hbd.out.at0
  have bd1 := Hbd.out.at1
  have bdg := Hbd.out.1
  refine Calls.mono (spec_DrawFixDay cn _ _ (H.out.up ((((((((((hxN.trans hxwb2).trans hxP).trans hxQ).trans hxR).trans hxwb6).trans hxM).trans hxwb8).trans hxL).trans hxwb10).trans (by repeat (first | exact Ext.refl _ | assumption | refine Ext.alloc ?_ _ | refine Ext.drew ?_ | refine Ext.drewN ?_ _ | refine Ext.setCell ?_ (by first | (simp; done) | (simp; omega) | omega) _ | refine Ext.trans ?_ (by assumption)))))) ?_
  intro e wB hp
  obtain ⟨Bs, Bcs, Bk, Bck, b, xv, yd, rfl, hxB, HB⟩ := hp.plainO
  clear hp
  have hz11 : wb10.heap.size ≤ wB.heap.size := hxB.size
  clear ba0 ba1 bag
  have ba := Hba.out.ext hxB
  clear Hba
  have ba0 := ba.at0
  have ba1 := ba.at1
  have bag := ba.1
  have Hba := Lib.hid ba
  clear ba
  clear bb0 bb1 bbg
  have bb := Hbb.out.ext hxB
  clear Hbb
  have bb0 := bb.at0
  have bb1 := bb.at1
  have bbg := bb.1
  have Hbb := Lib.hid bb
  clear bb
  clear bc0 bc1 bcg
  have bc := Hbc.out.ext hxB
  clear Hbc
  have bc0 := bc.at0
  have bc1 := bc.at1
  have bcg := bc.1
  have Hbc := Lib.hid bc
  clear bc
  clear bd0 bd1 bdg
  have bd := Hbd.out.ext hxB
  clear Hbd
  have bd0 := bd.at0
  have bd1 := bd.at1
  have bdg := bd.1
  have Hbd := Lib.hid bd
  clear bd
  obtain ⟨wb12, hwb12⟩ : ∃ x : World, x = wB.alloc (.cells #[.slice Bs b.sets.length Bcs, .slice Bk b.links.length Bck] 27) := ⟨_, rfl⟩
  have hxwb12 : Ext wB wb12 := by rw [hwb12]; exact (by repeat (first | exact Ext.refl _ | assumption | refine Ext.alloc ?_ _ | refine Ext.drew ?_ | refine Ext.drewN ?_ _ | refine Ext.setCell ?_ (by first | (simp; done) | (simp; omega) | omega) _ | refine Ext.trans ?_ (by assumption)))
  have Hbe := Lib.hid (show Boxed wb12 wB.heap.size [.slice Bs b.sets.length Bcs, .slice Bk b.links.length Bck] from by rw [hwb12]; exact Boxed.new wB [.slice Bs b.sets.length Bcs, .slice Bk b.links.length Bck] 27)
  go_wp2_with fail
  rw [← hwb12]
  clear hwb12
  have hz12 : wB.heap.size ≤ wb12.heap.size := hxwb12.size
  clear ba0 ba1 bag
  have ba := Hba.out.ext hxwb12
  clear Hba
  have ba0 := ba.at0
  have ba1 := ba.at1
  have bag := ba.1
  have Hba := Lib.hid ba
  clear ba
  clear bb0 bb1 bbg
  have bb := Hbb.out.ext hxwb12
  clear Hbb
  have bb0 := bb.at0
  have bb1 := bb.at1
  have bbg := bb.1
  have Hbb := Lib.hid bb
  clear bb
  clear bc0 bc1 bcg
  have bc := Hbc.out.ext hxwb12
  clear Hbc
  have bc0 := bc.at0
  have bc1 := bc.at1
  have bcg := bc.1
  have Hbc := Lib.hid bc
  clear bc
  clear bd0 bd1 bdg
  have bd := Hbd.out.ext hxwb12
  clear Hbd
  have bd0 := bd.at0
  have bd1 := bd.at1
  have bdg := bd.1
  have Hbd := Lib.hid bd
  clear bd
  have be0 := Hbe.out.at0
  have be1 := Hbe.out.at1
  have beg := Hbe.out.1
  refine Calls.mono (impl_FixDay _ _ b xv yd _ (HB.out.up (hxwb12.trans (by repeat (first | exact Ext.refl _ | assumption | refine Ext.alloc ?_ _ | refine Ext.drew ?_ | refine Ext.drewN ?_ _ | refine Ext.setCell ?_ (by first | (simp; done) | (simp; omega) | omega) _ | refine Ext.trans ?_ (by assumption)))))) ?_
  intro e wE hp
  obtain ⟨Es, Ecs, Ek, Eck, rfl, hxE, HE⟩ := hp.plain
  clear hp
  have hz13 : wb12.heap.size ≤ wE.heap.size := hxE.size
  clear ba0 ba1 bag
  have ba := Hba.out.ext hxE
  clear Hba
  have ba0 := ba.at0
  have ba1 := ba.at1
  have bag := ba.1
  have Hba := Lib.hid ba
  clear ba
  clear bb0 bb1 bbg
  have bb := Hbb.out.ext hxE
  clear Hbb
  have bb0 := bb.at0
  have bb1 := bb.at1
  have bbg := bb.1
  have Hbb := Lib.hid bb
  clear bb
  clear bc0 bc1 bcg
  have bc := Hbc.out.ext hxE
  clear Hbc
  have bc0 := bc.at0
  have bc1 := bc.at1
  have bcg := bc.1
  have Hbc := Lib.hid bc
  clear bc
  clear bd0 bd1 bdg
  have bd := Hbd.out.ext hxE
  clear Hbd
  have bd0 := bd.at0
  have bd1 := bd.at1
  have bdg := bd.1
  have Hbd := Lib.hid bd
  clear bd
  clear be0 be1 beg
  have be := Hbe.out.ext hxE
  clear Hbe
  have be0 := be.at0
  have be1 := be.at1
  have beg := be.1
  have Hbe := Lib.hid be
  clear be
  obtain ⟨wb14, hwb14⟩ : ∃ x : World, x = wE.alloc (.cells #[.slice Es (fixV b xv yd).sets.length Ecs, .slice Ek (fixV b xv yd).links.length Eck] 27) := ⟨_, rfl⟩
  have hxwb14 : Ext wE wb14 := by rw [hwb14]; exact (by repeat (first | exact Ext.refl _ | assumption | refine Ext.alloc ?_ _ | refine Ext.drew ?_ | refine Ext.drewN ?_ _ | refine Ext.setCell ?_ (by first | (simp; done) | (simp; omega) | omega) _ | refine Ext.trans ?_ (by assumption)))
  have Hbf := Lib.hid (show Boxed wb14 wE.heap.size [.slice Es (fixV b xv yd).sets.length Ecs, .slice Ek (fixV b xv yd).links.length Eck] from by rw [hwb14]; exact Boxed.new wE [.slice Es (fixV b xv yd).sets.length Ecs, .slice Ek (fixV b xv yd).links.length Eck] 27)
  go_wp2_with fail
  rw [← hwb14]
  clear hwb14
  have hz14 : wE.heap.size ≤ wb14.heap.size := hxwb14.size
  clear ba0 ba1 bag
  have ba := Hba.out.ext hxwb14
  clear Hba
  have ba0 := ba.at0
  have ba1 := ba.at1
  have bag := ba.1
  have Hba := Lib.hid ba
  clear ba
  clear bb0 bb1 bbg
  have bb := Hbb.out.ext hxwb14
  clear Hbb
  have bb0 := bb.at0
  have bb1 := bb.at1
  have bbg := bb.1
  have Hbb := Lib.hid bb
  clear bb
  clear bc0 bc1 bcg
  have bc := Hbc.out.ext hxwb14
  clear Hbc
  have bc0 := bc.at0
  have bc1 := bc.at1
  have bcg := bc.1
  have Hbc := Lib.hid bc
  clear bc
  clear bd0 bd1 bdg
  have bd := Hbd.out.ext hxwb14
  clear Hbd
  have bd0 := bd.at0
  have bd1 := bd.at1
  have bdg := bd.1
  have Hbd := Lib.hid bd
  clear bd
  clear be0 be1 beg
  have be := Hbe.out.ext hxwb14
  clear Hbe
  have be0 := be.at0
  have be1 := be.at1
  have beg := be.1
  have Hbe := Lib.hid be
  clear be
  have bf0 := Hbf.out.at0
  have bf1 := Hbf.out.at1
  have bfg := Hbf.out.1
  refine Calls.mono (spec_FixDay _ _ b xv yd _ (HB.out.up (((hxwb12.trans hxE).trans hxwb14).trans (by repeat (first | exact Ext.refl _ | assumption | refine Ext.alloc ?_ _ | refine Ext.drew ?_ | refine Ext.drewN ?_ _ | refine Ext.setCell ?_ (by first | (simp; done) | (simp; omega) | omega) _ | refine Ext.trans ?_ (by assumption)))))) ?_
  intro e wF hp
  obtain ⟨Fs, Fcs, Fk, Fck, rfl, hxF, HF⟩ := hp.plain
  clear hp
  have hz15 : wb14.heap.size ≤ wF.heap.size := hxF.size
  clear ba0 ba1 bag
  have ba := Hba.out.ext hxF
  clear Hba
  have ba0 := ba.at0
  have ba1 := ba.at1
  have bag := ba.1
  have Hba := Lib.hid ba
  clear ba
  clear bb0 bb1 bbg
  have bb := Hbb.out.ext hxF
  clear Hbb
  have bb0 := bb.at0
  have bb1 := bb.at1
  have bbg := bb.1
  have Hbb := Lib.hid bb
  clear bb
  clear bc0 bc1 bcg
  have bc := Hbc.out.ext hxF
  clear Hbc
  have bc0 := bc.at0
  have bc1 := bc.at1
  have bcg := bc.1
  have Hbc := Lib.hid bc
  clear bc
  clear bd0 bd1 bdg
  have bd := Hbd.out.ext hxF
  clear Hbd
  have bd0 := bd.at0
  have bd1 := bd.at1
  have bdg := bd.1
  have Hbd := Lib.hid bd
  clear bd
  clear be0 be1 beg
  have be := Hbe.out.ext hxF
  clear Hbe
  have be0 := be.at0
  have be1 := be.at1
  have beg := be.1
  have Hbe := Lib.hid be
  clear be
  clear bf0 bf1 bfg
  have bf := Hbf.out.ext hxF
  clear Hbf
  have bf0 := bf.at0
  have bf1 := bf.at1
  have bfg := bf.1
  have Hbf := Lib.hid bf
  clear bf
  obtain ⟨wb16, hwb16⟩ : ∃ x : World, x = wF.alloc (.cells #[.slice Fs (fixV b xv yd).sets.length Fcs, .slice Fk (fixV b xv yd).links.length Fck] 27) := ⟨_, rfl⟩
  have hxwb16 : Ext wF wb16 := by rw [hwb16]; exact (by repeat (first | exact Ext.refl _ | assumption | refine Ext.alloc ?_ _ | refine Ext.drew ?_ | refine Ext.drewN ?_ _ | refine Ext.setCell ?_ (by first | (simp; done) | (simp; omega) | omega) _ | refine Ext.trans ?_ (by assumption)))
  have Hbg := Lib.hid (show Boxed wb16 wF.heap.size [.slice Fs (fixV b xv yd).sets.length Fcs, .slice Fk (fixV b xv yd).links.length Fck] from by rw [hwb16]; exact Boxed.new wF [.slice Fs (fixV b xv yd).sets.length Fcs, .slice Fk (fixV b xv yd).links.length Fck] 27)
  go_wp2_with fail
  rw [← hwb16]
  clear hwb16
  have hz16 : wF.heap.size ≤ wb16.heap.size := hxwb16.size
  clear ba0 ba1 bag
  have ba := Hba.out.ext hxwb16
  clear Hba
  have ba0 := ba.at0
  have ba1 := ba.at1
  have bag := ba.1
  have Hba := Lib.hid ba
  clear ba
  clear bb0 bb1 bbg
  have bb := Hbb.out.ext hxwb16
  clear Hbb
  have bb0 := bb.at0
  have bb1 := bb.at1
  have bbg := bb.1
  have Hbb := Lib.hid bb
  clear bb
  clear bc0 bc1 bcg
  have bc := Hbc.out.ext hxwb16
  clear Hbc
  have bc0 := bc.at0
  have bc1 := bc.at1
  have bcg := bc.1
  have Hbc := Lib.hid bc
  clear bc
  clear bd0 bd1 bdg
  have bd := Hbd.out.ext hxwb16
  clear Hbd
  have bd0 := bd.at0
  have bd1 := bd.at1
  have bdg := bd.1
  have Hbd := Lib.hid bd
  clear bd
  clear be0 be1 beg
  have be := Hbe.out.ext hxwb16
  clear Hbe
  have be0 := be.at0
  have be1 := be.at1
  have beg := be.1
  have Hbe := Lib.hid be
  clear be
  clear bf0 bf1 bfg
  have bf := Hbf.out.ext hxwb16
  clear Hbf
  have bf0 := bf.at0
  have bf1 := bf.at1
  have bfg := bf.1
  have Hbf := Lib.hid bf
  clear bf
  have bg0 := Hbg.out.at0
  have bg1 := Hbg.out.at1
  have bgg := Hbg.out.1
  refine Calls.mono (laws_likeSpans9 _ _ (psL n v) _ (Spans.up (IP.out.up (((((((((((((hxQ.trans hxR).trans hxwb6).trans hxM).trans hxwb8).trans hxL).trans hxwb10).trans hxB).trans hxwb12).trans hxE).trans hxwb14).trans hxF).trans hxwb16).trans (by repeat (first | exact Ext.refl _ | assumption | refine Ext.alloc ?_ _ | refine Ext.drew ?_ | refine Ext.drewN ?_ _ | refine Ext.setCell ?_ (by first | (simp; done) | (simp; omega) | omega) _ | refine Ext.trans ?_ (by assumption))))) (Ext.refl _)) (Spans.up (IQ.out.up ((((((((((((hxR.trans hxwb6).trans hxM).trans hxwb8).trans hxL).trans hxwb10).trans hxB).trans hxwb12).trans hxE).trans hxwb14).trans hxF).trans hxwb16).trans (by repeat (first | exact Ext.refl _ | assumption | refine Ext.alloc ?_ _ | refine Ext.drew ?_ | refine Ext.drewN ?_ _ | refine Ext.setCell ?_ (by first | (simp; done) | (simp; omega) | omega) _ | refine Ext.trans ?_ (by assumption))))) (Ext.refl _))) ?_
  rintro e wt1 ⟨rfl, hxt1⟩
  have hz17 : wb16.heap.size ≤ wt1.heap.size := hxt1.size
  clear ba0 ba1 bag
  have ba := Hba.out.ext hxt1
  clear Hba
  have ba0 := ba.at0
  have ba1 := ba.at1
  have bag := ba.1
  have Hba := Lib.hid ba
  clear ba
  clear bb0 bb1 bbg
  have bb := Hbb.out.ext hxt1
  clear Hbb
  have bb0 := bb.at0
  have bb1 := bb.at1
  have bbg := bb.1
  have Hbb := Lib.hid bb
  clear bb
  clear bc0 bc1 bcg
  have bc := Hbc.out.ext hxt1
  clear Hbc
  have bc0 := bc.at0
  have bc1 := bc.at1
  have bcg := bc.1
  have Hbc := Lib.hid bc
  clear bc
  clear bd0 bd1 bdg
  have bd := Hbd.out.ext hxt1
  clear Hbd
  have bd0 := bd.at0
  have bd1 := bd.at1
  have bdg := bd.1
  have Hbd := Lib.hid bd
  clear bd
  clear be0 be1 beg
  have be := Hbe.out.ext hxt1
  clear Hbe
  have be0 := be.at0
  have be1 := be.at1
  have beg := be.1
  have Hbe := Lib.hid be
  clear be
  clear bf0 bf1 bfg
  have bf := Hbf.out.ext hxt1
  clear Hbf
  have bf0 := bf.at0
  have bf1 := bf.at1
  have bfg := bf.1
  have Hbf := Lib.hid bf
  clear bf
  clear bg0 bg1 bgg
  have bg := Hbg.out.ext hxt1
  clear Hbg
  have bg0 := bg.at0
  have bg1 := bg.at1
  have bgg := bg.1
  have Hbg := Lib.hid bg
  clear bg
  go_wp2_with fail
  refine Calls.mono (laws_likeNetworks9 _ _ _ _ (svV a) _ (HM.out.up ((((((((((hxwb8.trans hxL).trans hxwb10).trans hxB).trans hxwb12).trans hxE).trans hxwb14).trans hxF).trans hxwb16).trans hxt1).trans (by repeat (first | exact Ext.refl _ | assumption | refine Ext.alloc ?_ _ | refine Ext.drew ?_ | refine Ext.drewN ?_ _ | refine Ext.setCell ?_ (by first | (simp; done) | (simp; omega) | omega) _ | refine Ext.trans ?_ (by assumption))))) (HL.out.up ((((((((hxwb10.trans hxB).trans hxwb12).trans hxE).trans hxwb14).trans hxF).trans hxwb16).trans hxt1).trans (by repeat (first | exact Ext.refl _ | assumption | refine Ext.alloc ?_ _ | refine Ext.drew ?_ | refine Ext.drewN ?_ _ | refine Ext.setCell ?_ (by first | (simp; done) | (simp; omega) | omega) _ | refine Ext.trans ?_ (by assumption)))))) ?_
  rintro e wt2 ⟨rfl, hxt2⟩
  have hz18 : wt1.heap.size ≤ wt2.heap.size := hxt2.size
  clear ba0 ba1 bag
  have ba := Hba.out.ext hxt2
  clear Hba
  have ba0 := ba.at0
  have ba1 := ba.at1
  have bag := ba.1
  have Hba := Lib.hid ba
  clear ba
  clear bb0 bb1 bbg
  have bb := Hbb.out.ext hxt2
  clear Hbb
  have bb0 := bb.at0
  have bb1 := bb.at1
  have bbg := bb.1
  have Hbb := Lib.hid bb
  clear bb
  clear bc0 bc1 bcg
  have bc := Hbc.out.ext hxt2
  clear Hbc
  have bc0 := bc.at0
  have bc1 := bc.at1
  have bcg := bc.1
  have Hbc := Lib.hid bc
  clear bc
  clear bd0 bd1 bdg
  have bd := Hbd.out.ext hxt2
  clear Hbd
  have bd0 := bd.at0
  have bd1 := bd.at1
  have bdg := bd.1
  have Hbd := Lib.hid bd
  clear bd
  clear be0 be1 beg
  have be := Hbe.out.ext hxt2
  clear Hbe
  have be0 := be.at0
  have be1 := be.at1
  have beg := be.1
  have Hbe := Lib.hid be
  clear be
  clear bf0 bf1 bfg
  have bf := Hbf.out.ext hxt2
  clear Hbf
  have bf0 := bf.at0
  have bf1 := bf.at1
  have bfg := bf.1
  have Hbf := Lib.hid bf
  clear bf
  clear bg0 bg1 bgg
  have bg := Hbg.out.ext hxt2
  clear Hbg
  have bg0 := bg.at0
  have bg1 := bg.at1
  have bgg := bg.1
  have Hbg := Lib.hid bg
  clear bg
  go_wp2_with fail
  refine Calls.mono (laws_likeNetworks9 _ _ _ _ (fixV b xv yd) _ (HE.out.up (((((hxwb14.trans hxF).trans hxwb16).trans hxt1).trans hxt2).trans (by repeat (first | exact Ext.refl _ | assumption | refine Ext.alloc ?_ _ | refine Ext.drew ?_ | refine Ext.drewN ?_ _ | refine Ext.setCell ?_ (by first | (simp; done) | (simp; omega) | omega) _ | refine Ext.trans ?_ (by assumption))))) (HF.out.up (((hxwb16.trans hxt1).trans hxt2).trans (by repeat (first | exact Ext.refl _ | assumption | refine Ext.alloc ?_ _ | refine Ext.drew ?_ | refine Ext.drewN ?_ _ | refine Ext.setCell ?_ (by first | (simp; done) | (simp; omega) | omega) _ | refine Ext.trans ?_ (by assumption)))))) ?_
  rintro e wt3 ⟨rfl, hxt3⟩
  have hz19 : wt2.heap.size ≤ wt3.heap.size := hxt3.size
  clear ba0 ba1 bag
  have ba := Hba.out.ext hxt3
  clear Hba
  have ba0 := ba.at0
  have ba1 := ba.at1
  have bag := ba.1
  have Hba := Lib.hid ba
  clear ba
  clear bb0 bb1 bbg
  have bb := Hbb.out.ext hxt3
  clear Hbb
  have bb0 := bb.at0
  have bb1 := bb.at1
  have bbg := bb.1
  have Hbb := Lib.hid bb
  clear bb
  clear bc0 bc1 bcg
  have bc := Hbc.out.ext hxt3
  clear Hbc
  have bc0 := bc.at0
  have bc1 := bc.at1
  have bcg := bc.1
  have Hbc := Lib.hid bc
  clear bc
  clear bd0 bd1 bdg
  have bd := Hbd.out.ext hxt3
  clear Hbd
  have bd0 := bd.at0
  have bd1 := bd.at1
  have bdg := bd.1
  have Hbd := Lib.hid bd
  clear bd
  clear be0 be1 beg
  have be := Hbe.out.ext hxt3
  clear Hbe
  have be0 := be.at0
  have be1 := be.at1
  have beg := be.1
  have Hbe := Lib.hid be
  clear be
  clear bf0 bf1 bfg
  have bf := Hbf.out.ext hxt3
  clear Hbf
  have bf0 := bf.at0
  have bf1 := bf.at1
  have bfg := bf.1
  have Hbf := Lib.hid bf
  clear bf
  clear bg0 bg1 bgg
  have bg := Hbg.out.ext hxt3
  clear Hbg
  have bg0 := bg.at0
  have bg1 := bg.at1
  have bgg := bg.1
  have Hbg := Lib.hid bg
  clear bg
  by_cases he : svE a = 0
  · obtain ⟨s1, s2, s3⟩ := sv_law he
    have S1 := Lib.hid s1
    have S3 := Lib.hid s3
    clear s1 s3
    go_wp2_with fail
    go_loopg [21] a.sets.length (fun q i21 wr => ∃ j : Nat, j + q = a.sets.length ∧ i21 = .int .i64 j ∧ Ext wt3 wr)
    case atStart => exact ⟨0, by omega, rfl, Ext.refl _⟩
    case round =>
      obtain ⟨j, hj, rfl, hxr⟩ := hrel
      have hz20 : wt3.heap.size ≤ wr.heap.size := hxr.size
      clear ba0 ba1 bag
      have ba := Hba.out.ext hxr
      clear Hba
      have ba0 := ba.at0
      have ba1 := ba.at1
      have bag := ba.1
      have Hba := Lib.hid ba
      clear ba
      clear bb0 bb1 bbg
      have bb := Hbb.out.ext hxr
      clear Hbb
      have bb0 := bb.at0
      have bb1 := bb.at1
      have bbg := bb.1
      have Hbb := Lib.hid bb
      clear bb
      clear bc0 bc1 bcg
      have bc := Hbc.out.ext hxr
      clear Hbc
      have bc0 := bc.at0
      have bc1 := bc.at1
      have bcg := bc.1
      have Hbc := Lib.hid bc
      clear bc
      clear bd0 bd1 bdg
      have bd := Hbd.out.ext hxr
      clear Hbd
      have bd0 := bd.at0
      have bd1 := bd.at1
      have bdg := bd.1
      have Hbd := Lib.hid bd
      clear bd
      clear be0 be1 beg
      have be := Hbe.out.ext hxr
      clear Hbe
      have be0 := be.at0
      have be1 := be.at1
      have beg := be.1
      have Hbe := Lib.hid be
      clear be
      clear bf0 bf1 bfg
      have bf := Hbf.out.ext hxr
      clear Hbf
      have bf0 := bf.at0
      have bf1 := bf.at1
      have bfg := bf.1
      have Hbf := Lib.hid bf
      clear bf
      clear bg0 bg1 bgg
      have bg := Hbg.out.ext hxr
      clear Hbg
      have bg0 := bg.at0
      have bg1 := bg.at1
      have bgg := bg.1
      have Hbg := Lib.hid bg
      clear bg
      by_cases hlt : j < a.sets.length
      · obtain ⟨p1, p2⟩ := S3.out j hlt
        have P2 := Lib.hid p2
        clear p2
        obtain ⟨b1, o1, u, eM, _, hb1, h1, hu⟩ := (HM.out.up ((((((((((((hxwb8.trans hxL).trans hxwb10).trans hxB).trans hxwb12).trans hxE).trans hxwb14).trans hxF).trans hxwb16).trans hxt1).trans hxt2).trans hxt3).trans hxr)).1.at_ (i := j) (by rw [S1.out]; exact hlt)
        subst eM
        obtain ⟨Au, cu, rfl, _⟩ := hu.len
        have Hu := Lib.hid hu
        clear hu
        have hji : (j : Int) < (a.sets.length : Int) := by omega
        have hj0 : (0 : Int) ≤ (j : Int) := by omega
        have hjm : (j : Int) < ((svV a).sets.length : Int) := by rw [S1.out]; omega
        go_wp2_with fail
        refine Calls.mono (impl_PossibleDays _ _ a (j : Int) _ (HR.out.up (((((((((((((((hxwb6.trans hxM).trans hxwb8).trans hxL).trans hxwb10).trans hxB).trans hxwb12).trans hxE).trans hxwb14).trans hxF).trans hxwb16).trans hxt1).trans hxt2).trans hxt3).trans hxr).trans (by repeat (first | exact Ext.refl _ | assumption | refine Ext.alloc ?_ _ | refine Ext.drew ?_ | refine Ext.drewN ?_ _ | refine Ext.setCell ?_ (by first | (simp; done) | (simp; omega) | omega) _ | refine Ext.trans ?_ (by assumption)))))) ?_
        intro e wO hp
        obtain ⟨Oa, Oc, rfl, hxO, IO⟩ := hp.plainO
        clear hp
        have hz21 : wr.heap.size ≤ wO.heap.size := hxO.size
        clear ba0 ba1 bag
        have ba := Hba.out.ext hxO
        clear Hba
        have ba0 := ba.at0
        have ba1 := ba.at1
        have bag := ba.1
        have Hba := Lib.hid ba
        clear ba
        clear bb0 bb1 bbg
        have bb := Hbb.out.ext hxO
        clear Hbb
        have bb0 := bb.at0
        have bb1 := bb.at1
        have bbg := bb.1
        have Hbb := Lib.hid bb
        clear bb
        clear bc0 bc1 bcg
        have bc := Hbc.out.ext hxO
        clear Hbc
        have bc0 := bc.at0
        have bc1 := bc.at1
        have bcg := bc.1
        have Hbc := Lib.hid bc
        clear bc
        clear bd0 bd1 bdg
        have bd := Hbd.out.ext hxO
        clear Hbd
        have bd0 := bd.at0
        have bd1 := bd.at1
        have bdg := bd.1
        have Hbd := Lib.hid bd
        clear bd
        clear be0 be1 beg
        have be := Hbe.out.ext hxO
        clear Hbe
        have be0 := be.at0
        have be1 := be.at1
        have beg := be.1
        have Hbe := Lib.hid be
        clear be
        clear bf0 bf1 bfg
        have bf := Hbf.out.ext hxO
        clear Hbf
        have bf0 := bf.at0
        have bf1 := bf.at1
        have bfg := bf.1
        have Hbf := Lib.hid bf
        clear bf
        clear bg0 bg1 bgg
        have bg := Hbg.out.ext hxO
        clear Hbg
        have bg0 := bg.at0
        have bg1 := bg.at1
        have bgg := bg.1
        have Hbg := Lib.hid bg
        clear bg
        rw [p1]
        have IO2 := Lib.hid (show Spans wO 0 wO.heap.size (.slice Oa (psL a (j : Int)).length Oc) (setAt (svV a).sets j) from by have hh := IO.out; rw [P2.out] at hh ⊢; exact hh)
        have h1O := (hxO.cell (p := ⟨b1, o1 + j, none⟩) hb1).trans h1
        clear h1
        have hb1O : b1 < wO.heap.size := by omega
        go_wp2_with fail
        refine Calls.mono (laws_likeSpans9 _ _ (setAt (svV a).sets j) _ (Spans.up IO2.out (by repeat (first | exact Ext.refl _ | assumption | refine Ext.alloc ?_ _ | refine Ext.drew ?_ | refine Ext.drewN ?_ _ | refine Ext.setCell ?_ (by first | (simp; done) | (simp; omega) | omega) _ | refine Ext.trans ?_ (by assumption)))) (Spans.up Hu.out (hxO.trans (by repeat (first | exact Ext.refl _ | assumption | refine Ext.alloc ?_ _ | refine Ext.drew ?_ | refine Ext.drewN ?_ _ | refine Ext.setCell ?_ (by first | (simp; done) | (simp; omega) | omega) _ | refine Ext.trans ?_ (by assumption)))))) ?_
        rintro e wq ⟨rfl, hxq⟩
        have hz22 : wO.heap.size ≤ wq.heap.size := hxq.size
        clear ba0 ba1 bag
        have ba := Hba.out.ext hxq
        clear Hba
        have ba0 := ba.at0
        have ba1 := ba.at1
        have bag := ba.1
        have Hba := Lib.hid ba
        clear ba
        clear bb0 bb1 bbg
        have bb := Hbb.out.ext hxq
        clear Hbb
        have bb0 := bb.at0
        have bb1 := bb.at1
        have bbg := bb.1
        have Hbb := Lib.hid bb
        clear bb
        clear bc0 bc1 bcg
        have bc := Hbc.out.ext hxq
        clear Hbc
        have bc0 := bc.at0
        have bc1 := bc.at1
        have bcg := bc.1
        have Hbc := Lib.hid bc
        clear bc
        clear bd0 bd1 bdg
        have bd := Hbd.out.ext hxq
        clear Hbd
        have bd0 := bd.at0
        have bd1 := bd.at1
        have bdg := bd.1
        have Hbd := Lib.hid bd
        clear bd
        clear be0 be1 beg
        have be := Hbe.out.ext hxq
        clear Hbe
        have be0 := be.at0
        have be1 := be.at1
        have beg := be.1
        have Hbe := Lib.hid be
        clear be
        clear bf0 bf1 bfg
        have bf := Hbf.out.ext hxq
        clear Hbf
        have bf0 := bf.at0
        have bf1 := bf.at1
        have bfg := bf.1
        have Hbf := Lib.hid bf
        clear bf
        clear bg0 bg1 bgg
        have bg := Hbg.out.ext hxq
        clear Hbg
        have bg0 := bg.at0
        have bg1 := bg.at1
        have bgg := bg.1
        have Hbg := Lib.hid bg
        clear bg
        go_wp2_with fail
        go_roundg (a.sets.length - (j + 1))
        case measure => omega
        case rel => exact ⟨j + 1, by omega, by go_num, ((hxr.trans hxO).trans hxq)⟩
      · obtain rfl : j = a.sets.length := by omega
        have hji : ¬ (a.sets.length : Int) < (a.sets.length : Int) := by omega
        by_cases h2 : psE n v = 0
        case neg =>
          have h2f : (psE n v == 0) = false := by simpa using h2
          go_wp2_with fail
          go_ret
          exact ⟨rfl, ((((((((((((((((((((hxN.trans hxwb2).trans hxP).trans hxQ).trans hxR).trans hxwb6).trans hxM).trans hxwb8).trans hxL).trans hxwb10).trans hxB).trans hxwb12).trans hxE).trans hxwb14).trans hxF).trans hxwb16).trans hxt1).trans hxt2).trans hxt3).trans hxr).trans (by repeat (first | exact Ext.refl _ | assumption | refine Ext.alloc ?_ _ | refine Ext.drew ?_ | refine Ext.drewN ?_ _ | refine Ext.setCell ?_ (by first | (simp; done) | (simp; omega) | omega) _ | refine Ext.trans ?_ (by assumption))))⟩
        obtain ⟨vn, rfl, hvn, hso, hco, hpl, hlen⟩ := ps_law h2
        have Hso := Lib.hid hso
        have Hco := Lib.hid hco
        have Hpl := Lib.hid hpl
        have Hlen := Lib.hid hlen
        clear hso hco hpl hlen
        obtain ⟨b6, o6, u6, eS, _, hb6, g6, hu6⟩ := (HN.out.up ((((((((((((((((((hxwb2.trans hxP).trans hxQ).trans hxR).trans hxwb6).trans hxM).trans hxwb8).trans hxL).trans hxwb10).trans hxB).trans hxwb12).trans hxE).trans hxwb14).trans hxF).trans hxwb16).trans hxt1).trans hxt2).trans hxt3).trans hxr)).1.at_ hvn
        subst eS
        obtain ⟨U6, u6c, rfl, _⟩ := hu6.len
        have Hu6 := Lib.hid hu6
        clear hu6
        have i6 : (0 : Int) ≤ (vn : Int) := by omega
        have i7 : (vn : Int) < (n.sets.length : Int) := by omega
        go_wp2_with fail
        refine Calls.mono (impl_CountDays _ (setAt n.sets vn) _ (Spans.up Hu6.out (by repeat (first | exact Ext.refl _ | assumption | refine Ext.alloc ?_ _ | refine Ext.drew ?_ | refine Ext.drewN ?_ _ | refine Ext.setCell ?_ (by first | (simp; done) | (simp; omega) | omega) _ | refine Ext.trans ?_ (by assumption))))) ?_
        rintro e w12 ⟨rfl, hx12⟩
        rw [(cd_ok Hso.out).1, (cd_ok Hso.out).2]
        have g7 := (hx12.cell (p := ⟨b6, o6 + vn, none⟩) hb6).trans g6
        clear g6
        have hz21 : wr.heap.size ≤ w12.heap.size := hx12.size
        clear ba0 ba1 bag
        have ba := Hba.out.ext hx12
        clear Hba
        have ba0 := ba.at0
        have ba1 := ba.at1
        have bag := ba.1
        have Hba := Lib.hid ba
        clear ba
        clear bb0 bb1 bbg
        have bb := Hbb.out.ext hx12
        clear Hbb
        have bb0 := bb.at0
        have bb1 := bb.at1
        have bbg := bb.1
        have Hbb := Lib.hid bb
        clear bb
        clear bc0 bc1 bcg
        have bc := Hbc.out.ext hx12
        clear Hbc
        have bc0 := bc.at0
        have bc1 := bc.at1
        have bcg := bc.1
        have Hbc := Lib.hid bc
        clear bc
        clear bd0 bd1 bdg
        have bd := Hbd.out.ext hx12
        clear Hbd
        have bd0 := bd.at0
        have bd1 := bd.at1
        have bdg := bd.1
        have Hbd := Lib.hid bd
        clear bd
        clear be0 be1 beg
        have be := Hbe.out.ext hx12
        clear Hbe
        have be0 := be.at0
        have be1 := be.at1
        have beg := be.1
        have Hbe := Lib.hid be
        clear be
        clear bf0 bf1 bfg
        have bf := Hbf.out.ext hx12
        clear Hbf
        have bf0 := bf.at0
        have bf1 := bf.at1
        have bfg := bf.1
        have Hbf := Lib.hid bf
        clear bf
        clear bg0 bg1 bgg
        have bg := Hbg.out.ext hx12
        clear Hbg
        have bg0 := bg.at0
        have bg1 := bg.at1
        have bgg := bg.1
        have Hbg := Lib.hid bg
        clear bg
        have hdb := daysTo_bd Hso.out (setAt n.sets vn).length (Nat.le_refl _)
        have hd0 : 0 ≤ days (setAt n.sets vn) := hdb.1
        clear hdb
        by_cases hc0 : days (setAt n.sets vn) = 0
        case pos =>
          have hpz := pos_zero_len hvn Hso.out hc0 Hpl.out
          have hpzi : ((psL n (vn : Int)).length : Int) = 0 := by omega
          go_wp2_with fail
          go_ret
          exact ⟨rfl, ((((((((((((((((((((hxN.trans hxwb2).trans hxP).trans hxQ).trans hxR).trans hxwb6).trans hxM).trans hxwb8).trans hxL).trans hxwb10).trans hxB).trans hxwb12).trans hxE).trans hxwb14).trans hxF).trans hxwb16).trans hxt1).trans hxt2).trans hxt3).trans hxr).trans hx12)⟩
        have hc1 : 1 ≤ days (setAt n.sets vn) := by omega
        have hc0f : (days (setAt n.sets vn) == 0) = false := by simpa using hc0
        have hb67 : b6 < w12.heap.size := by omega
        have Hu7 := Lib.hid (Spans.up Hu6.out hx12)
        have HB12 := Lib.hid ((H.out.ext ((((((((((((((((((((hxN.trans hxwb2).trans hxP).trans hxQ).trans hxR).trans hxwb6).trans hxM).trans hxwb8).trans hxL).trans hxwb10).trans hxB).trans hxwb12).trans hxE).trans hxwb14).trans hxF).trans hxwb16).trans hxt1).trans hxt2).trans hxt3).trans hxr).trans hx12) (Nat.le_refl _)))
        have HC12 := Lib.hid (Bytes.wideO HB12.out ((((((((((((((((((((hxN.trans hxwb2).trans hxP).trans hxQ).trans hxR).trans hxwb6).trans hxM).trans hxwb8).trans hxL).trans hxwb10).trans hxB).trans hxwb12).trans hxE).trans hxwb14).trans hxF).trans hxwb16).trans hxt1).trans hxt2).trans hxt3).trans hxr).trans hx12).size)
        clear hc0
        go_wp2_with fail
        go_region_held3 (fun w' => Ext w12 w' ∧ w'.cell? ⟨wN.heap.size, 0, none⟩ = some (.slice (some ⟨b6, o6, none⟩) n.sets.length Ncs) ∧ w'.cell? ⟨wN.heap.size, 1, none⟩ = some (.slice Nk n.links.length Nck) ∧ w'.cell? ⟨b6, o6 + vn, none⟩ = some (.slice U6 (setAt n.sets vn).length u6c))
          (exact ext_keepO (by repeat (first | assumption | exact (by assumption : Ext w12 _ ∧ _).1 | exact Ext.refl _ | refine Ext.drew ?_ | refine Ext.alloc ?_ _)) bag ba0 ba1 hb67 g7)
          (first
            | (go_at_call 34; refine Calls.mono (laws_roll cn _ _ _ (Bytes.upO HC12.out (by assumption : Ext w12 _ ∧ _).1)) ?_; rintro e w13 ⟨bD, rfl, hbD, hx13, hD13⟩; have hE13 := (by assumption : Ext w12 _ ∧ _).1.trans hx13; have hbD0 := Nat.le_trans (by assumption : Ext w12 _ ∧ _).1.size hbD; have HD13 := Lib.hid hD13; clear hx13 hD13 hbD)
            | (go_at_call 35; refine Calls.mono (laws_below cn _ _ _ w12 _ (HC12.out.ext (by assumption : Ext w12 _ ∧ _).1 (Nat.le_refl _)) hbD0 (by assumption : Ext w12 _ ∧ _).1 HD13.out hc1) ?_; rintro e w14 ⟨r, rfl, hr0, hr1, hE14⟩)
            | (go_at_call 33; refine Calls.mono (impl_NthDay _ (setAt n.sets vn) r _ (Spans.up Hu7.out (by assumption : Ext w12 _ ∧ _).1) Hso.out hr0 hr1) ?_; rintro e w15 ⟨d, rfl, hd, hx15⟩; have hE15 := (by assumption : Ext w12 _ ∧ _).1.trans hx15; clear hx15))
        have hz22 : w12.heap.size ≤ w15.heap.size := hE15.size
        clear ba0 ba1 bag
        have ba := Hba.out.ext hE15
        clear Hba
        have ba0 := ba.at0
        have ba1 := ba.at1
        have bag := ba.1
        have Hba := Lib.hid ba
        clear ba
        clear bb0 bb1 bbg
        have bb := Hbb.out.ext hE15
        clear Hbb
        have bb0 := bb.at0
        have bb1 := bb.at1
        have bbg := bb.1
        have Hbb := Lib.hid bb
        clear bb
        clear bc0 bc1 bcg
        have bc := Hbc.out.ext hE15
        clear Hbc
        have bc0 := bc.at0
        have bc1 := bc.at1
        have bcg := bc.1
        have Hbc := Lib.hid bc
        clear bc
        clear bd0 bd1 bdg
        have bd := Hbd.out.ext hE15
        clear Hbd
        have bd0 := bd.at0
        have bd1 := bd.at1
        have bdg := bd.1
        have Hbd := Lib.hid bd
        clear bd
        clear be0 be1 beg
        have be := Hbe.out.ext hE15
        clear Hbe
        have be0 := be.at0
        have be1 := be.at1
        have beg := be.1
        have Hbe := Lib.hid be
        clear be
        clear bf0 bf1 bfg
        have bf := Hbf.out.ext hE15
        clear Hbf
        have bf0 := bf.at0
        have bf1 := bf.at1
        have bfg := bf.1
        have Hbf := Lib.hid bf
        clear bf
        clear bg0 bg1 bgg
        have bg := Hbg.out.ext hE15
        clear Hbg
        have bg0 := bg.at0
        have bg1 := bg.at1
        have bgg := bg.1
        have Hbg := Lib.hid bg
        clear bg
        obtain ⟨q1, q2, q3, q4⟩ := pos_law Hco.out hvn Hpl.out Hlen.out hd
        have Q1 := Lib.hid q1
        have Q2 := Lib.hid q2
        have Q3 := Lib.hid q3
        have Q4 := Lib.hid q4
        clear q1 q2 q3 q4 hd hd0 hc1 hc0f hr0 hr1 g7
        go_wp2_with fail
        refine Calls.mono (impl_FixDay _ _ n (vn : Int) d _ (HN.out.up (((((((((((((((((((((hxwb2.trans hxP).trans hxQ).trans hxR).trans hxwb6).trans hxM).trans hxwb8).trans hxL).trans hxwb10).trans hxB).trans hxwb12).trans hxE).trans hxwb14).trans hxF).trans hxwb16).trans hxt1).trans hxt2).trans hxt3).trans hxr).trans hx12).trans hE15).trans (by repeat (first | exact Ext.refl _ | assumption | refine Ext.alloc ?_ _ | refine Ext.drew ?_ | refine Ext.drewN ?_ _ | refine Ext.setCell ?_ (by first | (simp; done) | (simp; omega) | omega) _ | refine Ext.trans ?_ (by assumption)))))) ?_
        intro e wX hp
        obtain ⟨Xs, Xcs, Xk, Xck, rfl, hxX, HX⟩ := hp.plain
        clear hp
        rw [Q1.out]
        have hz23 : w15.heap.size ≤ wX.heap.size := hxX.size
        clear ba0 ba1 bag
        have ba := Hba.out.ext hxX
        clear Hba
        have ba0 := ba.at0
        have ba1 := ba.at1
        have bag := ba.1
        have Hba := Lib.hid ba
        clear ba
        clear bb0 bb1 bbg
        have bb := Hbb.out.ext hxX
        clear Hbb
        have bb0 := bb.at0
        have bb1 := bb.at1
        have bbg := bb.1
        have Hbb := Lib.hid bb
        clear bb
        clear bc0 bc1 bcg
        have bc := Hbc.out.ext hxX
        clear Hbc
        have bc0 := bc.at0
        have bc1 := bc.at1
        have bcg := bc.1
        have Hbc := Lib.hid bc
        clear bc
        clear bd0 bd1 bdg
        have bd := Hbd.out.ext hxX
        clear Hbd
        have bd0 := bd.at0
        have bd1 := bd.at1
        have bdg := bd.1
        have Hbd := Lib.hid bd
        clear bd
        clear be0 be1 beg
        have be := Hbe.out.ext hxX
        clear Hbe
        have be0 := be.at0
        have be1 := be.at1
        have beg := be.1
        have Hbe := Lib.hid be
        clear be
        clear bf0 bf1 bfg
        have bf := Hbf.out.ext hxX
        clear Hbf
        have bf0 := bf.at0
        have bf1 := bf.at1
        have bfg := bf.1
        have Hbf := Lib.hid bf
        clear bf
        clear bg0 bg1 bgg
        have bg := Hbg.out.ext hxX
        clear Hbg
        have bg0 := bg.at0
        have bg1 := bg.at1
        have bgg := bg.1
        have Hbg := Lib.hid bg
        clear bg
        obtain ⟨wb24, hwb24⟩ : ∃ x : World, x = wX.alloc (.cells #[.slice Xs (fixV n (vn : Int) d).sets.length Xcs, .slice Xk (fixV n (vn : Int) d).links.length Xck] 27) := ⟨_, rfl⟩
        have hxwb24 : Ext wX wb24 := by rw [hwb24]; exact (by repeat (first | exact Ext.refl _ | assumption | refine Ext.alloc ?_ _ | refine Ext.drew ?_ | refine Ext.drewN ?_ _ | refine Ext.setCell ?_ (by first | (simp; done) | (simp; omega) | omega) _ | refine Ext.trans ?_ (by assumption)))
        have Hbx := Lib.hid (show Boxed wb24 wX.heap.size [.slice Xs (fixV n (vn : Int) d).sets.length Xcs, .slice Xk (fixV n (vn : Int) d).links.length Xck] from by rw [hwb24]; exact Boxed.new wX [.slice Xs (fixV n (vn : Int) d).sets.length Xcs, .slice Xk (fixV n (vn : Int) d).links.length Xck] 27)
        go_wp2_with fail
        rw [← hwb24]
        clear hwb24
        have hz24 : wX.heap.size ≤ wb24.heap.size := hxwb24.size
        clear ba0 ba1 bag
        have ba := Hba.out.ext hxwb24
        clear Hba
        have ba0 := ba.at0
        have ba1 := ba.at1
        have bag := ba.1
        have Hba := Lib.hid ba
        clear ba
        clear bb0 bb1 bbg
        have bb := Hbb.out.ext hxwb24
        clear Hbb
        have bb0 := bb.at0
        have bb1 := bb.at1
        have bbg := bb.1
        have Hbb := Lib.hid bb
        clear bb
        clear bc0 bc1 bcg
        have bc := Hbc.out.ext hxwb24
        clear Hbc
        have bc0 := bc.at0
        have bc1 := bc.at1
        have bcg := bc.1
        have Hbc := Lib.hid bc
        clear bc
        clear bd0 bd1 bdg
        have bd := Hbd.out.ext hxwb24
        clear Hbd
        have bd0 := bd.at0
        have bd1 := bd.at1
        have bdg := bd.1
        have Hbd := Lib.hid bd
        clear bd
        clear be0 be1 beg
        have be := Hbe.out.ext hxwb24
        clear Hbe
        have be0 := be.at0
        have be1 := be.at1
        have beg := be.1
        have Hbe := Lib.hid be
        clear be
        clear bf0 bf1 bfg
        have bf := Hbf.out.ext hxwb24
        clear Hbf
        have bf0 := bf.at0
        have bf1 := bf.at1
        have bfg := bf.1
        have Hbf := Lib.hid bf
        clear bf
        clear bg0 bg1 bgg
        have bg := Hbg.out.ext hxwb24
        clear Hbg
        have bg0 := bg.at0
        have bg1 := bg.at1
        have bgg := bg.1
        have Hbg := Lib.hid bg
        clear bg
        have bx0 := Hbx.out.at0
        have bx1 := Hbx.out.at1
        have bxg := Hbx.out.1
        refine Calls.mono (impl_HasSolution _ _ (fixV n (vn : Int) d) _ (HX.out.up (hxwb24.trans (by repeat (first | exact Ext.refl _ | assumption | refine Ext.alloc ?_ _ | refine Ext.drew ?_ | refine Ext.drewN ?_ _ | refine Ext.setCell ?_ (by first | (simp; done) | (simp; omega) | omega) _ | refine Ext.trans ?_ (by assumption)))))) ?_
        rintro e wY ⟨rfl, hxY⟩
        rw [Q2.out]
        have hz25 : wb24.heap.size ≤ wY.heap.size := hxY.size
        clear ba0 ba1 bag
        have ba := Hba.out.ext hxY
        clear Hba
        have ba0 := ba.at0
        have ba1 := ba.at1
        have bag := ba.1
        have Hba := Lib.hid ba
        clear ba
        clear bb0 bb1 bbg
        have bb := Hbb.out.ext hxY
        clear Hbb
        have bb0 := bb.at0
        have bb1 := bb.at1
        have bbg := bb.1
        have Hbb := Lib.hid bb
        clear bb
        clear bc0 bc1 bcg
        have bc := Hbc.out.ext hxY
        clear Hbc
        have bc0 := bc.at0
        have bc1 := bc.at1
        have bcg := bc.1
        have Hbc := Lib.hid bc
        clear bc
        clear bd0 bd1 bdg
        have bd := Hbd.out.ext hxY
        clear Hbd
        have bd0 := bd.at0
        have bd1 := bd.at1
        have bdg := bd.1
        have Hbd := Lib.hid bd
        clear bd
        clear be0 be1 beg
        have be := Hbe.out.ext hxY
        clear Hbe
        have be0 := be.at0
        have be1 := be.at1
        have beg := be.1
        have Hbe := Lib.hid be
        clear be
        clear bf0 bf1 bfg
        have bf := Hbf.out.ext hxY
        clear Hbf
        have bf0 := bf.at0
        have bf1 := bf.at1
        have bfg := bf.1
        have Hbf := Lib.hid bf
        clear bf
        clear bg0 bg1 bgg
        have bg := Hbg.out.ext hxY
        clear Hbg
        have bg0 := bg.at0
        have bg1 := bg.at1
        have bgg := bg.1
        have Hbg := Lib.hid bg
        clear bg
        clear bx0 bx1 bxg
        have bx := Hbx.out.ext hxY
        clear Hbx
        have bx0 := bx.at0
        have bx1 := bx.at1
        have bxg := bx.1
        have Hbx := Lib.hid bx
        clear bx
        go_wp2_with fail
        refine Calls.mono (impl_HasDay _ (psL n (vn : Int)) d _ (Spans.up IP.out ((((((((((((((((((((((hxQ.trans hxR).trans hxwb6).trans hxM).trans hxwb8).trans hxL).trans hxwb10).trans hxB).trans hxwb12).trans hxE).trans hxwb14).trans hxF).trans hxwb16).trans hxt1).trans hxt2).trans hxt3).trans hxr).trans hx12).trans hE15).trans hxX).trans hxwb24).trans hxY).trans (by repeat (first | exact Ext.refl _ | assumption | refine Ext.alloc ?_ _ | refine Ext.drew ?_ | refine Ext.drewN ?_ _ | refine Ext.setCell ?_ (by first | (simp; done) | (simp; omega) | omega) _ | refine Ext.trans ?_ (by assumption)))))) ?_
        rintro e wZ ⟨rfl, hxZ⟩
        rw [Q3.out, Q4.out]
        have hz26 : wY.heap.size ≤ wZ.heap.size := hxZ.size
        clear ba0 ba1 bag
        have ba := Hba.out.ext hxZ
        clear Hba
        have ba0 := ba.at0
        have ba1 := ba.at1
        have bag := ba.1
        have Hba := Lib.hid ba
        clear ba
        clear bb0 bb1 bbg
        have bb := Hbb.out.ext hxZ
        clear Hbb
        have bb0 := bb.at0
        have bb1 := bb.at1
        have bbg := bb.1
        have Hbb := Lib.hid bb
        clear bb
        clear bc0 bc1 bcg
        have bc := Hbc.out.ext hxZ
        clear Hbc
        have bc0 := bc.at0
        have bc1 := bc.at1
        have bcg := bc.1
        have Hbc := Lib.hid bc
        clear bc
        clear bd0 bd1 bdg
        have bd := Hbd.out.ext hxZ
        clear Hbd
        have bd0 := bd.at0
        have bd1 := bd.at1
        have bdg := bd.1
        have Hbd := Lib.hid bd
        clear bd
        clear be0 be1 beg
        have be := Hbe.out.ext hxZ
        clear Hbe
        have be0 := be.at0
        have be1 := be.at1
        have beg := be.1
        have Hbe := Lib.hid be
        clear be
        clear bf0 bf1 bfg
        have bf := Hbf.out.ext hxZ
        clear Hbf
        have bf0 := bf.at0
        have bf1 := bf.at1
        have bfg := bf.1
        have Hbf := Lib.hid bf
        clear bf
        clear bg0 bg1 bgg
        have bg := Hbg.out.ext hxZ
        clear Hbg
        have bg0 := bg.at0
        have bg1 := bg.at1
        have bgg := bg.1
        have Hbg := Lib.hid bg
        clear bg
        clear bx0 bx1 bxg
        have bx := Hbx.out.ext hxZ
        clear Hbx
        have bx0 := bx.at0
        have bx1 := bx.at1
        have bxg := bx.1
        have Hbx := Lib.hid bx
        clear bx
        go_wp2_with fail
        go_ret
        exact ⟨rfl, (((((((((((((((((((((((((hxN.trans hxwb2).trans hxP).trans hxQ).trans hxR).trans hxwb6).trans hxM).trans hxwb8).trans hxL).trans hxwb10).trans hxB).trans hxwb12).trans hxE).trans hxwb14).trans hxF).trans hxwb16).trans hxt1).trans hxt2).trans hxt3).trans hxr).trans hx12).trans hE15).trans hxX).trans hxwb24).trans hxY).trans hxZ)⟩
  · have hef : (svE a == 0) = false := by simpa using he
    by_cases h2 : psE n v = 0
    case neg =>
      have h2f : (psE n v == 0) = false := by simpa using h2
      go_wp2_with fail
      go_ret
      exact ⟨rfl, (((((((((((((((((((hxN.trans hxwb2).trans hxP).trans hxQ).trans hxR).trans hxwb6).trans hxM).trans hxwb8).trans hxL).trans hxwb10).trans hxB).trans hxwb12).trans hxE).trans hxwb14).trans hxF).trans hxwb16).trans hxt1).trans hxt2).trans hxt3).trans (by repeat (first | exact Ext.refl _ | assumption | refine Ext.alloc ?_ _ | refine Ext.drew ?_ | refine Ext.drewN ?_ _ | refine Ext.setCell ?_ (by first | (simp; done) | (simp; omega) | omega) _ | refine Ext.trans ?_ (by assumption))))⟩
    obtain ⟨vn, rfl, hvn, hso, hco, hpl, hlen⟩ := ps_law h2
    have Hso := Lib.hid hso
    have Hco := Lib.hid hco
    have Hpl := Lib.hid hpl
    have Hlen := Lib.hid hlen
    clear hso hco hpl hlen
    obtain ⟨b6, o6, u6, eS, _, hb6, g6, hu6⟩ := (HN.out.up (((((((((((((((((hxwb2.trans hxP).trans hxQ).trans hxR).trans hxwb6).trans hxM).trans hxwb8).trans hxL).trans hxwb10).trans hxB).trans hxwb12).trans hxE).trans hxwb14).trans hxF).trans hxwb16).trans hxt1).trans hxt2).trans hxt3)).1.at_ hvn
    subst eS
    obtain ⟨U6, u6c, rfl, _⟩ := hu6.len
    have Hu6 := Lib.hid hu6
    clear hu6
    have i6 : (0 : Int) ≤ (vn : Int) := by omega
    have i7 : (vn : Int) < (n.sets.length : Int) := by omega
    go_wp2_with fail
    refine Calls.mono (impl_CountDays _ (setAt n.sets vn) _ (Spans.up Hu6.out (by repeat (first | exact Ext.refl _ | assumption | refine Ext.alloc ?_ _ | refine Ext.drew ?_ | refine Ext.drewN ?_ _ | refine Ext.setCell ?_ (by first | (simp; done) | (simp; omega) | omega) _ | refine Ext.trans ?_ (by assumption))))) ?_
    rintro e w12 ⟨rfl, hx12⟩
    rw [(cd_ok Hso.out).1, (cd_ok Hso.out).2]
    have g7 := (hx12.cell (p := ⟨b6, o6 + vn, none⟩) hb6).trans g6
    clear g6
    have hz20 : wt3.heap.size ≤ w12.heap.size := hx12.size
    clear ba0 ba1 bag
    have ba := Hba.out.ext hx12
    clear Hba
    have ba0 := ba.at0
    have ba1 := ba.at1
    have bag := ba.1
    have Hba := Lib.hid ba
    clear ba
    clear bb0 bb1 bbg
    have bb := Hbb.out.ext hx12
    clear Hbb
    have bb0 := bb.at0
    have bb1 := bb.at1
    have bbg := bb.1
    have Hbb := Lib.hid bb
    clear bb
    clear bc0 bc1 bcg
    have bc := Hbc.out.ext hx12
    clear Hbc
    have bc0 := bc.at0
    have bc1 := bc.at1
    have bcg := bc.1
    have Hbc := Lib.hid bc
    clear bc
    clear bd0 bd1 bdg
    have bd := Hbd.out.ext hx12
    clear Hbd
    have bd0 := bd.at0
    have bd1 := bd.at1
    have bdg := bd.1
    have Hbd := Lib.hid bd
    clear bd
    clear be0 be1 beg
    have be := Hbe.out.ext hx12
    clear Hbe
    have be0 := be.at0
    have be1 := be.at1
    have beg := be.1
    have Hbe := Lib.hid be
    clear be
    clear bf0 bf1 bfg
    have bf := Hbf.out.ext hx12
    clear Hbf
    have bf0 := bf.at0
    have bf1 := bf.at1
    have bfg := bf.1
    have Hbf := Lib.hid bf
    clear bf
    clear bg0 bg1 bgg
    have bg := Hbg.out.ext hx12
    clear Hbg
    have bg0 := bg.at0
    have bg1 := bg.at1
    have bgg := bg.1
    have Hbg := Lib.hid bg
    clear bg
    have hdb := daysTo_bd Hso.out (setAt n.sets vn).length (Nat.le_refl _)
    have hd0 : 0 ≤ days (setAt n.sets vn) := hdb.1
    clear hdb
    by_cases hc0 : days (setAt n.sets vn) = 0
    case pos =>
      have hpz := pos_zero_len hvn Hso.out hc0 Hpl.out
      have hpzi : ((psL n (vn : Int)).length : Int) = 0 := by omega
      go_wp2_with fail
      go_ret
      exact ⟨rfl, (((((((((((((((((((hxN.trans hxwb2).trans hxP).trans hxQ).trans hxR).trans hxwb6).trans hxM).trans hxwb8).trans hxL).trans hxwb10).trans hxB).trans hxwb12).trans hxE).trans hxwb14).trans hxF).trans hxwb16).trans hxt1).trans hxt2).trans hxt3).trans hx12)⟩
    have hc1 : 1 ≤ days (setAt n.sets vn) := by omega
    have hc0f : (days (setAt n.sets vn) == 0) = false := by simpa using hc0
    have hb67 : b6 < w12.heap.size := by omega
    have Hu7 := Lib.hid (Spans.up Hu6.out hx12)
    have HB12 := Lib.hid ((H.out.ext (((((((((((((((((((hxN.trans hxwb2).trans hxP).trans hxQ).trans hxR).trans hxwb6).trans hxM).trans hxwb8).trans hxL).trans hxwb10).trans hxB).trans hxwb12).trans hxE).trans hxwb14).trans hxF).trans hxwb16).trans hxt1).trans hxt2).trans hxt3).trans hx12) (Nat.le_refl _)))
    have HC12 := Lib.hid (Bytes.wideO HB12.out (((((((((((((((((((hxN.trans hxwb2).trans hxP).trans hxQ).trans hxR).trans hxwb6).trans hxM).trans hxwb8).trans hxL).trans hxwb10).trans hxB).trans hxwb12).trans hxE).trans hxwb14).trans hxF).trans hxwb16).trans hxt1).trans hxt2).trans hxt3).trans hx12).size)
    clear hc0
    go_wp2_with fail
    go_region_held3 (fun w' => Ext w12 w' ∧ w'.cell? ⟨wN.heap.size, 0, none⟩ = some (.slice (some ⟨b6, o6, none⟩) n.sets.length Ncs) ∧ w'.cell? ⟨wN.heap.size, 1, none⟩ = some (.slice Nk n.links.length Nck) ∧ w'.cell? ⟨b6, o6 + vn, none⟩ = some (.slice U6 (setAt n.sets vn).length u6c))
      (exact ext_keepO (by repeat (first | assumption | exact (by assumption : Ext w12 _ ∧ _).1 | exact Ext.refl _ | refine Ext.drew ?_ | refine Ext.alloc ?_ _)) bag ba0 ba1 hb67 g7)
      (first
        | (go_at_call 34; refine Calls.mono (laws_roll cn _ _ _ (Bytes.upO HC12.out (by assumption : Ext w12 _ ∧ _).1)) ?_; rintro e w13 ⟨bD, rfl, hbD, hx13, hD13⟩; have hE13 := (by assumption : Ext w12 _ ∧ _).1.trans hx13; have hbD0 := Nat.le_trans (by assumption : Ext w12 _ ∧ _).1.size hbD; have HD13 := Lib.hid hD13; clear hx13 hD13 hbD)
        | (go_at_call 35; refine Calls.mono (laws_below cn _ _ _ w12 _ (HC12.out.ext (by assumption : Ext w12 _ ∧ _).1 (Nat.le_refl _)) hbD0 (by assumption : Ext w12 _ ∧ _).1 HD13.out hc1) ?_; rintro e w14 ⟨r, rfl, hr0, hr1, hE14⟩)
        | (go_at_call 33; refine Calls.mono (impl_NthDay _ (setAt n.sets vn) r _ (Spans.up Hu7.out (by assumption : Ext w12 _ ∧ _).1) Hso.out hr0 hr1) ?_; rintro e w15 ⟨d, rfl, hd, hx15⟩; have hE15 := (by assumption : Ext w12 _ ∧ _).1.trans hx15; clear hx15))
    have hz21 : w12.heap.size ≤ w15.heap.size := hE15.size
    clear ba0 ba1 bag
    have ba := Hba.out.ext hE15
    clear Hba
    have ba0 := ba.at0
    have ba1 := ba.at1
    have bag := ba.1
    have Hba := Lib.hid ba
    clear ba
    clear bb0 bb1 bbg
    have bb := Hbb.out.ext hE15
    clear Hbb
    have bb0 := bb.at0
    have bb1 := bb.at1
    have bbg := bb.1
    have Hbb := Lib.hid bb
    clear bb
    clear bc0 bc1 bcg
    have bc := Hbc.out.ext hE15
    clear Hbc
    have bc0 := bc.at0
    have bc1 := bc.at1
    have bcg := bc.1
    have Hbc := Lib.hid bc
    clear bc
    clear bd0 bd1 bdg
    have bd := Hbd.out.ext hE15
    clear Hbd
    have bd0 := bd.at0
    have bd1 := bd.at1
    have bdg := bd.1
    have Hbd := Lib.hid bd
    clear bd
    clear be0 be1 beg
    have be := Hbe.out.ext hE15
    clear Hbe
    have be0 := be.at0
    have be1 := be.at1
    have beg := be.1
    have Hbe := Lib.hid be
    clear be
    clear bf0 bf1 bfg
    have bf := Hbf.out.ext hE15
    clear Hbf
    have bf0 := bf.at0
    have bf1 := bf.at1
    have bfg := bf.1
    have Hbf := Lib.hid bf
    clear bf
    clear bg0 bg1 bgg
    have bg := Hbg.out.ext hE15
    clear Hbg
    have bg0 := bg.at0
    have bg1 := bg.at1
    have bgg := bg.1
    have Hbg := Lib.hid bg
    clear bg
    obtain ⟨q1, q2, q3, q4⟩ := pos_law Hco.out hvn Hpl.out Hlen.out hd
    have Q1 := Lib.hid q1
    have Q2 := Lib.hid q2
    have Q3 := Lib.hid q3
    have Q4 := Lib.hid q4
    clear q1 q2 q3 q4 hd hd0 hc1 hc0f hr0 hr1 g7
    go_wp2_with fail
    refine Calls.mono (impl_FixDay _ _ n (vn : Int) d _ (HN.out.up ((((((((((((((((((((hxwb2.trans hxP).trans hxQ).trans hxR).trans hxwb6).trans hxM).trans hxwb8).trans hxL).trans hxwb10).trans hxB).trans hxwb12).trans hxE).trans hxwb14).trans hxF).trans hxwb16).trans hxt1).trans hxt2).trans hxt3).trans hx12).trans hE15).trans (by repeat (first | exact Ext.refl _ | assumption | refine Ext.alloc ?_ _ | refine Ext.drew ?_ | refine Ext.drewN ?_ _ | refine Ext.setCell ?_ (by first | (simp; done) | (simp; omega) | omega) _ | refine Ext.trans ?_ (by assumption)))))) ?_
    intro e wX hp
    obtain ⟨Xs, Xcs, Xk, Xck, rfl, hxX, HX⟩ := hp.plain
    clear hp
    rw [Q1.out]
    have hz22 : w15.heap.size ≤ wX.heap.size := hxX.size
    clear ba0 ba1 bag
    have ba := Hba.out.ext hxX
    clear Hba
    have ba0 := ba.at0
    have ba1 := ba.at1
    have bag := ba.1
    have Hba := Lib.hid ba
    clear ba
    clear bb0 bb1 bbg
    have bb := Hbb.out.ext hxX
    clear Hbb
    have bb0 := bb.at0
    have bb1 := bb.at1
    have bbg := bb.1
    have Hbb := Lib.hid bb
    clear bb
    clear bc0 bc1 bcg
    have bc := Hbc.out.ext hxX
    clear Hbc
    have bc0 := bc.at0
    have bc1 := bc.at1
    have bcg := bc.1
    have Hbc := Lib.hid bc
    clear bc
    clear bd0 bd1 bdg
    have bd := Hbd.out.ext hxX
    clear Hbd
    have bd0 := bd.at0
    have bd1 := bd.at1
    have bdg := bd.1
    have Hbd := Lib.hid bd
    clear bd
    clear be0 be1 beg
    have be := Hbe.out.ext hxX
    clear Hbe
    have be0 := be.at0
    have be1 := be.at1
    have beg := be.1
    have Hbe := Lib.hid be
    clear be
    clear bf0 bf1 bfg
    have bf := Hbf.out.ext hxX
    clear Hbf
    have bf0 := bf.at0
    have bf1 := bf.at1
    have bfg := bf.1
    have Hbf := Lib.hid bf
    clear bf
    clear bg0 bg1 bgg
    have bg := Hbg.out.ext hxX
    clear Hbg
    have bg0 := bg.at0
    have bg1 := bg.at1
    have bgg := bg.1
    have Hbg := Lib.hid bg
    clear bg
    obtain ⟨wb23, hwb23⟩ : ∃ x : World, x = wX.alloc (.cells #[.slice Xs (fixV n (vn : Int) d).sets.length Xcs, .slice Xk (fixV n (vn : Int) d).links.length Xck] 27) := ⟨_, rfl⟩
    have hxwb23 : Ext wX wb23 := by rw [hwb23]; exact (by repeat (first | exact Ext.refl _ | assumption | refine Ext.alloc ?_ _ | refine Ext.drew ?_ | refine Ext.drewN ?_ _ | refine Ext.setCell ?_ (by first | (simp; done) | (simp; omega) | omega) _ | refine Ext.trans ?_ (by assumption)))
    have Hbx := Lib.hid (show Boxed wb23 wX.heap.size [.slice Xs (fixV n (vn : Int) d).sets.length Xcs, .slice Xk (fixV n (vn : Int) d).links.length Xck] from by rw [hwb23]; exact Boxed.new wX [.slice Xs (fixV n (vn : Int) d).sets.length Xcs, .slice Xk (fixV n (vn : Int) d).links.length Xck] 27)
    go_wp2_with fail
    rw [← hwb23]
    clear hwb23
    have hz23 : wX.heap.size ≤ wb23.heap.size := hxwb23.size
    clear ba0 ba1 bag
    have ba := Hba.out.ext hxwb23
    clear Hba
    have ba0 := ba.at0
    have ba1 := ba.at1
    have bag := ba.1
    have Hba := Lib.hid ba
    clear ba
    clear bb0 bb1 bbg
    have bb := Hbb.out.ext hxwb23
    clear Hbb
    have bb0 := bb.at0
    have bb1 := bb.at1
    have bbg := bb.1
    have Hbb := Lib.hid bb
    clear bb
    clear bc0 bc1 bcg
    have bc := Hbc.out.ext hxwb23
    clear Hbc
    have bc0 := bc.at0
    have bc1 := bc.at1
    have bcg := bc.1
    have Hbc := Lib.hid bc
    clear bc
    clear bd0 bd1 bdg
    have bd := Hbd.out.ext hxwb23
    clear Hbd
    have bd0 := bd.at0
    have bd1 := bd.at1
    have bdg := bd.1
    have Hbd := Lib.hid bd
    clear bd
    clear be0 be1 beg
    have be := Hbe.out.ext hxwb23
    clear Hbe
    have be0 := be.at0
    have be1 := be.at1
    have beg := be.1
    have Hbe := Lib.hid be
    clear be
    clear bf0 bf1 bfg
    have bf := Hbf.out.ext hxwb23
    clear Hbf
    have bf0 := bf.at0
    have bf1 := bf.at1
    have bfg := bf.1
    have Hbf := Lib.hid bf
    clear bf
    clear bg0 bg1 bgg
    have bg := Hbg.out.ext hxwb23
    clear Hbg
    have bg0 := bg.at0
    have bg1 := bg.at1
    have bgg := bg.1
    have Hbg := Lib.hid bg
    clear bg
    have bx0 := Hbx.out.at0
    have bx1 := Hbx.out.at1
    have bxg := Hbx.out.1
    refine Calls.mono (impl_HasSolution _ _ (fixV n (vn : Int) d) _ (HX.out.up (hxwb23.trans (by repeat (first | exact Ext.refl _ | assumption | refine Ext.alloc ?_ _ | refine Ext.drew ?_ | refine Ext.drewN ?_ _ | refine Ext.setCell ?_ (by first | (simp; done) | (simp; omega) | omega) _ | refine Ext.trans ?_ (by assumption)))))) ?_
    rintro e wY ⟨rfl, hxY⟩
    rw [Q2.out]
    have hz24 : wb23.heap.size ≤ wY.heap.size := hxY.size
    clear ba0 ba1 bag
    have ba := Hba.out.ext hxY
    clear Hba
    have ba0 := ba.at0
    have ba1 := ba.at1
    have bag := ba.1
    have Hba := Lib.hid ba
    clear ba
    clear bb0 bb1 bbg
    have bb := Hbb.out.ext hxY
    clear Hbb
    have bb0 := bb.at0
    have bb1 := bb.at1
    have bbg := bb.1
    have Hbb := Lib.hid bb
    clear bb
    clear bc0 bc1 bcg
    have bc := Hbc.out.ext hxY
    clear Hbc
    have bc0 := bc.at0
    have bc1 := bc.at1
    have bcg := bc.1
    have Hbc := Lib.hid bc
    clear bc
    clear bd0 bd1 bdg
    have bd := Hbd.out.ext hxY
    clear Hbd
    have bd0 := bd.at0
    have bd1 := bd.at1
    have bdg := bd.1
    have Hbd := Lib.hid bd
    clear bd
    clear be0 be1 beg
    have be := Hbe.out.ext hxY
    clear Hbe
    have be0 := be.at0
    have be1 := be.at1
    have beg := be.1
    have Hbe := Lib.hid be
    clear be
    clear bf0 bf1 bfg
    have bf := Hbf.out.ext hxY
    clear Hbf
    have bf0 := bf.at0
    have bf1 := bf.at1
    have bfg := bf.1
    have Hbf := Lib.hid bf
    clear bf
    clear bg0 bg1 bgg
    have bg := Hbg.out.ext hxY
    clear Hbg
    have bg0 := bg.at0
    have bg1 := bg.at1
    have bgg := bg.1
    have Hbg := Lib.hid bg
    clear bg
    clear bx0 bx1 bxg
    have bx := Hbx.out.ext hxY
    clear Hbx
    have bx0 := bx.at0
    have bx1 := bx.at1
    have bxg := bx.1
    have Hbx := Lib.hid bx
    clear bx
    go_wp2_with fail
    refine Calls.mono (impl_HasDay _ (psL n (vn : Int)) d _ (Spans.up IP.out (((((((((((((((((((((hxQ.trans hxR).trans hxwb6).trans hxM).trans hxwb8).trans hxL).trans hxwb10).trans hxB).trans hxwb12).trans hxE).trans hxwb14).trans hxF).trans hxwb16).trans hxt1).trans hxt2).trans hxt3).trans hx12).trans hE15).trans hxX).trans hxwb23).trans hxY).trans (by repeat (first | exact Ext.refl _ | assumption | refine Ext.alloc ?_ _ | refine Ext.drew ?_ | refine Ext.drewN ?_ _ | refine Ext.setCell ?_ (by first | (simp; done) | (simp; omega) | omega) _ | refine Ext.trans ?_ (by assumption)))))) ?_
    rintro e wZ ⟨rfl, hxZ⟩
    rw [Q3.out, Q4.out]
    have hz25 : wY.heap.size ≤ wZ.heap.size := hxZ.size
    clear ba0 ba1 bag
    have ba := Hba.out.ext hxZ
    clear Hba
    have ba0 := ba.at0
    have ba1 := ba.at1
    have bag := ba.1
    have Hba := Lib.hid ba
    clear ba
    clear bb0 bb1 bbg
    have bb := Hbb.out.ext hxZ
    clear Hbb
    have bb0 := bb.at0
    have bb1 := bb.at1
    have bbg := bb.1
    have Hbb := Lib.hid bb
    clear bb
    clear bc0 bc1 bcg
    have bc := Hbc.out.ext hxZ
    clear Hbc
    have bc0 := bc.at0
    have bc1 := bc.at1
    have bcg := bc.1
    have Hbc := Lib.hid bc
    clear bc
    clear bd0 bd1 bdg
    have bd := Hbd.out.ext hxZ
    clear Hbd
    have bd0 := bd.at0
    have bd1 := bd.at1
    have bdg := bd.1
    have Hbd := Lib.hid bd
    clear bd
    clear be0 be1 beg
    have be := Hbe.out.ext hxZ
    clear Hbe
    have be0 := be.at0
    have be1 := be.at1
    have beg := be.1
    have Hbe := Lib.hid be
    clear be
    clear bf0 bf1 bfg
    have bf := Hbf.out.ext hxZ
    clear Hbf
    have bf0 := bf.at0
    have bf1 := bf.at1
    have bfg := bf.1
    have Hbf := Lib.hid bf
    clear bf
    clear bg0 bg1 bgg
    have bg := Hbg.out.ext hxZ
    clear Hbg
    have bg0 := bg.at0
    have bg1 := bg.at1
    have bgg := bg.1
    have Hbg := Lib.hid bg
    clear bg
    clear bx0 bx1 bxg
    have bx := Hbx.out.ext hxZ
    clear Hbx
    have bx0 := bx.at0
    have bx1 := bx.at1
    have bxg := bx.1
    have Hbx := Lib.hid bx
    clear bx
    go_wp2_with fail
    go_ret
    exact ⟨rfl, ((((((((((((((((((((((((hxN.trans hxwb2).trans hxP).trans hxQ).trans hxR).trans hxwb6).trans hxM).trans hxwb8).trans hxL).trans hxwb10).trans hxB).trans hxwb12).trans hxE).trans hxwb14).trans hxF).trans hxwb16).trans hxt1).trans hxt2).trans hxt3).trans hx12).trans hE15).trans hxX).trans hxwb23).trans hxY).trans hxZ)⟩
end Go.Proofs.YtfajmlkiidnhlaaGreat
