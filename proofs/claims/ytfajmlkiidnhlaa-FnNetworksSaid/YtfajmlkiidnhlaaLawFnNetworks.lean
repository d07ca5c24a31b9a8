/- The law FnNetworks, walked out of the contracts of the draws, the program's functions and the reference's. -/
import Derived.Test.YtfajmlkiidnhlaaYc
import Derived.Test.YtfajmlkiidnhlaaYn
import Derived.Test.YtfajmlkiidnhlaaP
import Derived.Test.YtfajmlkiidnhlaaTg
import Derived.Deep.RegionHeld3
import Derived.IntWalk
namespace Go.Proofs.Ytfajmlkiidnhlaa
set_option linter.unusedVariables false
set_option linter.unusedSimpArgs false
open Go.RowKit
attribute [local go_sem] cell_onto

theorem net_day (n : Net) (ds : List Int) : (B (NetOk n) == (dayE n ds != 1)) = true := by
  by_cases h : NetOk n
  · have : dayE n ds ≠ 1 := by
      by_cases h2 : ds.length = n.sets.length ∧ DaysOk ds
      · rw [dayE_ok h h2]; omega
      · rw [dayE_bad h h2]; omega
    rw [B_true h]
    simp [this]
  · rw [B_false h, dayE_net h]
    rfl
def inTo (n : Net) (ds : List Int) (j : Nat) : Prop := ∀ i, i < j → HasDay (setAt n.sets i) (inAt ds i)
theorem inTo_step {n : Net} {ds : List Int} {j : Nat} : inTo n ds (j + 1) ↔ inTo n ds j ∧ HasDay (setAt n.sets j) (inAt ds j) := by
  constructor
  · exact fun h => ⟨fun i hi => h i (by omega), h j (by omega)⟩
  · rintro ⟨h1, h2⟩ i hi
    by_cases e : i = j
    · subst e; exact h2
    · exact h1 i (by omega)
theorem inTo_zero (n : Net) (ds : List Int) : B (inTo n ds 0) = true := B_true (fun i hi => absurd hi (by omega))
theorem inTo_and (n : Net) (ds : List Int) (j : Nat) : (B (inTo n ds j) && B (HasDay (setAt n.sets j) (inAt ds j))) = B (inTo n ds (j + 1)) := by
  rw [B_congr inTo_step]
  by_cases h1 : inTo n ds j
  · rw [B_true h1, Bool.true_and]
    exact B_congr ⟨fun h => ⟨h1, h⟩, fun h => h.2⟩
  · rw [B_false h1, Bool.false_and, B_false (fun h => h1 h.1)]
theorem hdE_ok {l : List Sp} {d : Int} (h1 : SetOk l) (h2 : DayOk d) : hdE l d = 0 := by unfold hdE; rw [B_true h1, B_true h2]; rfl
theorem hdV_ok {l : List Sp} {d : Int} (h1 : SetOk l) (h2 : DayOk d) : hdV l d = B (HasDay l d) := by unfold hdV; rw [B_true h1, B_true h2]; rfl
theorem solvB_in {n : Net} {ds : List Int} (h : dayE n ds = 0) : solvB n ds = (B (inTo n ds ds.length) && ((brokenV n ds).length == 0)) := by
  obtain ⟨h1, h2, h3⟩ := dayE_zero h
  have hb := broken_none h
  by_cases h4 : inTo n ds ds.length
  · rw [B_true h4, Bool.true_and]
    by_cases h5 : (brokenV n ds).length = 0
    · rw [h5]
      exact B_true ⟨h, fun i hi => h4 i hi, hb.1 h5⟩
    · rw [show ((brokenV n ds).length == 0) = false by simpa using h5]
      exact B_false (fun hh => h5 (hb.2 hh.2.2))
  · rw [B_false h4, Bool.false_and]
    exact B_false (fun hh => h4 (fun i hi => hh.2.1 i hi))
theorem gap_bd {n : Net} {a b : Int} (h : gapE n a b = 0) : (-500000000 ≤ gapP n a b ∧ gapP n a b ≤ 500000000) ∧ -500000000 ≤ gapQ n a b ∧ gapQ n a b ≤ 730499 := by
  obtain ⟨h1, h2, h3, h4⟩ := gap_zero h
  obtain ⟨p1, q1⟩ := gapPQ h
  have b1 := gapX_bnd h1 b a.toNat (by have := h2.1; have := h2.2; omega)
  have b2 := gapX_bnd h1 a b.toNat (by have := h3.1; have := h3.2; omega)
  exact ⟨by omega, by omega⟩
set_option maxRecDepth 100000 in
set_option maxHeartbeats 8000000 in
theorem law_FnNetworks (v : Value) (cn : Nat) (w : World) (h : Byts w v cn) : Calls Try.prog 3 #[v] w (RetX (.bool true) w) := by
  obtain ⟨A, c, rfl⟩ := h.len
  have HX := Lib.hid h
  clear h
  go_enter Try.func3, Try.ntmps3
  go_wp2_with fail
  by_cases hbig : cn ≤ 4096
  case neg =>
    refine Calls.mono (laws_big_yes cn A c w hbig) ?_
    rintro e w' ⟨rfl, rfl⟩
    go_wp2_with fail
    go_ret
    exact ⟨rfl, (by repeat (first | exact Ext.refl _ | assumption | refine Ext.alloc ?_ _ | refine Ext.drew ?_ | refine Ext.drewN ?_ _ | refine Ext.setCell ?_ (by first | (simp; done) | (simp; omega) | omega) _ | refine Ext.trans ?_ (by assumption)))⟩
  have H := Lib.hid (HX.out.few hbig)
  refine Calls.mono (laws_big_no cn A c w hbig) ?_
  rintro e w' ⟨rfl, rfl⟩
  clear HX hbig
  go_wp2_with fail
  refine Calls.mono (spec_DrawDoSolve cn _ w H.out) ?_
  intro e w1 hp
  obtain ⟨As, cs, Ak, ck, n, Ad, cd, ds, rfl, hx1, hf1, HN, HD⟩ := hp.plain
  clear hp
  have hz1 : w.heap.size ≤ w1.heap.size := hx1.size
  obtain ⟨wb2, hwb2⟩ : ∃ x : World, x = w1.alloc (.cells #[.slice As n.sets.length cs, .slice Ak n.links.length ck] 27) := ⟨_, rfl⟩
  have hxwb2 : Ext w1 wb2 := by rw [hwb2]; exact (by repeat (first | exact Ext.refl _ | assumption | refine Ext.alloc ?_ _ | refine Ext.drew ?_ | refine Ext.drewN ?_ _ | refine Ext.setCell ?_ (by first | (simp; done) | (simp; omega) | omega) _ | refine Ext.trans ?_ (by assumption)))
  have Hba := Lib.hid (show Boxed wb2 w1.heap.size [.slice As n.sets.length cs, .slice Ak n.links.length ck] from by rw [hwb2]; exact Boxed.new w1 [.slice As n.sets.length cs, .slice Ak n.links.length ck] 27)
  have hz2 : w1.heap.size ≤ wb2.heap.size := hxwb2.size
  have ba0 := Hba.out.at0
  have ba1 := Hba.out.at1
  have bag := Hba.out.1
  go_wp2_with fail
  rw [← hwb2]
  clear hwb2
  refine Calls.mono (impl_DoSolve _ _ _ n ds _ (HN.out.up (hxwb2.trans (by repeat (first | exact Ext.refl _ | assumption | refine Ext.alloc ?_ _ | refine Ext.drew ?_ | refine Ext.drewN ?_ _ | refine Ext.setCell ?_ (by first | (simp; done) | (simp; omega) | omega) _ | refine Ext.trans ?_ (by assumption))))) (HD.out.up (hxwb2.trans (by repeat (first | exact Ext.refl _ | assumption | refine Ext.alloc ?_ _ | refine Ext.drew ?_ | refine Ext.drewN ?_ _ | refine Ext.setCell ?_ (by first | (simp; done) | (simp; omega) | omega) _ | refine Ext.trans ?_ (by assumption)))))) ?_
  rintro e wd0 ⟨rfl, hxd0⟩
  have hz3 : wb2.heap.size ≤ wd0.heap.size := hxd0.size
  clear ba0 ba1 bag
  have ba := Hba.out.ext hxd0
  clear Hba
  have ba0 := ba.at0
  have ba1 := ba.at1
  have bag := ba.1
  have Hba := Lib.hid ba
  clear ba
  go_wp2_with fail
  refine Calls.mono (spec_DoSolve _ _ _ n ds _ (HN.out.up ((hxwb2.trans hxd0).trans (by repeat (first | exact Ext.refl _ | assumption | refine Ext.alloc ?_ _ | refine Ext.drew ?_ | refine Ext.drewN ?_ _ | refine Ext.setCell ?_ (by first | (simp; done) | (simp; omega) | omega) _ | refine Ext.trans ?_ (by assumption))))) (HD.out.up ((hxwb2.trans hxd0).trans (by repeat (first | exact Ext.refl _ | assumption | refine Ext.alloc ?_ _ | refine Ext.drew ?_ | refine Ext.drewN ?_ _ | refine Ext.setCell ?_ (by first | (simp; done) | (simp; omega) | omega) _ | refine Ext.trans ?_ (by assumption)))))) ?_
  rintro e wd1 ⟨rfl, hxd1⟩
  have hz4 : wd0.heap.size ≤ wd1.heap.size := hxd1.size
  clear ba0 ba1 bag
  have ba := Hba.out.ext hxd1
  clear Hba
  have ba0 := ba.at0
  have ba1 := ba.at1
  have bag := ba.1
  have Hba := Lib.hid ba
  clear ba
  go_wp2_with fail
  refine Calls.mono (impl_BrokenLinks _ _ _ n ds _ (HN.out.up (((hxwb2.trans hxd0).trans hxd1).trans (by repeat (first | exact Ext.refl _ | assumption | refine Ext.alloc ?_ _ | refine Ext.drew ?_ | refine Ext.drewN ?_ _ | refine Ext.setCell ?_ (by first | (simp; done) | (simp; omega) | omega) _ | refine Ext.trans ?_ (by assumption))))) (HD.out.up (((hxwb2.trans hxd0).trans hxd1).trans (by repeat (first | exact Ext.refl _ | assumption | refine Ext.alloc ?_ _ | refine Ext.drew ?_ | refine Ext.drewN ?_ _ | refine Ext.setCell ?_ (by first | (simp; done) | (simp; omega) | omega) _ | refine Ext.trans ?_ (by assumption)))))) ?_
  intro e wk0 hp
  obtain ⟨Ab0, cb0, rfl, hxk0, HK0⟩ := hp.plain
  clear hp
  have hz5 : wd1.heap.size ≤ wk0.heap.size := hxk0.size
  clear ba0 ba1 bag
  have ba := Hba.out.ext hxk0
  clear Hba
  have ba0 := ba.at0
  have ba1 := ba.at1
  have bag := ba.1
  have Hba := Lib.hid ba
  clear ba
  go_wp2_with fail
  refine Calls.mono (spec_BrokenLinks _ _ _ n ds _ (HN.out.up ((((hxwb2.trans hxd0).trans hxd1).trans hxk0).trans (by repeat (first | exact Ext.refl _ | assumption | refine Ext.alloc ?_ _ | refine Ext.drew ?_ | refine Ext.drewN ?_ _ | refine Ext.setCell ?_ (by first | (simp; done) | (simp; omega) | omega) _ | refine Ext.trans ?_ (by assumption))))) (HD.out.up ((((hxwb2.trans hxd0).trans hxd1).trans hxk0).trans (by repeat (first | exact Ext.refl _ | assumption | refine Ext.alloc ?_ _ | refine Ext.drew ?_ | refine Ext.drewN ?_ _ | refine Ext.setCell ?_ (by first | (simp; done) | (simp; omega) | omega) _ | refine Ext.trans ?_ (by assumption)))))) ?_
  intro e wk1 hp
  obtain ⟨Ab1, cb1, rfl, hxk1, HK1⟩ := hp.plain
  clear hp
  have hz6 : wk0.heap.size ≤ wk1.heap.size := hxk1.size
  clear ba0 ba1 bag
  have ba := Hba.out.ext hxk1
  clear Hba
  have ba0 := ba.at0
  have ba1 := ba.at1
  have bag := ba.1
  have Hba := Lib.hid ba
  clear ba
  go_wp2_with fail
  refine Calls.mono (spec_DrawTightestGap cn _ _ (H.out.up ((((((hx1.trans hxwb2).trans hxd0).trans hxd1).trans hxk0).trans hxk1).trans (by repeat (first | exact Ext.refl _ | assumption | refine Ext.alloc ?_ _ | refine Ext.drew ?_ | refine Ext.drewN ?_ _ | refine Ext.setCell ?_ (by first | (simp; done) | (simp; omega) | omega) _ | refine Ext.trans ?_ (by assumption)))))) ?_
  intro e w2 hp
  obtain ⟨Bs, es, Bk, ek, m, _, _, rfl, hx2, hf2, ⟨x, y, rfl, rfl⟩, HM⟩ := hp.plain
  clear hp
  have hz7 : wk1.heap.size ≤ w2.heap.size := hx2.size
  clear ba0 ba1 bag
  have ba := Hba.out.ext hx2
  clear Hba
  have ba0 := ba.at0
  have ba1 := ba.at1
  have bag := ba.1
  have Hba := Lib.hid ba
  clear ba
  obtain ⟨wb8, hwb8⟩ : ∃ x : World, x = w2.alloc (.cells #[.slice Bs m.sets.length es, .slice Bk m.links.length ek] 27) := ⟨_, rfl⟩
  have hxwb8 : Ext w2 wb8 := by rw [hwb8]; exact (by repeat (first | exact Ext.refl _ | assumption | refine Ext.alloc ?_ _ | refine Ext.drew ?_ | refine Ext.drewN ?_ _ | refine Ext.setCell ?_ (by first | (simp; done) | (simp; omega) | omega) _ | refine Ext.trans ?_ (by assumption)))
  have Hbb := Lib.hid (show Boxed wb8 w2.heap.size [.slice Bs m.sets.length es, .slice Bk m.links.length ek] from by rw [hwb8]; exact Boxed.new w2 [.slice Bs m.sets.length es, .slice Bk m.links.length ek] 27)
  have hz8 : w2.heap.size ≤ wb8.heap.size := hxwb8.size
  clear ba0 ba1 bag
  have ba := Hba.out.ext hxwb8
  clear Hba
  have ba0 := ba.at0
  have ba1 := ba.at1
  have bag := ba.1
  have Hba := Lib.hid ba
  clear ba
  have bb0 := Hbb.out.at0
  have bb1 := Hbb.out.at1
  have bbg := Hbb.out.1
  go_wp2_with fail
  rw [← hwb8]
  clear hwb8
  refine Calls.mono (impl_TightestGap _ _ m x y _ (HM.out.up (hxwb8.trans (by repeat (first | exact Ext.refl _ | assumption | refine Ext.alloc ?_ _ | refine Ext.drew ?_ | refine Ext.drewN ?_ _ | refine Ext.setCell ?_ (by first | (simp; done) | (simp; omega) | omega) _ | refine Ext.trans ?_ (by assumption)))))) ?_
  rintro e wg0 ⟨rfl, hxg0⟩
  have hz9 : wb8.heap.size ≤ wg0.heap.size := hxg0.size
  clear ba0 ba1 bag
  have ba := Hba.out.ext hxg0
  clear Hba
  have ba0 := ba.at0
  have ba1 := ba.at1
  have bag := ba.1
  have Hba := Lib.hid ba
  clear ba
  clear bb0 bb1 bbg
  have bb := Hbb.out.ext hxg0
  clear Hbb
  have bb0 := bb.at0
  have bb1 := bb.at1
  have bbg := bb.1
  have Hbb := Lib.hid bb
  clear bb
  go_wp2_with fail
  refine Calls.mono (spec_TightestGap _ _ m x y _ (HM.out.up ((hxwb8.trans hxg0).trans (by repeat (first | exact Ext.refl _ | assumption | refine Ext.alloc ?_ _ | refine Ext.drew ?_ | refine Ext.drewN ?_ _ | refine Ext.setCell ?_ (by first | (simp; done) | (simp; omega) | omega) _ | refine Ext.trans ?_ (by assumption)))))) ?_
  rintro e wg1 ⟨rfl, hxg1⟩
  have hz10 : wg0.heap.size ≤ wg1.heap.size := hxg1.size
  clear ba0 ba1 bag
  have ba := Hba.out.ext hxg1
  clear Hba
  have ba0 := ba.at0
  have ba1 := ba.at1
  have bag := ba.1
  have Hba := Lib.hid ba
  clear ba
  clear bb0 bb1 bbg
  have bb := Hbb.out.ext hxg1
  clear Hbb
  have bb0 := bb.at0
  have bb1 := bb.at1
  have bbg := bb.1
  have Hbb := Lib.hid bb
  clear bb
  go_wp2_with fail
  refine Calls.mono (laws_likeInts _ _ (brokenV n ds) _ (HK0.out.up (((((hxk1.trans hx2).trans hxwb8).trans hxg0).trans hxg1).trans (by repeat (first | exact Ext.refl _ | assumption | refine Ext.alloc ?_ _ | refine Ext.drew ?_ | refine Ext.drewN ?_ _ | refine Ext.setCell ?_ (by first | (simp; done) | (simp; omega) | omega) _ | refine Ext.trans ?_ (by assumption))))) (HK1.out.up ((((hx2.trans hxwb8).trans hxg0).trans hxg1).trans (by repeat (first | exact Ext.refl _ | assumption | refine Ext.alloc ?_ _ | refine Ext.drew ?_ | refine Ext.drewN ?_ _ | refine Ext.setCell ?_ (by first | (simp; done) | (simp; omega) | omega) _ | refine Ext.trans ?_ (by assumption)))))) ?_
  rintro e wl ⟨rfl, hxl⟩
  have hz11 : wg1.heap.size ≤ wl.heap.size := hxl.size
  clear ba0 ba1 bag
  have ba := Hba.out.ext hxl
  clear Hba
  have ba0 := ba.at0
  have ba1 := ba.at1
  have bag := ba.1
  have Hba := Lib.hid ba
  clear ba
  clear bb0 bb1 bbg
  have bb := Hbb.out.ext hxl
  clear Hbb
  have bb0 := bb.at0
  have bb1 := bb.at1
  have bbg := bb.1
  have Hbb := Lib.hid bb
  clear bb
  go_wp2_with fail
  refine Calls.mono (impl_IsNetwork _ _ n _ (HN.out.up ((((((((((hxwb2.trans hxd0).trans hxd1).trans hxk0).trans hxk1).trans hx2).trans hxwb8).trans hxg0).trans hxg1).trans hxl).trans (by repeat (first | exact Ext.refl _ | assumption | refine Ext.alloc ?_ _ | refine Ext.drew ?_ | refine Ext.drewN ?_ _ | refine Ext.setCell ?_ (by first | (simp; done) | (simp; omega) | omega) _ | refine Ext.trans ?_ (by assumption)))))) ?_
  rintro e wi ⟨rfl, hxi⟩
  have hz12 : wl.heap.size ≤ wi.heap.size := hxi.size
  clear ba0 ba1 bag
  have ba := Hba.out.ext hxi
  clear Hba
  have ba0 := ba.at0
  have ba1 := ba.at1
  have bag := ba.1
  have Hba := Lib.hid ba
  clear ba
  clear bb0 bb1 bbg
  have bb := Hbb.out.ext hxi
  clear Hbb
  have bb0 := bb.at0
  have bb1 := bb.at1
  have bbg := bb.1
  have Hbb := Lib.hid bb
  clear bb
  have hnd := net_day n ds
  by_cases hg : gapE m x y = 0
  · obtain ⟨s1, s2, s3, s4⟩ := gap_swap hg
    have hbd := gap_bd hg
    have W1 : IntKind.i64.wrap (-gapQ m x y) = -gapQ m x y := IntWalk.i64_in _ (by omega)
    have W2 : IntKind.i64.wrap (-gapP m x y) = -gapP m x y := IntWalk.i64_in _ (by omega)
    have hle : ¬ gapQ m x y < gapP m x y := by omega
    go_wp2_with fail
    refine Calls.mono (impl_TightestGap _ _ m y x _ (HM.out.up (((((hxwb8.trans hxg0).trans hxg1).trans hxl).trans hxi).trans (by repeat (first | exact Ext.refl _ | assumption | refine Ext.alloc ?_ _ | refine Ext.drew ?_ | refine Ext.drewN ?_ _ | refine Ext.setCell ?_ (by first | (simp; done) | (simp; omega) | omega) _ | refine Ext.trans ?_ (by assumption)))))) ?_
    rintro e ws ⟨rfl, hxs⟩
    rw [s1, s2, s3]
    have hz13 : wi.heap.size ≤ ws.heap.size := hxs.size
    clear ba0 ba1 bag
    have ba := Hba.out.ext hxs
    clear Hba
    have ba0 := ba.at0
    have ba1 := ba.at1
    have bag := ba.1
    have Hba := Lib.hid ba
    clear ba
    clear bb0 bb1 bbg
    have bb := Hbb.out.ext hxs
    clear Hbb
    have bb0 := bb.at0
    have bb1 := bb.at1
    have bbg := bb.1
    have Hbb := Lib.hid bb
    clear bb
    generalize gapP m x y = gp at *
    generalize gapQ m x y = gq at *
    clear s1 s2 s3 s4 hg
    by_cases hd : dayE n ds = 0
    case neg =>
      have hdf : (dayE n ds == 0) = false := by simpa using hd
      go_wp2_with fail
      go_ret
      exact ⟨rfl, (((((((((((((hx1.trans hxwb2).trans hxd0).trans hxd1).trans hxk0).trans hxk1).trans hx2).trans hxwb8).trans hxg0).trans hxg1).trans hxl).trans hxi).trans hxs).trans (by repeat (first | exact Ext.refl _ | assumption | refine Ext.alloc ?_ _ | refine Ext.drew ?_ | refine Ext.drewN ?_ _ | refine Ext.setCell ?_ (by first | (simp; done) | (simp; omega) | omega) _ | refine Ext.trans ?_ (by assumption))))⟩
    obtain ⟨hok, hdl, hdo⟩ := dayE_zero hd
    have hn8 := hok.1
    have hBk := B_true hok
    have Hok := Lib.hid hok
    have Hdo := Lib.hid hdo
    have Hd := Lib.hid hd
    clear hok hdo
    go_wp2_with fail
    go_loopg [25, 26, 27, 28] ds.length (fun q i25 i26 i27 i28 wr => ∃ j : Nat, j + q = ds.length ∧ i26 = .int .i64 j ∧ i25 = .bool (B (inTo n ds j)) ∧ Ext ws wr)
    case atStart => exact ⟨0, by omega, rfl, congrArg Value.bool (inTo_zero n ds).symm, Ext.refl _⟩
    case round =>
      obtain ⟨j, hj, rfl, rfl, hxr⟩ := hrel
      have hz14 : ws.heap.size ≤ wr.heap.size := hxr.size
      clear ba0 ba1 bag
      have ba := Hba.out.ext hxr
      clear Hba
      have ba0 := ba.at0
      have ba1 := ba.at1
      have bag := ba.1
      have Hba := Lib.hid ba
      clear ba
      clear bb0 bb1 bbg
      have bb := Hbb.out.ext hxr
      clear Hbb
      have bb0 := bb.at0
      have bb1 := bb.at1
      have bbg := bb.1
      have Hbb := Lib.hid bb
      clear bb
      by_cases hlt : j < ds.length
      · have hlt' : j < n.sets.length := by omega
        obtain ⟨b1, o1, u, rfl, _, hb1, h1, hu⟩ := (HN.out.up ((((((((((((hxwb2.trans hxd0).trans hxd1).trans hxk0).trans hxk1).trans hx2).trans hxwb8).trans hxg0).trans hxg1).trans hxl).trans hxi).trans hxs).trans hxr)).1.at_ hlt'
        obtain ⟨b2, o2, rfl, _, hb2, h2⟩ := (HD.out.up ((((((((((((hxwb2.trans hxd0).trans hxd1).trans hxk0).trans hxk1).trans hx2).trans hxwb8).trans hxg0).trans hxg1).trans hxl).trans hxi).trans hxs).trans hxr)).at_ hlt
        obtain ⟨Au, cu, rfl, _⟩ := hu.len
        have Hu := Lib.hid hu
        clear hu
        have hi1 : (j : Int) < (n.sets.length : Int) := by omega
        have hi2 : (j : Int) < (ds.length : Int) := by omega
        have hi0 : (0 : Int) ≤ (j : Int) := by omega
        go_wp2_with fail
        (refine wp_region_onto prog_mixed (by kernel_rfl) ?_; (repeat (go_big_quiet_step ((go_at_call 21; exact onto_callX (impl_HasDay _ (setAt n.sets j) (inAt ds j) _ (Hu.out.up (onto_ext _ _))))))); refine onto_end ?_; intro w5 hx5)
        have e5 : hdE (setAt n.sets j) (inAt ds j) = 0 := hdE_ok (Hok.out.2.2.1 j hlt') (Hdo.out j hlt)
        have e6 : hdV (setAt n.sets j) (inAt ds j) = B (HasDay (setAt n.sets j) (inAt ds j)) := hdV_ok (Hok.out.2.2.1 j hlt') (Hdo.out j hlt)
        rw [e5, e6]
        clear e5 e6 h1 h2 hb1 hb2
        have hz15 : wr.heap.size ≤ w5.heap.size := hx5.size
        clear ba0 ba1 bag
        have ba := Hba.out.ext hx5
        clear Hba
        have ba0 := ba.at0
        have ba1 := ba.at1
        have bag := ba.1
        have Hba := Lib.hid ba
        clear ba
        clear bb0 bb1 bbg
        have bb := Hbb.out.ext hx5
        clear Hbb
        have bb0 := bb.at0
        have bb1 := bb.at1
        have bbg := bb.1
        have Hbb := Lib.hid bb
        clear bb
        have hst : (B (inTo n ds j) && B (HasDay (setAt n.sets j) (inAt ds j))) = B (inTo n ds (j + 1)) := inTo_and n ds j
        generalize B (HasDay (setAt n.sets j) (inAt ds j)) = bh at *
        generalize hbj : B (inTo n ds j) = bj at *
        cases bj <;> cases bh
        all_goals
          go_wp2_with fail
          go_roundg (ds.length - (j + 1))
          case measure => omega
          case rel => exact ⟨j + 1, by omega, by go_num, congrArg Value.bool hst, (hxr.trans hx5)⟩
      · obtain rfl : j = ds.length := by omega
        have hs := solvB_in Hd.out
        have hj0 : ¬ (ds.length : Int) < (ds.length : Int) := by omega
        generalize hbj : B (inTo n ds ds.length) = bj at *
        by_cases hb0 : (brokenV n ds).length = 0
        · rw [hb0] at hs
          have hbi : ((brokenV n ds).length : Int) = 0 := by omega
          have hbn : ¬ (0 : Int) < ((brokenV n ds).length : Int) := by omega
          simp only [beq_self_eq_true, Bool.and_true] at hs
          by_cases hd2 : 2 ≤ ds.length
          case neg =>
            have hdi : (ds.length : Int) < 2 := by omega
            rw [hs]
            cases bj <;> (go_wp2_with fail; go_ret; exact ⟨rfl, ((((((((((((((hx1.trans hxwb2).trans hxd0).trans hxd1).trans hxk0).trans hxk1).trans hx2).trans hxwb8).trans hxg0).trans hxg1).trans hxl).trans hxi).trans hxs).trans hxr).trans (by repeat (first | exact Ext.refl _ | assumption | refine Ext.alloc ?_ _ | refine Ext.drew ?_ | refine Ext.drewN ?_ _ | refine Ext.setCell ?_ (by first | (simp; done) | (simp; omega) | omega) _ | refine Ext.trans ?_ (by assumption))))⟩)
          have hdi : ¬ (ds.length : Int) < 2 := by omega
          obtain ⟨g1, g2, g3⟩ := gap_days (ds := ds) Hok.out Hdo.out hdl ((broken_none Hd.out).1 hb0) hd2
          obtain ⟨b2, o2, rfl, _, hb2, h2⟩ := (HD.out.up ((((((((((((hxwb2.trans hxd0).trans hxd1).trans hxk0).trans hxk1).trans hx2).trans hxwb8).trans hxg0).trans hxg1).trans hxl).trans hxi).trans hxs).trans hxr)).at_ (i := 0) (by omega)
          obtain ⟨b3, o3, e3, _, hb3, h3⟩ := (HD.out.up ((((((((((((hxwb2.trans hxd0).trans hxd1).trans hxk0).trans hxk1).trans hx2).trans hxwb8).trans hxg0).trans hxg1).trans hxl).trans hxi).trans hxs).trans hxr)).at_ (i := 1) (by omega)
          injection e3 with e3
          injection e3 with e3 e4
          subst e3 e4
          rw [Nat.add_zero] at h2
          have hi1 : (1 : Int) < (ds.length : Int) := by omega
          have hi0 : (0 : Int) < (ds.length : Int) := by omega
          have db0 := Hdo.out 0 (by omega)
          have db1 := Hdo.out 1 (by omega)
          have W3 : IntKind.i64.wrap (inAt ds 1 - inAt ds 0) = inAt ds 1 - inAt ds 0 := IntWalk.i64_in _ (by unfold DayOk at db0 db1; omega)
          rw [hs]
          cases bj
          case false =>
            go_wp2_with fail
            refine Calls.mono (impl_TightestGap _ _ n 0 1 _ (HN.out.up (((((((((((((hxwb2.trans hxd0).trans hxd1).trans hxk0).trans hxk1).trans hx2).trans hxwb8).trans hxg0).trans hxg1).trans hxl).trans hxi).trans hxs).trans hxr).trans (by repeat (first | exact Ext.refl _ | assumption | refine Ext.alloc ?_ _ | refine Ext.drew ?_ | refine Ext.drewN ?_ _ | refine Ext.setCell ?_ (by first | (simp; done) | (simp; omega) | omega) _ | refine Ext.trans ?_ (by assumption)))))) ?_
            rintro e w6 ⟨rfl, hx6⟩
            have H2 := (hx6.cell (p := ⟨b2, o2, none⟩) hb2).trans h2
            have H3 := (hx6.cell (p := ⟨b2, o2 + 1, none⟩) hb2).trans h3
            clear h2 h3
            have h2 := H2
            have h3 := H3
            clear H2 H3
            have hz15 : wr.heap.size ≤ w6.heap.size := hx6.size
            clear ba0 ba1 bag
            have ba := Hba.out.ext hx6
            clear Hba
            have ba0 := ba.at0
            have ba1 := ba.at1
            have bag := ba.1
            have Hba := Lib.hid ba
            clear ba
            clear bb0 bb1 bbg
            have bb := Hbb.out.ext hx6
            clear Hbb
            have bb0 := bb.at0
            have bb1 := bb.at1
            have bbg := bb.1
            have Hbb := Lib.hid bb
            clear bb
            rw [g1]
            have hb2' : b2 < w6.heap.size := by omega
            generalize gapP n 0 1 = lo at *
            generalize gapQ n 0 1 = up at *
            go_wp2_with fail
            (refine wp_region_onto prog_mixed (by kernel_rfl) ?_; (repeat (go_big_quiet_step ((fail)))); refine onto_end ?_; intro w7 hx7)
            have hz16 : w6.heap.size ≤ w7.heap.size := hx7.size
            clear ba0 ba1 bag
            have ba := Hba.out.ext hx7
            clear Hba
            have ba0 := ba.at0
            have ba1 := ba.at1
            have bag := ba.1
            have Hba := Lib.hid ba
            clear ba
            clear bb0 bb1 bbg
            have bb := Hbb.out.ext hx7
            clear Hbb
            have bb0 := bb.at0
            have bb1 := bb.at1
            have bbg := bb.1
            have Hbb := Lib.hid bb
            clear bb
            go_wp2_with fail
            go_ret
            exact ⟨rfl, (((((((((((((((hx1.trans hxwb2).trans hxd0).trans hxd1).trans hxk0).trans hxk1).trans hx2).trans hxwb8).trans hxg0).trans hxg1).trans hxl).trans hxi).trans hxs).trans hxr).trans hx6).trans hx7)⟩
          case true =>
            go_wp2_with fail
            refine Calls.mono (impl_TightestGap _ _ n 0 1 _ (HN.out.up (((((((((((((hxwb2.trans hxd0).trans hxd1).trans hxk0).trans hxk1).trans hx2).trans hxwb8).trans hxg0).trans hxg1).trans hxl).trans hxi).trans hxs).trans hxr).trans (by repeat (first | exact Ext.refl _ | assumption | refine Ext.alloc ?_ _ | refine Ext.drew ?_ | refine Ext.drewN ?_ _ | refine Ext.setCell ?_ (by first | (simp; done) | (simp; omega) | omega) _ | refine Ext.trans ?_ (by assumption)))))) ?_
            rintro e w6 ⟨rfl, hx6⟩
            have H2 := (hx6.cell (p := ⟨b2, o2, none⟩) hb2).trans h2
            have H3 := (hx6.cell (p := ⟨b2, o2 + 1, none⟩) hb2).trans h3
            clear h2 h3
            have h2 := H2
            have h3 := H3
            clear H2 H3
            have hz15 : wr.heap.size ≤ w6.heap.size := hx6.size
            clear ba0 ba1 bag
            have ba := Hba.out.ext hx6
            clear Hba
            have ba0 := ba.at0
            have ba1 := ba.at1
            have bag := ba.1
            have Hba := Lib.hid ba
            clear ba
            clear bb0 bb1 bbg
            have bb := Hbb.out.ext hx6
            clear Hbb
            have bb0 := bb.at0
            have bb1 := bb.at1
            have bbg := bb.1
            have Hbb := Lib.hid bb
            clear bb
            rw [g1]
            have hb2' : b2 < w6.heap.size := by omega
            generalize gapP n 0 1 = lo at *
            generalize gapQ n 0 1 = up at *
            go_wp2_with fail
            (refine wp_region_onto prog_mixed (by kernel_rfl) ?_; (repeat (go_big_quiet_step ((fail)))); refine onto_end ?_; intro w7 hx7)
            have hz16 : w6.heap.size ≤ w7.heap.size := hx7.size
            clear ba0 ba1 bag
            have ba := Hba.out.ext hx7
            clear Hba
            have ba0 := ba.at0
            have ba1 := ba.at1
            have bag := ba.1
            have Hba := Lib.hid ba
            clear ba
            clear bb0 bb1 bbg
            have bb := Hbb.out.ext hx7
            clear Hbb
            have bb0 := bb.at0
            have bb1 := bb.at1
            have bbg := bb.1
            have Hbb := Lib.hid bb
            clear bb
            go_wp2_with fail
            go_ret
            exact ⟨rfl, (((((((((((((((hx1.trans hxwb2).trans hxd0).trans hxd1).trans hxk0).trans hxk1).trans hx2).trans hxwb8).trans hxg0).trans hxg1).trans hxl).trans hxi).trans hxs).trans hxr).trans hx6).trans hx7)⟩
        · have hbi : ((brokenV n ds).length == 0) = false := by simpa using hb0
          rw [hbi, Bool.and_false] at hs
          have hbp : (0 : Int) < ((brokenV n ds).length : Int) := by omega
          have hbz : ¬ ((brokenV n ds).length : Int) = 0 := by omega
          rw [hs]
          cases bj <;> (go_wp2_with fail; go_ret; exact ⟨rfl, ((((((((((((((hx1.trans hxwb2).trans hxd0).trans hxd1).trans hxk0).trans hxk1).trans hx2).trans hxwb8).trans hxg0).trans hxg1).trans hxl).trans hxi).trans hxs).trans hxr).trans (by repeat (first | exact Ext.refl _ | assumption | refine Ext.alloc ?_ _ | refine Ext.drew ?_ | refine Ext.drewN ?_ _ | refine Ext.setCell ?_ (by first | (simp; done) | (simp; omega) | omega) _ | refine Ext.trans ?_ (by assumption))))⟩)
  · have hgf : (gapE m x y == 0) = false := by simpa using hg
    by_cases hd : dayE n ds = 0
    case neg =>
      have hdf : (dayE n ds == 0) = false := by simpa using hd
      go_wp2_with fail
      go_ret
      exact ⟨rfl, ((((((((((((hx1.trans hxwb2).trans hxd0).trans hxd1).trans hxk0).trans hxk1).trans hx2).trans hxwb8).trans hxg0).trans hxg1).trans hxl).trans hxi).trans (by repeat (first | exact Ext.refl _ | assumption | refine Ext.alloc ?_ _ | refine Ext.drew ?_ | refine Ext.drewN ?_ _ | refine Ext.setCell ?_ (by first | (simp; done) | (simp; omega) | omega) _ | refine Ext.trans ?_ (by assumption))))⟩
    obtain ⟨hok, hdl, hdo⟩ := dayE_zero hd
    have hn8 := hok.1
    have hBk := B_true hok
    have Hok := Lib.hid hok
    have Hdo := Lib.hid hdo
    have Hd := Lib.hid hd
    clear hok hdo
    go_wp2_with fail
    go_loopg [25, 26, 27, 28] ds.length (fun q i25 i26 i27 i28 wr => ∃ j : Nat, j + q = ds.length ∧ i26 = .int .i64 j ∧ i25 = .bool (B (inTo n ds j)) ∧ Ext wi wr)
    case atStart => exact ⟨0, by omega, rfl, congrArg Value.bool (inTo_zero n ds).symm, Ext.refl _⟩
    case round =>
      obtain ⟨j, hj, rfl, rfl, hxr⟩ := hrel
      have hz13 : wi.heap.size ≤ wr.heap.size := hxr.size
      clear ba0 ba1 bag
      have ba := Hba.out.ext hxr
      clear Hba
      have ba0 := ba.at0
      have ba1 := ba.at1
      have bag := ba.1
      have Hba := Lib.hid ba
      clear ba
      clear bb0 bb1 bbg
      have bb := Hbb.out.ext hxr
      clear Hbb
      have bb0 := bb.at0
      have bb1 := bb.at1
      have bbg := bb.1
      have Hbb := Lib.hid bb
      clear bb
      by_cases hlt : j < ds.length
      · have hlt' : j < n.sets.length := by omega
        obtain ⟨b1, o1, u, rfl, _, hb1, h1, hu⟩ := (HN.out.up (((((((((((hxwb2.trans hxd0).trans hxd1).trans hxk0).trans hxk1).trans hx2).trans hxwb8).trans hxg0).trans hxg1).trans hxl).trans hxi).trans hxr)).1.at_ hlt'
        obtain ⟨b2, o2, rfl, _, hb2, h2⟩ := (HD.out.up (((((((((((hxwb2.trans hxd0).trans hxd1).trans hxk0).trans hxk1).trans hx2).trans hxwb8).trans hxg0).trans hxg1).trans hxl).trans hxi).trans hxr)).at_ hlt
        obtain ⟨Au, cu, rfl, _⟩ := hu.len
        have Hu := Lib.hid hu
        clear hu
        have hi1 : (j : Int) < (n.sets.length : Int) := by omega
        have hi2 : (j : Int) < (ds.length : Int) := by omega
        have hi0 : (0 : Int) ≤ (j : Int) := by omega
        go_wp2_with fail
        (refine wp_region_onto prog_mixed (by kernel_rfl) ?_; (repeat (go_big_quiet_step ((go_at_call 21; exact onto_callX (impl_HasDay _ (setAt n.sets j) (inAt ds j) _ (Hu.out.up (onto_ext _ _))))))); refine onto_end ?_; intro w5 hx5)
        have e5 : hdE (setAt n.sets j) (inAt ds j) = 0 := hdE_ok (Hok.out.2.2.1 j hlt') (Hdo.out j hlt)
        have e6 : hdV (setAt n.sets j) (inAt ds j) = B (HasDay (setAt n.sets j) (inAt ds j)) := hdV_ok (Hok.out.2.2.1 j hlt') (Hdo.out j hlt)
        rw [e5, e6]
        clear e5 e6 h1 h2 hb1 hb2
        have hz14 : wr.heap.size ≤ w5.heap.size := hx5.size
        clear ba0 ba1 bag
        have ba := Hba.out.ext hx5
        clear Hba
        have ba0 := ba.at0
        have ba1 := ba.at1
        have bag := ba.1
        have Hba := Lib.hid ba
        clear ba
        clear bb0 bb1 bbg
        have bb := Hbb.out.ext hx5
        clear Hbb
        have bb0 := bb.at0
        have bb1 := bb.at1
        have bbg := bb.1
        have Hbb := Lib.hid bb
        clear bb
        have hst : (B (inTo n ds j) && B (HasDay (setAt n.sets j) (inAt ds j))) = B (inTo n ds (j + 1)) := inTo_and n ds j
        generalize B (HasDay (setAt n.sets j) (inAt ds j)) = bh at *
        generalize hbj : B (inTo n ds j) = bj at *
        cases bj <;> cases bh
        all_goals
          go_wp2_with fail
          go_roundg (ds.length - (j + 1))
          case measure => omega
          case rel => exact ⟨j + 1, by omega, by go_num, congrArg Value.bool hst, (hxr.trans hx5)⟩
      · obtain rfl : j = ds.length := by omega
        have hs := solvB_in Hd.out
        have hj0 : ¬ (ds.length : Int) < (ds.length : Int) := by omega
        generalize hbj : B (inTo n ds ds.length) = bj at *
        by_cases hb0 : (brokenV n ds).length = 0
        · rw [hb0] at hs
          have hbi : ((brokenV n ds).length : Int) = 0 := by omega
          have hbn : ¬ (0 : Int) < ((brokenV n ds).length : Int) := by omega
          simp only [beq_self_eq_true, Bool.and_true] at hs
          by_cases hd2 : 2 ≤ ds.length
          case neg =>
            have hdi : (ds.length : Int) < 2 := by omega
            rw [hs]
            cases bj <;> (go_wp2_with fail; go_ret; exact ⟨rfl, (((((((((((((hx1.trans hxwb2).trans hxd0).trans hxd1).trans hxk0).trans hxk1).trans hx2).trans hxwb8).trans hxg0).trans hxg1).trans hxl).trans hxi).trans hxr).trans (by repeat (first | exact Ext.refl _ | assumption | refine Ext.alloc ?_ _ | refine Ext.drew ?_ | refine Ext.drewN ?_ _ | refine Ext.setCell ?_ (by first | (simp; done) | (simp; omega) | omega) _ | refine Ext.trans ?_ (by assumption))))⟩)
          have hdi : ¬ (ds.length : Int) < 2 := by omega
          obtain ⟨g1, g2, g3⟩ := gap_days (ds := ds) Hok.out Hdo.out hdl ((broken_none Hd.out).1 hb0) hd2
          obtain ⟨b2, o2, rfl, _, hb2, h2⟩ := (HD.out.up (((((((((((hxwb2.trans hxd0).trans hxd1).trans hxk0).trans hxk1).trans hx2).trans hxwb8).trans hxg0).trans hxg1).trans hxl).trans hxi).trans hxr)).at_ (i := 0) (by omega)
          obtain ⟨b3, o3, e3, _, hb3, h3⟩ := (HD.out.up (((((((((((hxwb2.trans hxd0).trans hxd1).trans hxk0).trans hxk1).trans hx2).trans hxwb8).trans hxg0).trans hxg1).trans hxl).trans hxi).trans hxr)).at_ (i := 1) (by omega)
          injection e3 with e3
          injection e3 with e3 e4
          subst e3 e4
          rw [Nat.add_zero] at h2
          have hi1 : (1 : Int) < (ds.length : Int) := by omega
          have hi0 : (0 : Int) < (ds.length : Int) := by omega
          have db0 := Hdo.out 0 (by omega)
          have db1 := Hdo.out 1 (by omega)
          have W3 : IntKind.i64.wrap (inAt ds 1 - inAt ds 0) = inAt ds 1 - inAt ds 0 := IntWalk.i64_in _ (by unfold DayOk at db0 db1; omega)
          rw [hs]
          cases bj
          case false =>
            go_wp2_with fail
            refine Calls.mono (impl_TightestGap _ _ n 0 1 _ (HN.out.up ((((((((((((hxwb2.trans hxd0).trans hxd1).trans hxk0).trans hxk1).trans hx2).trans hxwb8).trans hxg0).trans hxg1).trans hxl).trans hxi).trans hxr).trans (by repeat (first | exact Ext.refl _ | assumption | refine Ext.alloc ?_ _ | refine Ext.drew ?_ | refine Ext.drewN ?_ _ | refine Ext.setCell ?_ (by first | (simp; done) | (simp; omega) | omega) _ | refine Ext.trans ?_ (by assumption)))))) ?_
            rintro e w6 ⟨rfl, hx6⟩
            have H2 := (hx6.cell (p := ⟨b2, o2, none⟩) hb2).trans h2
            have H3 := (hx6.cell (p := ⟨b2, o2 + 1, none⟩) hb2).trans h3
            clear h2 h3
            have h2 := H2
            have h3 := H3
            clear H2 H3
            have hz14 : wr.heap.size ≤ w6.heap.size := hx6.size
            clear ba0 ba1 bag
            have ba := Hba.out.ext hx6
            clear Hba
            have ba0 := ba.at0
            have ba1 := ba.at1
            have bag := ba.1
            have Hba := Lib.hid ba
            clear ba
            clear bb0 bb1 bbg
            have bb := Hbb.out.ext hx6
            clear Hbb
            have bb0 := bb.at0
            have bb1 := bb.at1
            have bbg := bb.1
            have Hbb := Lib.hid bb
            clear bb
            rw [g1]
            have hb2' : b2 < w6.heap.size := by omega
            generalize gapP n 0 1 = lo at *
            generalize gapQ n 0 1 = up at *
            go_wp2_with fail
            (refine wp_region_onto prog_mixed (by kernel_rfl) ?_; (repeat (go_big_quiet_step ((fail)))); refine onto_end ?_; intro w7 hx7)
            have hz15 : w6.heap.size ≤ w7.heap.size := hx7.size
            clear ba0 ba1 bag
            have ba := Hba.out.ext hx7
            clear Hba
            have ba0 := ba.at0
            have ba1 := ba.at1
            have bag := ba.1
            have Hba := Lib.hid ba
            clear ba
            clear bb0 bb1 bbg
            have bb := Hbb.out.ext hx7
            clear Hbb
            have bb0 := bb.at0
            have bb1 := bb.at1
            have bbg := bb.1
            have Hbb := Lib.hid bb
            clear bb
            go_wp2_with fail
            go_ret
            exact ⟨rfl, ((((((((((((((hx1.trans hxwb2).trans hxd0).trans hxd1).trans hxk0).trans hxk1).trans hx2).trans hxwb8).trans hxg0).trans hxg1).trans hxl).trans hxi).trans hxr).trans hx6).trans hx7)⟩
          case true =>
            go_wp2_with fail
            refine Calls.mono (impl_TightestGap _ _ n 0 1 _ (HN.out.up ((((((((((((hxwb2.trans hxd0).trans hxd1).trans hxk0).trans hxk1).trans hx2).trans hxwb8).trans hxg0).trans hxg1).trans hxl).trans hxi).trans hxr).trans (by repeat (first | exact Ext.refl _ | assumption | refine Ext.alloc ?_ _ | refine Ext.drew ?_ | refine Ext.drewN ?_ _ | refine Ext.setCell ?_ (by first | (simp; done) | (simp; omega) | omega) _ | refine Ext.trans ?_ (by assumption)))))) ?_
            rintro e w6 ⟨rfl, hx6⟩
            have H2 := (hx6.cell (p := ⟨b2, o2, none⟩) hb2).trans h2
            have H3 := (hx6.cell (p := ⟨b2, o2 + 1, none⟩) hb2).trans h3
            clear h2 h3
            have h2 := H2
            have h3 := H3
            clear H2 H3
            have hz14 : wr.heap.size ≤ w6.heap.size := hx6.size
            clear ba0 ba1 bag
            have ba := Hba.out.ext hx6
            clear Hba
            have ba0 := ba.at0
            have ba1 := ba.at1
            have bag := ba.1
            have Hba := Lib.hid ba
            clear ba
            clear bb0 bb1 bbg
            have bb := Hbb.out.ext hx6
            clear Hbb
            have bb0 := bb.at0
            have bb1 := bb.at1
            have bbg := bb.1
            have Hbb := Lib.hid bb
            clear bb
            rw [g1]
            have hb2' : b2 < w6.heap.size := by omega
            generalize gapP n 0 1 = lo at *
            generalize gapQ n 0 1 = up at *
            go_wp2_with fail
            (refine wp_region_onto prog_mixed (by kernel_rfl) ?_; (repeat (go_big_quiet_step ((fail)))); refine onto_end ?_; intro w7 hx7)
            have hz15 : w6.heap.size ≤ w7.heap.size := hx7.size
            clear ba0 ba1 bag
            have ba := Hba.out.ext hx7
            clear Hba
            have ba0 := ba.at0
            have ba1 := ba.at1
            have bag := ba.1
            have Hba := Lib.hid ba
            clear ba
            clear bb0 bb1 bbg
            have bb := Hbb.out.ext hx7
            clear Hbb
            have bb0 := bb.at0
            have bb1 := bb.at1
            have bbg := bb.1
            have Hbb := Lib.hid bb
            clear bb
            go_wp2_with fail
            go_ret
            exact ⟨rfl, ((((((((((((((hx1.trans hxwb2).trans hxd0).trans hxd1).trans hxk0).trans hxk1).trans hx2).trans hxwb8).trans hxg0).trans hxg1).trans hxl).trans hxi).trans hxr).trans hx6).trans hx7)⟩
        · have hbi : ((brokenV n ds).length == 0) = false := by simpa using hb0
          rw [hbi, Bool.and_false] at hs
          have hbp : (0 : Int) < ((brokenV n ds).length : Int) := by omega
          have hbz : ¬ ((brokenV n ds).length : Int) = 0 := by omega
          rw [hs]
          cases bj <;> (go_wp2_with fail; go_ret; exact ⟨rfl, (((((((((((((hx1.trans hxwb2).trans hxd0).trans hxd1).trans hxk0).trans hxk1).trans hx2).trans hxwb8).trans hxg0).trans hxg1).trans hxl).trans hxi).trans hxr).trans (by repeat (first | exact Ext.refl _ | assumption | refine Ext.alloc ?_ _ | refine Ext.drew ?_ | refine Ext.drewN ?_ _ | refine Ext.setCell ?_ (by first | (simp; done) | (simp; omega) | omega) _ | refine Ext.trans ?_ (by assumption))))⟩)
end Go.Proofs.Ytfajmlkiidnhlaa
