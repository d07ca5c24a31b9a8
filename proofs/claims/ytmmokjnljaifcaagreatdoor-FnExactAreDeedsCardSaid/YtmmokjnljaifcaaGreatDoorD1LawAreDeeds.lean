/- The law FnExactAreDeeds, walked out of the contracts of the program's AreDeeds and the reference's. (Printed by genQw.py.) -/
import Derived.Test.YtmmokjnljaifcaaGreatDoorD1Ko
import Derived.Test.YtmmokjnljaifcaaGreatDoorD1Qi
import Derived.Deep.RegionHeld3
namespace Go.Proofs.YtmmokjnljaifcaaGreatDoor
set_option linter.unusedVariables false
set_option linter.unusedSimpArgs false
open Go.RowKit
attribute [local go_sem] cell_onto

theorem WrlAt.low {w : World} {lo hi : Nat} {v0 v3 v4 v5 v6 v7 v8 v9 : Value} {W : Wrl} (h : WrlAt w lo hi v0 v3 v4 v5 v6 v7 v8 v9 W) : WrlAt w 0 hi v0 v3 v4 v5 v6 v7 v8 v9 W :=
  ⟨Row.mono h.rg (Nat.zero_le _) (Nat.le_refl _), Row.mono h.ps (Nat.zero_le _) (Nat.le_refl _), Row.mono h.tm (Nat.zero_le _) (Nat.le_refl _), Row.mono h.pl (Nat.zero_le _) (Nat.le_refl _), Row.mono h.wy (Nat.zero_le _) (Nat.le_refl _), Row.mono h.st (Nat.zero_le _) (Nat.le_refl _), Row.mono h.se (Nat.zero_le _) (Nat.le_refl _), Row.mono h.ha (Nat.zero_le _) (Nat.le_refl _)⟩
theorem DsMx.nm {l : List Ded} (h : DsMx l) : DsNm l := fun i hi => ⟨(h i hi).1, (h i hi).2.1⟩
theorem DedsO.low {w : World} {lo : Nat} {v : Value} {l : List Ded} (h : DedsO w lo w.heap.size v l) : Deds w 0 w.heap.size v l := h.deds.mono (Nat.zero_le _) (Nat.le_refl _)
set_option maxRecDepth 100000 in
set_option maxHeartbeats 8000000 in
theorem law_AreDeeds (v0 v3 v4 v5 v6 v7 v8 v9 : Value) (W : Wrl) (vD : Value) (l : List Ded) (w : World) (h : WrlAt w 0 w.heap.size v0 v3 v4 v5 v6 v7 v8 v9 W) (hz : WMx W) (hd : Deds w 0 w.heap.size vD l) (hdz : DsMx l) : Calls Tryz.prog 4 #[.agg #[v0, .int .i64 W.ch.fr, .int .i64 W.ch.to, v3, v4, v5, v6, v7, v8, v9], vD] w (RetX (.bool true) w) := by
  obtain ⟨AD, cD, rfl, hDn, hDc⟩ := hd.len
  have H := Lib.hid h
  have Hz := Lib.hid hz
  have Hd := Lib.hid hd
  have Hdz := Lib.hid hdz
  clear h hz hd hdz
  have HA0 := Lib.hid (Boxed.new w [v0, .int .i64 W.ch.fr, .int .i64 W.ch.to, v3, v4, v5, v6, v7, v8, v9] 65)
  go_enter Tryz.func4, Tryz.ntmps4
  go_wp2_with fail
  refine Calls.mono (laws_szWorld v0 v3 v4 v5 v6 v7 v8 v9 W 1048576 _ (by omega) (by omega) (H.out.up (by repeat (first | exact Ext.refl _ | assumption | refine Ext.alloc ?_ _ | refine Ext.drew ?_ | refine Ext.drewN ?_ _ | refine Ext.setCell ?_ (by first | (simp; done) | (simp; omega) | omega) _ | refine Ext.trans ?_ (by assumption)))) Hz.out) ?_
  rintro e w1 ⟨r1, rfl, hx1, hra1, hrb1, hrc1⟩
  have HA1 := Lib.hid (HA0.out.ext hx1)
  have hX1 : Ext w w1 := (by repeat (first | exact Ext.refl _ | assumption | refine Ext.alloc ?_ _ | refine Ext.drew ?_ | refine Ext.drewN ?_ _ | refine Ext.setCell ?_ (by first | (simp; done) | (simp; omega) | omega) _ | refine Ext.trans ?_ (by assumption)))
  have Hr1 := Lib.hid hrc1
  clear hrc1 hx1
  obtain ⟨a0, a1, a2, a3, a4, a5, a6, a7, a8, a9, ag⟩ := HA1.out.ten
  by_cases hneg1 : r1 < 0
  case pos =>
    go_wp2_with fail
    go_ret
    exact ⟨rfl, (by repeat (first | exact Ext.refl _ | assumption | refine Ext.alloc ?_ _ | refine Ext.drew ?_ | refine Ext.drewN ?_ _ | refine Ext.setCell ?_ (by first | (simp; done) | (simp; omega) | omega) _ | refine Ext.trans ?_ (by assumption)))⟩
  have Hln := Lib.hid (Hr1.out (by omega)).1
  have Hsm := Lib.hid (Hr1.out (by omega)).2
  go_wp2_with fail
  refine Calls.mono (laws_szDeedS _ l r1 _ (by omega) (by omega) (Hd.out.up hX1) Hdz.out) ?_
  rintro e w2 ⟨r2, rfl, hx2, hra2, hrb2, hrc2⟩
  have HA2 := Lib.hid (HA1.out.ext hx2)
  have hX2 : Ext w w2 := hX1.trans hx2
  have Hr2 := Lib.hid hrc2
  clear hrc2 hx2
  clear a0 a1 a2 a3 a4 a5 a6 a7 a8 a9 ag
  obtain ⟨a0, a1, a2, a3, a4, a5, a6, a7, a8, a9, ag⟩ := HA2.out.ten
  by_cases hneg2 : r2 < 0
  case pos =>
    go_wp2_with fail
    go_ret
    exact ⟨rfl, (by repeat (first | exact Ext.refl _ | assumption | refine Ext.alloc ?_ _ | refine Ext.drew ?_ | refine Ext.drewN ?_ _ | refine Ext.setCell ?_ (by first | (simp; done) | (simp; omega) | omega) _ | refine Ext.trans ?_ (by assumption)))⟩
  have Hdl := Lib.hid (Hr2.out (by omega))
  go_wp2_with fail
  refine Calls.mono (laws_toWorld v0 v3 v4 v5 v6 v7 v8 v9 W _ (H.out.up hX2) Hln.out) ?_
  rintro e w3 ⟨p0, p3, p4, p5, p6, p7, p8, p9, rfl, hx3, ho3, hcc3⟩
  clear hcc3
  have t : ∃ A c, p0 = .slice A W.ch.rg.length c := Row.sl ho3.rg
  obtain ⟨Yp0, Cp0, rfl⟩ := t
  have t : ∃ A c, p3 = .slice A W.pp.ps.length c := Row.sl ho3.ps
  obtain ⟨Yp3, Cp3, rfl⟩ := t
  have t : ∃ A c, p4 = .slice A W.pp.tm.length c := Row.sl ho3.tm
  obtain ⟨Yp4, Cp4, rfl⟩ := t
  have t : ∃ A c, p5 = .slice A W.ld.pl.length c := Row.sl ho3.pl
  obtain ⟨Yp5, Cp5, rfl⟩ := t
  have t : ∃ A c, p6 = .slice A W.ld.wy.length c := Row.sl ho3.wy
  obtain ⟨Yp6, Cp6, rfl⟩ := t
  have t : ∃ A c, p7 = .slice A W.st.length c := Row.sl ho3.st
  obtain ⟨Yp7, Cp7, rfl⟩ := t
  have t : ∃ A c, p8 = .slice A W.se.length c := Row.sl ho3.se
  obtain ⟨Yp8, Cp8, rfl⟩ := t
  have t : ∃ A c, p9 = .slice A W.ha.length c := Row.sl ho3.ha
  obtain ⟨Yp9, Cp9, rfl⟩ := t
  have HA3 := Lib.hid (HA2.out.ext hx3)
  have hX3 : Ext w w3 := hX2.trans hx3
  have hp := ho3.low
  have Hp := Lib.hid hp
  clear hp ho3 hx3
  clear a0 a1 a2 a3 a4 a5 a6 a7 a8 a9 ag
  obtain ⟨a0, a1, a2, a3, a4, a5, a6, a7, a8, a9, ag⟩ := HA3.out.ten
  go_wp2_with fail
  refine Calls.mono (laws_toDeedS _ l _ (Hd.out.up hX3) Hdl.out) ?_
  rintro e w4 ⟨s, rfl, hx4, ho4⟩
  obtain ⟨As, Cs, rfl, _, _⟩ := ho4.low.len
  have Hs := Lib.hid ho4.low
  have HA4 := Lib.hid (HA3.out.ext hx4)
  have hX4 : Ext w w4 := hX3.trans hx4
  have t := Hp.out.up hx4
  clear Hp
  have Hp := Lib.hid t
  clear t
  clear ho4 hx4
  clear a0 a1 a2 a3 a4 a5 a6 a7 a8 a9 ag
  obtain ⟨a0, a1, a2, a3, a4, a5, a6, a7, a8, a9, ag⟩ := HA4.out.ten
  go_wp2_with fail
  refine Calls.mono (spec_AreDeeds (.slice Yp0 W.ch.rg.length Cp0) (.slice Yp3 W.pp.ps.length Cp3) (.slice Yp4 W.pp.tm.length Cp4) (.slice Yp5 W.ld.pl.length Cp5) (.slice Yp6 W.ld.wy.length Cp6) (.slice Yp7 W.st.length Cp7) (.slice Yp8 W.se.length Cp8) (.slice Yp9 W.ha.length Cp9) _ W l _ Hp.out Hs.out Hsm.out Hdz.out.nm) ?_
  rintro e w5 ⟨rfl, hx5⟩
  have HA5 := Lib.hid (HA4.out.ext hx5)
  have hX5 : Ext w w5 := hX4.trans hx5
  clear Hp Hs hx5
  clear a0 a1 a2 a3 a4 a5 a6 a7 a8 a9 ag
  obtain ⟨a0, a1, a2, a3, a4, a5, a6, a7, a8, a9, ag⟩ := HA5.out.ten
  go_wp2_with fail
  refine Calls.mono (laws_toWorld v0 v3 v4 v5 v6 v7 v8 v9 W _ (H.out.up hX5) Hln.out) ?_
  rintro e w6 ⟨q0, q3, q4, q5, q6, q7, q8, q9, rfl, hx6, ho6, hcc6⟩
  clear hcc6
  have t : ∃ A c, q0 = .slice A W.ch.rg.length c := Row.sl ho6.rg
  obtain ⟨Yq0, Cq0, rfl⟩ := t
  have t : ∃ A c, q3 = .slice A W.pp.ps.length c := Row.sl ho6.ps
  obtain ⟨Yq3, Cq3, rfl⟩ := t
  have t : ∃ A c, q4 = .slice A W.pp.tm.length c := Row.sl ho6.tm
  obtain ⟨Yq4, Cq4, rfl⟩ := t
  have t : ∃ A c, q5 = .slice A W.ld.pl.length c := Row.sl ho6.pl
  obtain ⟨Yq5, Cq5, rfl⟩ := t
  have t : ∃ A c, q6 = .slice A W.ld.wy.length c := Row.sl ho6.wy
  obtain ⟨Yq6, Cq6, rfl⟩ := t
  have t : ∃ A c, q7 = .slice A W.st.length c := Row.sl ho6.st
  obtain ⟨Yq7, Cq7, rfl⟩ := t
  have t : ∃ A c, q8 = .slice A W.se.length c := Row.sl ho6.se
  obtain ⟨Yq8, Cq8, rfl⟩ := t
  have t : ∃ A c, q9 = .slice A W.ha.length c := Row.sl ho6.ha
  obtain ⟨Yq9, Cq9, rfl⟩ := t
  have HA6 := Lib.hid (HA5.out.ext hx6)
  have hX6 : Ext w w6 := hX5.trans hx6
  have hq := ho6.low
  have Hq := Lib.hid hq
  clear hq ho6 hx6
  clear a0 a1 a2 a3 a4 a5 a6 a7 a8 a9 ag
  obtain ⟨a0, a1, a2, a3, a4, a5, a6, a7, a8, a9, ag⟩ := HA6.out.ten
  go_wp2_with fail
  have Hb := Lib.hid (Boxed.new w6 [.slice Yq0 W.ch.rg.length Cq0, .int .i64 W.ch.fr, .int .i64 W.ch.to, .slice Yq3 W.pp.ps.length Cq3, .slice Yq4 W.pp.tm.length Cq4, .slice Yq5 W.ld.pl.length Cq5, .slice Yq6 W.ld.wy.length Cq6, .slice Yq7 W.st.length Cq7, .slice Yq8 W.se.length Cq8, .slice Yq9 W.ha.length Cq9] 38)
  have hX7 : Ext w (w6.alloc (.cells #[.slice Yq0 W.ch.rg.length Cq0, .int .i64 W.ch.fr, .int .i64 W.ch.to, .slice Yq3 W.pp.ps.length Cq3, .slice Yq4 W.pp.tm.length Cq4, .slice Yq5 W.ld.pl.length Cq5, .slice Yq6 W.ld.wy.length Cq6, .slice Yq7 W.st.length Cq7, .slice Yq8 W.se.length Cq8, .slice Yq9 W.ha.length Cq9] 38)) := hX6.alloc _
  have HA7 := Lib.hid (HA6.out.ext ((Ext.refl _).alloc (.cells #[.slice Yq0 W.ch.rg.length Cq0, .int .i64 W.ch.fr, .int .i64 W.ch.to, .slice Yq3 W.pp.ps.length Cq3, .slice Yq4 W.pp.tm.length Cq4, .slice Yq5 W.ld.pl.length Cq5, .slice Yq6 W.ld.wy.length Cq6, .slice Yq7 W.st.length Cq7, .slice Yq8 W.se.length Cq8, .slice Yq9 W.ha.length Cq9] 38)))
  refine Calls.mono (laws_toDeedS _ l _ (Hd.out.up hX7) Hdl.out) ?_
  rintro e w8 ⟨y, rfl, hx8, ho8⟩
  obtain ⟨Ay, Cy, rfl, _, _⟩ := ho8.low.len
  have Hy := Lib.hid ho8.low
  have HA8 := Lib.hid (HA7.out.ext hx8)
  have HB8 := Lib.hid (Hb.out.ext hx8)
  have hX8 : Ext w w8 := hX7.trans hx8
  have t := Hq.out.up (((Ext.refl w6).alloc _).trans hx8)
  clear Hq
  have Hq := Lib.hid t
  clear t ho8 hx8
  clear a0 a1 a2 a3 a4 a5 a6 a7 a8 a9 ag
  obtain ⟨a0, a1, a2, a3, a4, a5, a6, a7, a8, a9, ag⟩ := HA8.out.ten
  obtain ⟨b0, b1, b2, b3, b4, b5, b6, b7, b8, b9, bg⟩ := HB8.out.ten
  go_wp2_with fail
  refine Calls.mono (impl_AreDeeds (.slice Yq0 W.ch.rg.length Cq0) (.slice Yq3 W.pp.ps.length Cq3) (.slice Yq4 W.pp.tm.length Cq4) (.slice Yq5 W.ld.pl.length Cq5) (.slice Yq6 W.ld.wy.length Cq6) (.slice Yq7 W.st.length Cq7) (.slice Yq8 W.se.length Cq8) (.slice Yq9 W.ha.length Cq9) _ W l _ Hq.out Hy.out) ?_
  rintro e w9 ⟨rfl, hx9⟩
  have HA9 := Lib.hid (HA8.out.ext hx9)
  have HB9 := Lib.hid (HB8.out.ext hx9)
  have hX9 : Ext w w9 := hX8.trans hx9
  have t := Hq.out.up hx9
  clear Hq
  have Hq := Lib.hid t
  clear t
  have t := Hy.out.up hx9
  clear Hy
  have Hy := Lib.hid t
  clear t hx9
  clear a0 a1 a2 a3 a4 a5 a6 a7 a8 a9 ag
  obtain ⟨a0, a1, a2, a3, a4, a5, a6, a7, a8, a9, ag⟩ := HA9.out.ten
  clear b0 b1 b2 b3 b4 b5 b6 b7 b8 b9 bg
  obtain ⟨b0, b1, b2, b3, b4, b5, b6, b7, b8, b9, bg⟩ := HB9.out.ten
  go_wp2_with fail
  go_region_held3 (fun w' => w'.cell? ⟨w.heap.size, 0, none⟩ = some (v0) ∧ w'.cell? ⟨w.heap.size, 1, none⟩ = some (.int .i64 W.ch.fr) ∧ w'.cell? ⟨w.heap.size, 2, none⟩ = some (.int .i64 W.ch.to) ∧ w'.cell? ⟨w.heap.size, 3, none⟩ = some (v3) ∧ w'.cell? ⟨w.heap.size, 4, none⟩ = some (v4) ∧ w'.cell? ⟨w.heap.size, 5, none⟩ = some (v5) ∧ w'.cell? ⟨w.heap.size, 6, none⟩ = some (v6) ∧ w'.cell? ⟨w.heap.size, 7, none⟩ = some (v7) ∧ w'.cell? ⟨w.heap.size, 8, none⟩ = some (v8) ∧ w'.cell? ⟨w.heap.size, 9, none⟩ = some (v9) ∧ w'.cell? ⟨w6.heap.size, 0, none⟩ = some (.slice Yq0 W.ch.rg.length Cq0) ∧ w'.cell? ⟨w6.heap.size, 1, none⟩ = some (.int .i64 W.ch.fr) ∧ w'.cell? ⟨w6.heap.size, 2, none⟩ = some (.int .i64 W.ch.to) ∧ w'.cell? ⟨w6.heap.size, 3, none⟩ = some (.slice Yq3 W.pp.ps.length Cq3) ∧ w'.cell? ⟨w6.heap.size, 4, none⟩ = some (.slice Yq4 W.pp.tm.length Cq4) ∧ w'.cell? ⟨w6.heap.size, 5, none⟩ = some (.slice Yq5 W.ld.pl.length Cq5) ∧ w'.cell? ⟨w6.heap.size, 6, none⟩ = some (.slice Yq6 W.ld.wy.length Cq6) ∧ w'.cell? ⟨w6.heap.size, 7, none⟩ = some (.slice Yq7 W.st.length Cq7) ∧ w'.cell? ⟨w6.heap.size, 8, none⟩ = some (.slice Yq8 W.se.length Cq8) ∧ w'.cell? ⟨w6.heap.size, 9, none⟩ = some (.slice Yq9 W.ha.length Cq9) ∧ Ext w9 w')
    (exact Ext.and_cell ag a0 (by repeat (first | exact Ext.refl _ | assumption | refine Ext.alloc ?_ _ | refine Ext.drew ?_ | refine Ext.drewN ?_ _ | refine Ext.setCell ?_ (by first | (simp; done) | (simp; omega) | omega) _ | refine Ext.trans ?_ (by assumption))) (Ext.and_cell ag a1 (by repeat (first | exact Ext.refl _ | assumption | refine Ext.alloc ?_ _ | refine Ext.drew ?_ | refine Ext.drewN ?_ _ | refine Ext.setCell ?_ (by first | (simp; done) | (simp; omega) | omega) _ | refine Ext.trans ?_ (by assumption))) (Ext.and_cell ag a2 (by repeat (first | exact Ext.refl _ | assumption | refine Ext.alloc ?_ _ | refine Ext.drew ?_ | refine Ext.drewN ?_ _ | refine Ext.setCell ?_ (by first | (simp; done) | (simp; omega) | omega) _ | refine Ext.trans ?_ (by assumption))) (Ext.and_cell ag a3 (by repeat (first | exact Ext.refl _ | assumption | refine Ext.alloc ?_ _ | refine Ext.drew ?_ | refine Ext.drewN ?_ _ | refine Ext.setCell ?_ (by first | (simp; done) | (simp; omega) | omega) _ | refine Ext.trans ?_ (by assumption))) (Ext.and_cell ag a4 (by repeat (first | exact Ext.refl _ | assumption | refine Ext.alloc ?_ _ | refine Ext.drew ?_ | refine Ext.drewN ?_ _ | refine Ext.setCell ?_ (by first | (simp; done) | (simp; omega) | omega) _ | refine Ext.trans ?_ (by assumption))) (Ext.and_cell ag a5 (by repeat (first | exact Ext.refl _ | assumption | refine Ext.alloc ?_ _ | refine Ext.drew ?_ | refine Ext.drewN ?_ _ | refine Ext.setCell ?_ (by first | (simp; done) | (simp; omega) | omega) _ | refine Ext.trans ?_ (by assumption))) (Ext.and_cell ag a6 (by repeat (first | exact Ext.refl _ | assumption | refine Ext.alloc ?_ _ | refine Ext.drew ?_ | refine Ext.drewN ?_ _ | refine Ext.setCell ?_ (by first | (simp; done) | (simp; omega) | omega) _ | refine Ext.trans ?_ (by assumption))) (Ext.and_cell ag a7 (by repeat (first | exact Ext.refl _ | assumption | refine Ext.alloc ?_ _ | refine Ext.drew ?_ | refine Ext.drewN ?_ _ | refine Ext.setCell ?_ (by first | (simp; done) | (simp; omega) | omega) _ | refine Ext.trans ?_ (by assumption))) (Ext.and_cell ag a8 (by repeat (first | exact Ext.refl _ | assumption | refine Ext.alloc ?_ _ | refine Ext.drew ?_ | refine Ext.drewN ?_ _ | refine Ext.setCell ?_ (by first | (simp; done) | (simp; omega) | omega) _ | refine Ext.trans ?_ (by assumption))) (Ext.and_cell ag a9 (by repeat (first | exact Ext.refl _ | assumption | refine Ext.alloc ?_ _ | refine Ext.drew ?_ | refine Ext.drewN ?_ _ | refine Ext.setCell ?_ (by first | (simp; done) | (simp; omega) | omega) _ | refine Ext.trans ?_ (by assumption))) (Ext.and_cell bg b0 (by repeat (first | exact Ext.refl _ | assumption | refine Ext.alloc ?_ _ | refine Ext.drew ?_ | refine Ext.drewN ?_ _ | refine Ext.setCell ?_ (by first | (simp; done) | (simp; omega) | omega) _ | refine Ext.trans ?_ (by assumption))) (Ext.and_cell bg b1 (by repeat (first | exact Ext.refl _ | assumption | refine Ext.alloc ?_ _ | refine Ext.drew ?_ | refine Ext.drewN ?_ _ | refine Ext.setCell ?_ (by first | (simp; done) | (simp; omega) | omega) _ | refine Ext.trans ?_ (by assumption))) (Ext.and_cell bg b2 (by repeat (first | exact Ext.refl _ | assumption | refine Ext.alloc ?_ _ | refine Ext.drew ?_ | refine Ext.drewN ?_ _ | refine Ext.setCell ?_ (by first | (simp; done) | (simp; omega) | omega) _ | refine Ext.trans ?_ (by assumption))) (Ext.and_cell bg b3 (by repeat (first | exact Ext.refl _ | assumption | refine Ext.alloc ?_ _ | refine Ext.drew ?_ | refine Ext.drewN ?_ _ | refine Ext.setCell ?_ (by first | (simp; done) | (simp; omega) | omega) _ | refine Ext.trans ?_ (by assumption))) (Ext.and_cell bg b4 (by repeat (first | exact Ext.refl _ | assumption | refine Ext.alloc ?_ _ | refine Ext.drew ?_ | refine Ext.drewN ?_ _ | refine Ext.setCell ?_ (by first | (simp; done) | (simp; omega) | omega) _ | refine Ext.trans ?_ (by assumption))) (Ext.and_cell bg b5 (by repeat (first | exact Ext.refl _ | assumption | refine Ext.alloc ?_ _ | refine Ext.drew ?_ | refine Ext.drewN ?_ _ | refine Ext.setCell ?_ (by first | (simp; done) | (simp; omega) | omega) _ | refine Ext.trans ?_ (by assumption))) (Ext.and_cell bg b6 (by repeat (first | exact Ext.refl _ | assumption | refine Ext.alloc ?_ _ | refine Ext.drew ?_ | refine Ext.drewN ?_ _ | refine Ext.setCell ?_ (by first | (simp; done) | (simp; omega) | omega) _ | refine Ext.trans ?_ (by assumption))) (Ext.and_cell bg b7 (by repeat (first | exact Ext.refl _ | assumption | refine Ext.alloc ?_ _ | refine Ext.drew ?_ | refine Ext.drewN ?_ _ | refine Ext.setCell ?_ (by first | (simp; done) | (simp; omega) | omega) _ | refine Ext.trans ?_ (by assumption))) (Ext.and_cell bg b8 (by repeat (first | exact Ext.refl _ | assumption | refine Ext.alloc ?_ _ | refine Ext.drew ?_ | refine Ext.drewN ?_ _ | refine Ext.setCell ?_ (by first | (simp; done) | (simp; omega) | omega) _ | refine Ext.trans ?_ (by assumption))) (Ext.and_cell bg b9 (by repeat (first | exact Ext.refl _ | assumption | refine Ext.alloc ?_ _ | refine Ext.drew ?_ | refine Ext.drewN ?_ _ | refine Ext.setCell ?_ (by first | (simp; done) | (simp; omega) | omega) _ | refine Ext.trans ?_ (by assumption))) (by repeat (first | exact Ext.refl _ | assumption | refine Ext.alloc ?_ _ | refine Ext.drew ?_ | refine Ext.drewN ?_ _ | refine Ext.setCell ?_ (by first | (simp; done) | (simp; omega) | omega) _ | refine Ext.trans ?_ (by assumption)))))))))))))))))))))))
    (first
      | (go_at_call 29; refine Calls.mono (laws_toWorld v0 v3 v4 v5 v6 v7 v8 v9 W _ (H.out.up (hX9.trans (by repeat (first | exact Ext.refl _ | assumption | refine Ext.alloc ?_ _ | refine Ext.drew ?_ | refine Ext.drewN ?_ _ | refine Ext.setCell ?_ (by first | (simp; done) | (simp; omega) | omega) _ | refine Ext.trans ?_ (by assumption))))) Hln.out) ?_; rintro e w10 ⟨s0, s3, s4, s5, s6, s7, s8, s9, rfl, hx10, ho10, _⟩)
      | (go_at_call 31; refine Calls.mono (laws_eqWorld (.slice Yq0 W.ch.rg.length Cq0) (.slice Yq3 W.pp.ps.length Cq3) (.slice Yq4 W.pp.tm.length Cq4) (.slice Yq5 W.ld.pl.length Cq5) (.slice Yq6 W.ld.wy.length Cq6) (.slice Yq7 W.st.length Cq7) (.slice Yq8 W.se.length Cq8) (.slice Yq9 W.ha.length Cq9) s0 s3 s4 s5 s6 s7 s8 s9 W _ (Hq.out.up (by repeat (first | exact Ext.refl _ | assumption | refine Ext.alloc ?_ _ | refine Ext.drew ?_ | refine Ext.drewN ?_ _ | refine Ext.setCell ?_ (by first | (simp; done) | (simp; omega) | omega) _ | refine Ext.trans ?_ (by assumption)))) (ho10.low.up (by repeat (first | exact Ext.refl _ | assumption | refine Ext.alloc ?_ _ | refine Ext.drew ?_ | refine Ext.drewN ?_ _ | refine Ext.setCell ?_ (by first | (simp; done) | (simp; omega) | omega) _ | refine Ext.trans ?_ (by assumption))))) ?_; rintro e w11 ⟨rfl, hx11⟩))
  have hE : Ext w9 w11 := (by repeat (first | exact Ext.refl _ | assumption | refine Ext.alloc ?_ _ | refine Ext.drew ?_ | refine Ext.drewN ?_ _ | refine Ext.setCell ?_ (by first | (simp; done) | (simp; omega) | omega) _ | refine Ext.trans ?_ (by assumption)))
  have hX11 := hX9.trans hE
  clear a0 b0 a1 b1 a2 b2 a3 b3 a4 b4 a5 b5 a6 b6 a7 b7 a8 b8 a9 b9 ag bg
  go_wp2_with fail
  refine Calls.mono (laws_toDeedS _ l _ (Hd.out.up hX11) Hdl.out) ?_
  rintro e w12 ⟨z, rfl, hx12, ho12⟩
  have Hz2 := Lib.hid ho12.low
  have Hy2 := Lib.hid (Hy.out.up (hE.trans hx12))
  have hX12 := hX11.trans hx12
  clear ho12 hx12 hE
  go_wp2_with fail
  refine Calls.mono (laws_eqDeedS _ z l _ Hy2.out Hz2.out) ?_
  rintro e w13 ⟨rfl, hx13⟩
  have hX13 := hX12.trans hx13
  go_wp2_with fail
  go_ret
  exact ⟨rfl, hX13⟩
end Go.Proofs.YtmmokjnljaifcaaGreatDoor
