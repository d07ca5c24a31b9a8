/- The law FnExactIsWorld, walked out of the contracts of the program's IsWorld and the reference's. (Printed by genKw.py.) -/
import Derived.Test.YtbddkmlfjghllaaGreatDoorW1Kn
import Derived.Deep.RegionHeld3
namespace Go.Proofs.YtbddkmlfjghllaaGreatDoor
set_option linter.unusedVariables false
set_option linter.unusedSimpArgs false
open Go.RowKit
attribute [local go_sem] cell_onto

theorem WrlAt.low {w : World} {lo hi : Nat} {v0 v3 v4 v5 v6 v7 v8 v9 : Value} {W : Wrl} (h : WrlAt w lo hi v0 v3 v4 v5 v6 v7 v8 v9 W) : WrlAt w 0 hi v0 v3 v4 v5 v6 v7 v8 v9 W :=
  ⟨Row.mono h.rg (Nat.zero_le _) (Nat.le_refl _), Row.mono h.ps (Nat.zero_le _) (Nat.le_refl _), Row.mono h.tm (Nat.zero_le _) (Nat.le_refl _), Row.mono h.pl (Nat.zero_le _) (Nat.le_refl _), Row.mono h.wy (Nat.zero_le _) (Nat.le_refl _), Row.mono h.st (Nat.zero_le _) (Nat.le_refl _), Row.mono h.se (Nat.zero_le _) (Nat.le_refl _), Row.mono h.ha (Nat.zero_le _) (Nat.le_refl _)⟩
set_option maxRecDepth 100000 in
set_option maxHeartbeats 8000000 in
theorem law_IsWorld (v0 v3 v4 v5 v6 v7 v8 v9 : Value) (W : Wrl) (w : World) (h : WrlAt w 0 w.heap.size v0 v3 v4 v5 v6 v7 v8 v9 W) (hz : WMx W) : Calls Tryz.prog 4 #[.agg #[v0, .int .i64 W.ch.fr, .int .i64 W.ch.to, v3, v4, v5, v6, v7, v8, v9]] w (RetX (.bool true) w) := by
  have H := Lib.hid h
  have Hz := Lib.hid hz
  clear h hz
  have HA0 := Lib.hid (Boxed.new w [v0, .int .i64 W.ch.fr, .int .i64 W.ch.to, v3, v4, v5, v6, v7, v8, v9] 57)
  go_enter Tryz.func4, Tryz.ntmps4
  go_wp2_with fail
  refine Calls.mono (laws_szWorld v0 v3 v4 v5 v6 v7 v8 v9 W 1048576 _ (by omega) (by omega) (H.out.up (by repeat (first | exact Ext.refl _ | assumption | refine Ext.alloc ?_ _ | refine Ext.drew ?_ | refine Ext.drewN ?_ _ | refine Ext.setCell ?_ (by first | (simp; done) | (simp; omega) | omega) _ | refine Ext.trans ?_ (by assumption)))) Hz.out) ?_
  rintro e w1 ⟨r1, rfl, hx1, hra1, hrb1, hrc1⟩
  have HA1 := Lib.hid (HA0.out.ext hx1)
  have hX1 : Ext w w1 := (by repeat (first | exact Ext.refl _ | assumption | refine Ext.alloc ?_ _ | refine Ext.drew ?_ | refine Ext.drewN ?_ _ | refine Ext.setCell ?_ (by first | (simp; done) | (simp; omega) | omega) _ | refine Ext.trans ?_ (by assumption)))
  have Hr0 := Lib.hid hrc1
  clear hrc1 hx1
  have a0 := HA1.out.cell 0 rfl
  have a1 := HA1.out.cell 1 rfl
  have a2 := HA1.out.cell 2 rfl
  have a3 := HA1.out.cell 3 rfl
  have a4 := HA1.out.cell 4 rfl
  have a5 := HA1.out.cell 5 rfl
  have a6 := HA1.out.cell 6 rfl
  have a7 := HA1.out.cell 7 rfl
  have a8 := HA1.out.cell 8 rfl
  have a9 := HA1.out.cell 9 rfl
  have ag := HA1.out.1
  by_cases hneg1 : r1 < 0
  case pos =>
    go_wp2_with fail
    go_ret
    exact ⟨rfl, (by repeat (first | exact Ext.refl _ | assumption | refine Ext.alloc ?_ _ | refine Ext.drew ?_ | refine Ext.drewN ?_ _ | refine Ext.setCell ?_ (by first | (simp; done) | (simp; omega) | omega) _ | refine Ext.trans ?_ (by assumption)))⟩
  have Hln := Lib.hid (Hr0.out (by omega)).1
  have Hsm := Lib.hid (Hr0.out (by omega)).2
  go_wp2_with fail
  refine Calls.mono (laws_toWorld v0 v3 v4 v5 v6 v7 v8 v9 W _ (H.out.up hX1) Hln.out) ?_
  rintro e w2 ⟨p0, p3, p4, p5, p6, p7, p8, p9, rfl, hx2, ho2⟩
  have t : ∃ A c, p0 = .slice A W.ch.rg.length c := Row.sl ho2.rg
  obtain ⟨Yp0, Cp0, rfl⟩ := t
  have t : ∃ A c, p3 = .slice A W.pp.ps.length c := Row.sl ho2.ps
  obtain ⟨Yp3, Cp3, rfl⟩ := t
  have t : ∃ A c, p4 = .slice A W.pp.tm.length c := Row.sl ho2.tm
  obtain ⟨Yp4, Cp4, rfl⟩ := t
  have t : ∃ A c, p5 = .slice A W.ld.pl.length c := Row.sl ho2.pl
  obtain ⟨Yp5, Cp5, rfl⟩ := t
  have t : ∃ A c, p6 = .slice A W.ld.wy.length c := Row.sl ho2.wy
  obtain ⟨Yp6, Cp6, rfl⟩ := t
  have t : ∃ A c, p7 = .slice A W.st.length c := Row.sl ho2.st
  obtain ⟨Yp7, Cp7, rfl⟩ := t
  have t : ∃ A c, p8 = .slice A W.se.length c := Row.sl ho2.se
  obtain ⟨Yp8, Cp8, rfl⟩ := t
  have t : ∃ A c, p9 = .slice A W.ha.length c := Row.sl ho2.ha
  obtain ⟨Yp9, Cp9, rfl⟩ := t
  have HA2 := Lib.hid (HA1.out.ext hx2)
  have hX2 : Ext w w2 := hX1.trans hx2
  have hp := ho2.low
  have Hp := Lib.hid hp
  clear hp ho2 hx2
  clear a0 a1 a2 a3 a4 a5 a6 a7 a8 a9 ag
  have a0 := HA2.out.cell 0 rfl
  have a1 := HA2.out.cell 1 rfl
  have a2 := HA2.out.cell 2 rfl
  have a3 := HA2.out.cell 3 rfl
  have a4 := HA2.out.cell 4 rfl
  have a5 := HA2.out.cell 5 rfl
  have a6 := HA2.out.cell 6 rfl
  have a7 := HA2.out.cell 7 rfl
  have a8 := HA2.out.cell 8 rfl
  have a9 := HA2.out.cell 9 rfl
  have ag := HA2.out.1
  go_wp2_with fail
  refine Calls.mono (spec_IsWorld (.slice Yp0 W.ch.rg.length Cp0) (.slice Yp3 W.pp.ps.length Cp3) (.slice Yp4 W.pp.tm.length Cp4) (.slice Yp5 W.ld.pl.length Cp5) (.slice Yp6 W.ld.wy.length Cp6) (.slice Yp7 W.st.length Cp7) (.slice Yp8 W.se.length Cp8) (.slice Yp9 W.ha.length Cp9) W _ (Hp.out.up (by repeat (first | exact Ext.refl _ | assumption | refine Ext.alloc ?_ _ | refine Ext.drew ?_ | refine Ext.drewN ?_ _ | refine Ext.setCell ?_ (by first | (simp; done) | (simp; omega) | omega) _ | refine Ext.trans ?_ (by assumption)))) Hsm.out) ?_
  rintro e w3 ⟨rfl, hx3⟩
  have HA3 := Lib.hid (HA2.out.ext hx3)
  have hX3 : Ext w w3 := hX2.trans hx3
  clear Hp hx3
  clear a0 a1 a2 a3 a4 a5 a6 a7 a8 a9 ag
  have a0 := HA3.out.cell 0 rfl
  have a1 := HA3.out.cell 1 rfl
  have a2 := HA3.out.cell 2 rfl
  have a3 := HA3.out.cell 3 rfl
  have a4 := HA3.out.cell 4 rfl
  have a5 := HA3.out.cell 5 rfl
  have a6 := HA3.out.cell 6 rfl
  have a7 := HA3.out.cell 7 rfl
  have a8 := HA3.out.cell 8 rfl
  have a9 := HA3.out.cell 9 rfl
  have ag := HA3.out.1
  go_wp2_with fail
  refine Calls.mono (laws_toWorld v0 v3 v4 v5 v6 v7 v8 v9 W _ (H.out.up hX3) Hln.out) ?_
  rintro e w4 ⟨q0, q3, q4, q5, q6, q7, q8, q9, rfl, hx4, ho4⟩
  have t : ∃ A c, q0 = .slice A W.ch.rg.length c := Row.sl ho4.rg
  obtain ⟨Yq0, Cq0, rfl⟩ := t
  have t : ∃ A c, q3 = .slice A W.pp.ps.length c := Row.sl ho4.ps
  obtain ⟨Yq3, Cq3, rfl⟩ := t
  have t : ∃ A c, q4 = .slice A W.pp.tm.length c := Row.sl ho4.tm
  obtain ⟨Yq4, Cq4, rfl⟩ := t
  have t : ∃ A c, q5 = .slice A W.ld.pl.length c := Row.sl ho4.pl
  obtain ⟨Yq5, Cq5, rfl⟩ := t
  have t : ∃ A c, q6 = .slice A W.ld.wy.length c := Row.sl ho4.wy
  obtain ⟨Yq6, Cq6, rfl⟩ := t
  have t : ∃ A c, q7 = .slice A W.st.length c := Row.sl ho4.st
  obtain ⟨Yq7, Cq7, rfl⟩ := t
  have t : ∃ A c, q8 = .slice A W.se.length c := Row.sl ho4.se
  obtain ⟨Yq8, Cq8, rfl⟩ := t
  have t : ∃ A c, q9 = .slice A W.ha.length c := Row.sl ho4.ha
  obtain ⟨Yq9, Cq9, rfl⟩ := t
  have HA4 := Lib.hid (HA3.out.ext hx4)
  have hX4 : Ext w w4 := hX3.trans hx4
  have hq := ho4.low
  have Hq := Lib.hid hq
  clear hq ho4 hx4
  clear a0 a1 a2 a3 a4 a5 a6 a7 a8 a9 ag
  have a0 := HA4.out.cell 0 rfl
  have a1 := HA4.out.cell 1 rfl
  have a2 := HA4.out.cell 2 rfl
  have a3 := HA4.out.cell 3 rfl
  have a4 := HA4.out.cell 4 rfl
  have a5 := HA4.out.cell 5 rfl
  have a6 := HA4.out.cell 6 rfl
  have a7 := HA4.out.cell 7 rfl
  have a8 := HA4.out.cell 8 rfl
  have a9 := HA4.out.cell 9 rfl
  have ag := HA4.out.1
  go_wp2_with fail
  have Hb := Lib.hid (Boxed.new w4 [.slice Yq0 W.ch.rg.length Cq0, .int .i64 W.ch.fr, .int .i64 W.ch.to, .slice Yq3 W.pp.ps.length Cq3, .slice Yq4 W.pp.tm.length Cq4, .slice Yq5 W.ld.pl.length Cq5, .slice Yq6 W.ld.wy.length Cq6, .slice Yq7 W.st.length Cq7, .slice Yq8 W.se.length Cq8, .slice Yq9 W.ha.length Cq9] 72)
  have hX5 : Ext w (w4.alloc (.cells #[.slice Yq0 W.ch.rg.length Cq0, .int .i64 W.ch.fr, .int .i64 W.ch.to, .slice Yq3 W.pp.ps.length Cq3, .slice Yq4 W.pp.tm.length Cq4, .slice Yq5 W.ld.pl.length Cq5, .slice Yq6 W.ld.wy.length Cq6, .slice Yq7 W.st.length Cq7, .slice Yq8 W.se.length Cq8, .slice Yq9 W.ha.length Cq9] 72)) := hX4.alloc _
  have HA5 := Lib.hid (HA4.out.ext ((Ext.refl _).alloc (.cells #[.slice Yq0 W.ch.rg.length Cq0, .int .i64 W.ch.fr, .int .i64 W.ch.to, .slice Yq3 W.pp.ps.length Cq3, .slice Yq4 W.pp.tm.length Cq4, .slice Yq5 W.ld.pl.length Cq5, .slice Yq6 W.ld.wy.length Cq6, .slice Yq7 W.st.length Cq7, .slice Yq8 W.se.length Cq8, .slice Yq9 W.ha.length Cq9] 72)))
  refine Calls.mono (impl_IsWorld (.slice Yq0 W.ch.rg.length Cq0) (.slice Yq3 W.pp.ps.length Cq3) (.slice Yq4 W.pp.tm.length Cq4) (.slice Yq5 W.ld.pl.length Cq5) (.slice Yq6 W.ld.wy.length Cq6) (.slice Yq7 W.st.length Cq7) (.slice Yq8 W.se.length Cq8) (.slice Yq9 W.ha.length Cq9) W _ (Hq.out.up (by repeat (first | exact Ext.refl _ | assumption | refine Ext.alloc ?_ _ | refine Ext.drew ?_ | refine Ext.drewN ?_ _ | refine Ext.setCell ?_ (by first | (simp; done) | (simp; omega) | omega) _ | refine Ext.trans ?_ (by assumption))))) ?_
  rintro e w6 ⟨rfl, hx6⟩
  have HA6 := Lib.hid (HA5.out.ext hx6)
  have HB6 := Lib.hid (Hb.out.ext hx6)
  have hX6 : Ext w w6 := hX5.trans hx6
  have hq6 := Hq.out.up (((Ext.refl w4).alloc _).trans hx6)
  have Hq6 := Lib.hid hq6
  clear hq6 hx6
  clear a0 a1 a2 a3 a4 a5 a6 a7 a8 a9 ag
  have a0 := HA6.out.cell 0 rfl
  have a1 := HA6.out.cell 1 rfl
  have a2 := HA6.out.cell 2 rfl
  have a3 := HA6.out.cell 3 rfl
  have a4 := HA6.out.cell 4 rfl
  have a5 := HA6.out.cell 5 rfl
  have a6 := HA6.out.cell 6 rfl
  have a7 := HA6.out.cell 7 rfl
  have a8 := HA6.out.cell 8 rfl
  have a9 := HA6.out.cell 9 rfl
  have ag := HA6.out.1
  have b0 := HB6.out.cell 0 rfl
  have b1 := HB6.out.cell 1 rfl
  have b2 := HB6.out.cell 2 rfl
  have b3 := HB6.out.cell 3 rfl
  have b4 := HB6.out.cell 4 rfl
  have b5 := HB6.out.cell 5 rfl
  have b6 := HB6.out.cell 6 rfl
  have b7 := HB6.out.cell 7 rfl
  have b8 := HB6.out.cell 8 rfl
  have b9 := HB6.out.cell 9 rfl
  have bg := HB6.out.1
  go_wp2_with fail
  go_region_held3 (fun w' => w'.cell? ⟨w.heap.size, 0, none⟩ = some (v0) ∧ w'.cell? ⟨w.heap.size, 1, none⟩ = some (.int .i64 W.ch.fr) ∧ w'.cell? ⟨w.heap.size, 2, none⟩ = some (.int .i64 W.ch.to) ∧ w'.cell? ⟨w.heap.size, 3, none⟩ = some (v3) ∧ w'.cell? ⟨w.heap.size, 4, none⟩ = some (v4) ∧ w'.cell? ⟨w.heap.size, 5, none⟩ = some (v5) ∧ w'.cell? ⟨w.heap.size, 6, none⟩ = some (v6) ∧ w'.cell? ⟨w.heap.size, 7, none⟩ = some (v7) ∧ w'.cell? ⟨w.heap.size, 8, none⟩ = some (v8) ∧ w'.cell? ⟨w.heap.size, 9, none⟩ = some (v9) ∧ w'.cell? ⟨w4.heap.size, 0, none⟩ = some (.slice Yq0 W.ch.rg.length Cq0) ∧ w'.cell? ⟨w4.heap.size, 1, none⟩ = some (.int .i64 W.ch.fr) ∧ w'.cell? ⟨w4.heap.size, 2, none⟩ = some (.int .i64 W.ch.to) ∧ w'.cell? ⟨w4.heap.size, 3, none⟩ = some (.slice Yq3 W.pp.ps.length Cq3) ∧ w'.cell? ⟨w4.heap.size, 4, none⟩ = some (.slice Yq4 W.pp.tm.length Cq4) ∧ w'.cell? ⟨w4.heap.size, 5, none⟩ = some (.slice Yq5 W.ld.pl.length Cq5) ∧ w'.cell? ⟨w4.heap.size, 6, none⟩ = some (.slice Yq6 W.ld.wy.length Cq6) ∧ w'.cell? ⟨w4.heap.size, 7, none⟩ = some (.slice Yq7 W.st.length Cq7) ∧ w'.cell? ⟨w4.heap.size, 8, none⟩ = some (.slice Yq8 W.se.length Cq8) ∧ w'.cell? ⟨w4.heap.size, 9, none⟩ = some (.slice Yq9 W.ha.length Cq9) ∧ Ext w6 w')
    (exact Ext.and_cell ag a0 (by repeat (first | exact Ext.refl _ | assumption | refine Ext.alloc ?_ _ | refine Ext.drew ?_ | refine Ext.drewN ?_ _ | refine Ext.setCell ?_ (by first | (simp; done) | (simp; omega) | omega) _ | refine Ext.trans ?_ (by assumption))) (Ext.and_cell ag a1 (by repeat (first | exact Ext.refl _ | assumption | refine Ext.alloc ?_ _ | refine Ext.drew ?_ | refine Ext.drewN ?_ _ | refine Ext.setCell ?_ (by first | (simp; done) | (simp; omega) | omega) _ | refine Ext.trans ?_ (by assumption))) (Ext.and_cell ag a2 (by repeat (first | exact Ext.refl _ | assumption | refine Ext.alloc ?_ _ | refine Ext.drew ?_ | refine Ext.drewN ?_ _ | refine Ext.setCell ?_ (by first | (simp; done) | (simp; omega) | omega) _ | refine Ext.trans ?_ (by assumption))) (Ext.and_cell ag a3 (by repeat (first | exact Ext.refl _ | assumption | refine Ext.alloc ?_ _ | refine Ext.drew ?_ | refine Ext.drewN ?_ _ | refine Ext.setCell ?_ (by first | (simp; done) | (simp; omega) | omega) _ | refine Ext.trans ?_ (by assumption))) (Ext.and_cell ag a4 (by repeat (first | exact Ext.refl _ | assumption | refine Ext.alloc ?_ _ | refine Ext.drew ?_ | refine Ext.drewN ?_ _ | refine Ext.setCell ?_ (by first | (simp; done) | (simp; omega) | omega) _ | refine Ext.trans ?_ (by assumption))) (Ext.and_cell ag a5 (by repeat (first | exact Ext.refl _ | assumption | refine Ext.alloc ?_ _ | refine Ext.drew ?_ | refine Ext.drewN ?_ _ | refine Ext.setCell ?_ (by first | (simp; done) | (simp; omega) | omega) _ | refine Ext.trans ?_ (by assumption))) (Ext.and_cell ag a6 (by repeat (first | exact Ext.refl _ | assumption | refine Ext.alloc ?_ _ | refine Ext.drew ?_ | refine Ext.drewN ?_ _ | refine Ext.setCell ?_ (by first | (simp; done) | (simp; omega) | omega) _ | refine Ext.trans ?_ (by assumption))) (Ext.and_cell ag a7 (by repeat (first | exact Ext.refl _ | assumption | refine Ext.alloc ?_ _ | refine Ext.drew ?_ | refine Ext.drewN ?_ _ | refine Ext.setCell ?_ (by first | (simp; done) | (simp; omega) | omega) _ | refine Ext.trans ?_ (by assumption))) (Ext.and_cell ag a8 (by repeat (first | exact Ext.refl _ | assumption | refine Ext.alloc ?_ _ | refine Ext.drew ?_ | refine Ext.drewN ?_ _ | refine Ext.setCell ?_ (by first | (simp; done) | (simp; omega) | omega) _ | refine Ext.trans ?_ (by assumption))) (Ext.and_cell ag a9 (by repeat (first | exact Ext.refl _ | assumption | refine Ext.alloc ?_ _ | refine Ext.drew ?_ | refine Ext.drewN ?_ _ | refine Ext.setCell ?_ (by first | (simp; done) | (simp; omega) | omega) _ | refine Ext.trans ?_ (by assumption))) (Ext.and_cell bg b0 (by repeat (first | exact Ext.refl _ | assumption | refine Ext.alloc ?_ _ | refine Ext.drew ?_ | refine Ext.drewN ?_ _ | refine Ext.setCell ?_ (by first | (simp; done) | (simp; omega) | omega) _ | refine Ext.trans ?_ (by assumption))) (Ext.and_cell bg b1 (by repeat (first | exact Ext.refl _ | assumption | refine Ext.alloc ?_ _ | refine Ext.drew ?_ | refine Ext.drewN ?_ _ | refine Ext.setCell ?_ (by first | (simp; done) | (simp; omega) | omega) _ | refine Ext.trans ?_ (by assumption))) (Ext.and_cell bg b2 (by repeat (first | exact Ext.refl _ | assumption | refine Ext.alloc ?_ _ | refine Ext.drew ?_ | refine Ext.drewN ?_ _ | refine Ext.setCell ?_ (by first | (simp; done) | (simp; omega) | omega) _ | refine Ext.trans ?_ (by assumption))) (Ext.and_cell bg b3 (by repeat (first | exact Ext.refl _ | assumption | refine Ext.alloc ?_ _ | refine Ext.drew ?_ | refine Ext.drewN ?_ _ | refine Ext.setCell ?_ (by first | (simp; done) | (simp; omega) | omega) _ | refine Ext.trans ?_ (by assumption))) (Ext.and_cell bg b4 (by repeat (first | exact Ext.refl _ | assumption | refine Ext.alloc ?_ _ | refine Ext.drew ?_ | refine Ext.drewN ?_ _ | refine Ext.setCell ?_ (by first | (simp; done) | (simp; omega) | omega) _ | refine Ext.trans ?_ (by assumption))) (Ext.and_cell bg b5 (by repeat (first | exact Ext.refl _ | assumption | refine Ext.alloc ?_ _ | refine Ext.drew ?_ | refine Ext.drewN ?_ _ | refine Ext.setCell ?_ (by first | (simp; done) | (simp; omega) | omega) _ | refine Ext.trans ?_ (by assumption))) (Ext.and_cell bg b6 (by repeat (first | exact Ext.refl _ | assumption | refine Ext.alloc ?_ _ | refine Ext.drew ?_ | refine Ext.drewN ?_ _ | refine Ext.setCell ?_ (by first | (simp; done) | (simp; omega) | omega) _ | refine Ext.trans ?_ (by assumption))) (Ext.and_cell bg b7 (by repeat (first | exact Ext.refl _ | assumption | refine Ext.alloc ?_ _ | refine Ext.drew ?_ | refine Ext.drewN ?_ _ | refine Ext.setCell ?_ (by first | (simp; done) | (simp; omega) | omega) _ | refine Ext.trans ?_ (by assumption))) (Ext.and_cell bg b8 (by repeat (first | exact Ext.refl _ | assumption | refine Ext.alloc ?_ _ | refine Ext.drew ?_ | refine Ext.drewN ?_ _ | refine Ext.setCell ?_ (by first | (simp; done) | (simp; omega) | omega) _ | refine Ext.trans ?_ (by assumption))) (Ext.and_cell bg b9 (by repeat (first | exact Ext.refl _ | assumption | refine Ext.alloc ?_ _ | refine Ext.drew ?_ | refine Ext.drewN ?_ _ | refine Ext.setCell ?_ (by first | (simp; done) | (simp; omega) | omega) _ | refine Ext.trans ?_ (by assumption))) (by repeat (first | exact Ext.refl _ | assumption | refine Ext.alloc ?_ _ | refine Ext.drew ?_ | refine Ext.drewN ?_ _ | refine Ext.setCell ?_ (by first | (simp; done) | (simp; omega) | omega) _ | refine Ext.trans ?_ (by assumption)))))))))))))))))))))))
    (first
      | (go_at_call 23; refine Calls.mono (laws_toWorld v0 v3 v4 v5 v6 v7 v8 v9 W _ (H.out.up (hX6.trans (by repeat (first | exact Ext.refl _ | assumption | refine Ext.alloc ?_ _ | refine Ext.drew ?_ | refine Ext.drewN ?_ _ | refine Ext.setCell ?_ (by first | (simp; done) | (simp; omega) | omega) _ | refine Ext.trans ?_ (by assumption))))) Hln.out) ?_; rintro e w7 ⟨s0, s3, s4, s5, s6, s7, s8, s9, rfl, hx7, ho7⟩)
      | (go_at_call 25; refine Calls.mono (laws_eqWorld (.slice Yq0 W.ch.rg.length Cq0) (.slice Yq3 W.pp.ps.length Cq3) (.slice Yq4 W.pp.tm.length Cq4) (.slice Yq5 W.ld.pl.length Cq5) (.slice Yq6 W.ld.wy.length Cq6) (.slice Yq7 W.st.length Cq7) (.slice Yq8 W.se.length Cq8) (.slice Yq9 W.ha.length Cq9) s0 s3 s4 s5 s6 s7 s8 s9 W _ (Hq6.out.up (by repeat (first | exact Ext.refl _ | assumption | refine Ext.alloc ?_ _ | refine Ext.drew ?_ | refine Ext.drewN ?_ _ | refine Ext.setCell ?_ (by first | (simp; done) | (simp; omega) | omega) _ | refine Ext.trans ?_ (by assumption)))) (ho7.low.up (by repeat (first | exact Ext.refl _ | assumption | refine Ext.alloc ?_ _ | refine Ext.drew ?_ | refine Ext.drewN ?_ _ | refine Ext.setCell ?_ (by first | (simp; done) | (simp; omega) | omega) _ | refine Ext.trans ?_ (by assumption))))) ?_; rintro e w8 ⟨rfl, hx8⟩))
  have hE : Ext w w8 := hX6.trans (by repeat (first | exact Ext.refl _ | assumption | refine Ext.alloc ?_ _ | refine Ext.drew ?_ | refine Ext.drewN ?_ _ | refine Ext.setCell ?_ (by first | (simp; done) | (simp; omega) | omega) _ | refine Ext.trans ?_ (by assumption)))
  clear a0 b0 a1 b1 a2 b2 a3 b3 a4 b4 a5 b5 a6 b6 a7 b7 a8 b8 a9 b9 ag bg
  go_wp2_with fail
  go_ret
  exact ⟨rfl, hE⟩
end Go.Proofs.YtbddkmlfjghllaaGreatDoor
