/- Contracts: IsWorld, the program's and the reference's. (Printed by genKn.py.) -/
import Derived.Test.YtmmokjnljaifcaaGreatDoorE1Kh
import Derived.Test.YtmmokjnljaifcaaGreatDoorE1Km
import Derived.Test.YtmmokjnljaifcaaGreatDoorE1Kc
import Derived.Test.YtmmokjnljaifcaaGreatDoorE1Kb
namespace Go.Proofs.YtmmokjnljaifcaaGreatDoor
set_option linter.unusedVariables false
set_option linter.unusedSimpArgs false
open Go.RowKit
attribute [local go_sem] cell_onto

/-- a world's parts, read within [lo, hi) -/
structure WrlAt (w : World) (lo hi : Nat) (vr vp vt vl vw vs vse vha : Value) (W : Wrl) : Prop where
  rg : Nsps w lo hi vr W.ch.rg
  ps : Nsps w lo hi vp W.pp.ps
  tm : Trms w lo hi vt W.pp.tm
  pl : Strs w lo hi vl W.ld.pl
  wy : Wys w lo hi vw W.ld.wy
  st : Wys w lo hi vs W.st
  se : Nsps w lo hi vse W.se
  ha : Nsps w lo hi vha W.ha
theorem WrlAt.up {w w' : World} {vr vp vt vl vw vs vse vha : Value} {W : Wrl} (h : WrlAt w 0 w.heap.size vr vp vt vl vw vs vse vha W) (hx : Ext w w') : WrlAt w' 0 w'.heap.size vr vp vt vl vw vs vse vha W :=
  ⟨h.rg.up hx, h.ps.up hx, h.tm.up hx, h.pl.up hx, h.wy.up hx, h.st.up hx, h.se.up hx, h.ha.up hx⟩
def WSm (W : Wrl) : Prop := NSm W.ch.rg ∧ NSm W.pp.ps ∧ (∀ i, i < W.pp.tm.length → (trmAt W.pp.tm i).of.size ≤ 1048576) ∧ (∀ i, i < W.ld.pl.length → (strAt W.ld.pl i).size ≤ 1048576) ∧ NSm W.se ∧ NSm W.ha
theorem Boxed.cell {w : World} {g : Nat} {cs : List Value} (h : Boxed w g cs) (i : Nat) {u : Value} (hu : cs[i]? = some u) : w.cell? ⟨g, i, none⟩ = some u := (h.2 i u hu).1
set_option maxRecDepth 100000 in
set_option maxHeartbeats 8000000 in
theorem impl_IsWorld (vr vp vt vl vw vs vse vha : Value) (W : Wrl) (w : World) (h : WrlAt w 0 w.heap.size vr vp vt vl vw vs vse vha W) : Calls Tryz.prog 23 #[.agg #[vr, .int .i64 W.ch.fr, .int .i64 W.ch.to, vp, vt, vl, vw, vs, vse, vha]] w (RetX (.bool (B (WrlOk W))) w) := by
  have H := Lib.hid h
  clear h
  obtain ⟨q1, e1⟩ : ∃ b, B (ChanOk W.ch) = b := ⟨_, rfl⟩
  have Hq1 := Lib.hid e1
  clear e1
  obtain ⟨q2, e2⟩ : ∃ b, B (PplOk W.pp) = b := ⟨_, rfl⟩
  have Hq2 := Lib.hid e2
  clear e2
  obtain ⟨q3, e3⟩ : ∃ b, B (ItiOk W.ld W.st) = b := ⟨_, rfl⟩
  have Hq3 := Lib.hid e3
  clear e3
  obtain ⟨q4, e4⟩ : ∃ b, B (MksOk W.se) = b := ⟨_, rfl⟩
  have Hq4 := Lib.hid e4
  clear e4
  obtain ⟨q5, e5⟩ : ∃ b, B (MksOk W.ha) = b := ⟨_, rfl⟩
  have Hq5 := Lib.hid e5
  clear e5
  have Hb := Lib.hid (Boxed.new w [vr, .int .i64 W.ch.fr, .int .i64 W.ch.to, vp, vt, vl, vw, vs, vse, vha] 38)
  go_enter Tryz.func23, Tryz.ntmps23
  go_wp2_with fail
  refine Calls.mono (impl_IsChancery vr W.ch _ (H.out.up (by repeat (first | exact Ext.refl _ | assumption | refine Ext.alloc ?_ _ | refine Ext.drew ?_ | refine Ext.drewN ?_ _ | refine Ext.setCell ?_ (by first | (simp; done) | (simp; omega) | omega) _ | refine Ext.trans ?_ (by assumption)))).rg) ?_
  rintro e w1 ⟨rfl, hx1⟩
  rw [Hq1.out]
  have HB1 := Lib.hid (Hb.out.ext hx1)
  have b0 := HB1.out.cell 0 rfl
  have b1 := HB1.out.cell 1 rfl
  have b2 := HB1.out.cell 2 rfl
  have b3 := HB1.out.cell 3 rfl
  have b4 := HB1.out.cell 4 rfl
  have b5 := HB1.out.cell 5 rfl
  have b6 := HB1.out.cell 6 rfl
  have b7 := HB1.out.cell 7 rfl
  have b8 := HB1.out.cell 8 rfl
  have b9 := HB1.out.cell 9 rfl
  have bg := HB1.out.1
  cases q1 with
  | false =>
    go_wp2_with fail
    go_ret
    exact ⟨ret_bool (B_false (fun h => absurd (h.1) (B_not.1 Hq1.out))).symm, (by repeat (first | exact Ext.refl _ | assumption | refine Ext.alloc ?_ _ | refine Ext.drew ?_ | refine Ext.drewN ?_ _ | refine Ext.setCell ?_ (by first | (simp; done) | (simp; omega) | omega) _ | refine Ext.trans ?_ (by assumption)))⟩
  | true =>
    go_wp2_with fail
    refine Calls.mono (impl_IsPeople vp vt W.pp _ (H.out.up (by repeat (first | exact Ext.refl _ | assumption | refine Ext.alloc ?_ _ | refine Ext.drew ?_ | refine Ext.drewN ?_ _ | refine Ext.setCell ?_ (by first | (simp; done) | (simp; omega) | omega) _ | refine Ext.trans ?_ (by assumption)))).ps (H.out.up (by repeat (first | exact Ext.refl _ | assumption | refine Ext.alloc ?_ _ | refine Ext.drew ?_ | refine Ext.drewN ?_ _ | refine Ext.setCell ?_ (by first | (simp; done) | (simp; omega) | omega) _ | refine Ext.trans ?_ (by assumption)))).tm) ?_
    rintro e w2 ⟨rfl, hx2⟩
    rw [Hq2.out]
    clear b0 b1 b2 b3 b4 b5 b6 b7 b8 b9 bg
    have HB2 := Lib.hid (HB1.out.ext hx2)
    have b0 := HB2.out.cell 0 rfl
    have b1 := HB2.out.cell 1 rfl
    have b2 := HB2.out.cell 2 rfl
    have b3 := HB2.out.cell 3 rfl
    have b4 := HB2.out.cell 4 rfl
    have b5 := HB2.out.cell 5 rfl
    have b6 := HB2.out.cell 6 rfl
    have b7 := HB2.out.cell 7 rfl
    have b8 := HB2.out.cell 8 rfl
    have b9 := HB2.out.cell 9 rfl
    have bg := HB2.out.1
    cases q2 with
    | false =>
      go_wp2_with fail
      go_ret
      exact ⟨ret_bool (B_false (fun h => absurd (h.2.1) (B_not.1 Hq2.out))).symm, (by repeat (first | exact Ext.refl _ | assumption | refine Ext.alloc ?_ _ | refine Ext.drew ?_ | refine Ext.drewN ?_ _ | refine Ext.setCell ?_ (by first | (simp; done) | (simp; omega) | omega) _ | refine Ext.trans ?_ (by assumption)))⟩
    | true =>
      go_wp2_with fail
      refine Calls.mono (impl_IsItinerary vl vw vs W.ld W.st _ (H.out.up (by repeat (first | exact Ext.refl _ | assumption | refine Ext.alloc ?_ _ | refine Ext.drew ?_ | refine Ext.drewN ?_ _ | refine Ext.setCell ?_ (by first | (simp; done) | (simp; omega) | omega) _ | refine Ext.trans ?_ (by assumption)))).pl (H.out.up (by repeat (first | exact Ext.refl _ | assumption | refine Ext.alloc ?_ _ | refine Ext.drew ?_ | refine Ext.drewN ?_ _ | refine Ext.setCell ?_ (by first | (simp; done) | (simp; omega) | omega) _ | refine Ext.trans ?_ (by assumption)))).wy (H.out.up (by repeat (first | exact Ext.refl _ | assumption | refine Ext.alloc ?_ _ | refine Ext.drew ?_ | refine Ext.drewN ?_ _ | refine Ext.setCell ?_ (by first | (simp; done) | (simp; omega) | omega) _ | refine Ext.trans ?_ (by assumption)))).st) ?_
      rintro e w3 ⟨rfl, hx3⟩
      rw [Hq3.out]
      clear b0 b1 b2 b3 b4 b5 b6 b7 b8 b9 bg
      have HB3 := Lib.hid (HB2.out.ext hx3)
      have b0 := HB3.out.cell 0 rfl
      have b1 := HB3.out.cell 1 rfl
      have b2 := HB3.out.cell 2 rfl
      have b3 := HB3.out.cell 3 rfl
      have b4 := HB3.out.cell 4 rfl
      have b5 := HB3.out.cell 5 rfl
      have b6 := HB3.out.cell 6 rfl
      have b7 := HB3.out.cell 7 rfl
      have b8 := HB3.out.cell 8 rfl
      have b9 := HB3.out.cell 9 rfl
      have bg := HB3.out.1
      cases q3 with
      | false =>
        go_wp2_with fail
        go_ret
        exact ⟨ret_bool (B_false (fun h => absurd (h.2.2.1) (B_not.1 Hq3.out))).symm, (by repeat (first | exact Ext.refl _ | assumption | refine Ext.alloc ?_ _ | refine Ext.drew ?_ | refine Ext.drewN ?_ _ | refine Ext.setCell ?_ (by first | (simp; done) | (simp; omega) | omega) _ | refine Ext.trans ?_ (by assumption)))⟩
      | true =>
        go_wp2_with fail
        refine Calls.mono (impl_AreMarks vse W.se _ (H.out.up (by repeat (first | exact Ext.refl _ | assumption | refine Ext.alloc ?_ _ | refine Ext.drew ?_ | refine Ext.drewN ?_ _ | refine Ext.setCell ?_ (by first | (simp; done) | (simp; omega) | omega) _ | refine Ext.trans ?_ (by assumption)))).se) ?_
        rintro e w4 ⟨rfl, hx4⟩
        rw [Hq4.out]
        clear b0 b1 b2 b3 b4 b5 b6 b7 b8 b9 bg
        have HB4 := Lib.hid (HB3.out.ext hx4)
        have b0 := HB4.out.cell 0 rfl
        have b1 := HB4.out.cell 1 rfl
        have b2 := HB4.out.cell 2 rfl
        have b3 := HB4.out.cell 3 rfl
        have b4 := HB4.out.cell 4 rfl
        have b5 := HB4.out.cell 5 rfl
        have b6 := HB4.out.cell 6 rfl
        have b7 := HB4.out.cell 7 rfl
        have b8 := HB4.out.cell 8 rfl
        have b9 := HB4.out.cell 9 rfl
        have bg := HB4.out.1
        cases q4 with
        | false =>
          go_wp2_with fail
          go_ret
          exact ⟨ret_bool (B_false (fun h => absurd (h.2.2.2.1) (B_not.1 Hq4.out))).symm, (by repeat (first | exact Ext.refl _ | assumption | refine Ext.alloc ?_ _ | refine Ext.drew ?_ | refine Ext.drewN ?_ _ | refine Ext.setCell ?_ (by first | (simp; done) | (simp; omega) | omega) _ | refine Ext.trans ?_ (by assumption)))⟩
        | true =>
          go_wp2_with fail
          refine Calls.mono (impl_AreMarks vha W.ha _ (H.out.up (by repeat (first | exact Ext.refl _ | assumption | refine Ext.alloc ?_ _ | refine Ext.drew ?_ | refine Ext.drewN ?_ _ | refine Ext.setCell ?_ (by first | (simp; done) | (simp; omega) | omega) _ | refine Ext.trans ?_ (by assumption)))).ha) ?_
          rintro e w5 ⟨rfl, hx5⟩
          rw [Hq5.out]
          clear b0 b1 b2 b3 b4 b5 b6 b7 b8 b9 bg
          have HB5 := Lib.hid (HB4.out.ext hx5)
          have b0 := HB5.out.cell 0 rfl
          have b1 := HB5.out.cell 1 rfl
          have b2 := HB5.out.cell 2 rfl
          have b3 := HB5.out.cell 3 rfl
          have b4 := HB5.out.cell 4 rfl
          have b5 := HB5.out.cell 5 rfl
          have b6 := HB5.out.cell 6 rfl
          have b7 := HB5.out.cell 7 rfl
          have b8 := HB5.out.cell 8 rfl
          have b9 := HB5.out.cell 9 rfl
          have bg := HB5.out.1
          cases q5 with
          | false =>
            go_wp2_with fail
            go_ret
            exact ⟨ret_bool (B_false (fun h => absurd (h.2.2.2.2) (B_not.1 Hq5.out))).symm, (by repeat (first | exact Ext.refl _ | assumption | refine Ext.alloc ?_ _ | refine Ext.drew ?_ | refine Ext.drewN ?_ _ | refine Ext.setCell ?_ (by first | (simp; done) | (simp; omega) | omega) _ | refine Ext.trans ?_ (by assumption)))⟩
          | true =>
            go_wp2_with fail
            go_ret
            exact ⟨ret_bool (B_true ⟨B_iff.1 Hq1.out, B_iff.1 Hq2.out, B_iff.1 Hq3.out, B_iff.1 Hq4.out, B_iff.1 Hq5.out⟩).symm, (by repeat (first | exact Ext.refl _ | assumption | refine Ext.alloc ?_ _ | refine Ext.drew ?_ | refine Ext.drewN ?_ _ | refine Ext.setCell ?_ (by first | (simp; done) | (simp; omega) | omega) _ | refine Ext.trans ?_ (by assumption)))⟩
set_option maxRecDepth 100000 in
set_option maxHeartbeats 8000000 in
theorem spec_IsWorld (vr vp vt vl vw vs vse vha : Value) (W : Wrl) (w : World) (h : WrlAt w 0 w.heap.size vr vp vt vl vw vs vse vha W) (hsm : WSm W) : Calls Tryz.prog 24 #[.agg #[vr, .int .i64 W.ch.fr, .int .i64 W.ch.to, vp, vt, vl, vw, vs, vse, vha]] w (RetX (.bool (B (WrlOk W))) w) := by
  have H := Lib.hid h
  clear h
  have Hsm := Lib.hid hsm
  clear hsm
  obtain ⟨q1, e1⟩ : ∃ b, B (ChanOk W.ch) = b := ⟨_, rfl⟩
  have Hq1 := Lib.hid e1
  clear e1
  obtain ⟨q2, e2⟩ : ∃ b, B (PplOk W.pp) = b := ⟨_, rfl⟩
  have Hq2 := Lib.hid e2
  clear e2
  obtain ⟨q3, e3⟩ : ∃ b, B (ItiOk W.ld W.st) = b := ⟨_, rfl⟩
  have Hq3 := Lib.hid e3
  clear e3
  obtain ⟨q4, e4⟩ : ∃ b, B (MksOk W.se) = b := ⟨_, rfl⟩
  have Hq4 := Lib.hid e4
  clear e4
  obtain ⟨q5, e5⟩ : ∃ b, B (MksOk W.ha) = b := ⟨_, rfl⟩
  have Hq5 := Lib.hid e5
  clear e5
  have Hb := Lib.hid (Boxed.new w [vr, .int .i64 W.ch.fr, .int .i64 W.ch.to, vp, vt, vl, vw, vs, vse, vha] 38)
  go_enter Tryz.func24, Tryz.ntmps24
  go_wp2_with fail
  refine Calls.mono (spec_IsChancery vr W.ch _ (H.out.up (by repeat (first | exact Ext.refl _ | assumption | refine Ext.alloc ?_ _ | refine Ext.drew ?_ | refine Ext.drewN ?_ _ | refine Ext.setCell ?_ (by first | (simp; done) | (simp; omega) | omega) _ | refine Ext.trans ?_ (by assumption)))).rg Hsm.out.1) ?_
  rintro e w1 ⟨rfl, hx1⟩
  rw [Hq1.out]
  have HB1 := Lib.hid (Hb.out.ext hx1)
  have b0 := HB1.out.cell 0 rfl
  have b1 := HB1.out.cell 1 rfl
  have b2 := HB1.out.cell 2 rfl
  have b3 := HB1.out.cell 3 rfl
  have b4 := HB1.out.cell 4 rfl
  have b5 := HB1.out.cell 5 rfl
  have b6 := HB1.out.cell 6 rfl
  have b7 := HB1.out.cell 7 rfl
  have b8 := HB1.out.cell 8 rfl
  have b9 := HB1.out.cell 9 rfl
  have bg := HB1.out.1
  cases q1 with
  | false =>
    go_wp2_with fail
    go_ret
    exact ⟨ret_bool (B_false (fun h => absurd (h.1) (B_not.1 Hq1.out))).symm, (by repeat (first | exact Ext.refl _ | assumption | refine Ext.alloc ?_ _ | refine Ext.drew ?_ | refine Ext.drewN ?_ _ | refine Ext.setCell ?_ (by first | (simp; done) | (simp; omega) | omega) _ | refine Ext.trans ?_ (by assumption)))⟩
  | true =>
    go_wp2_with fail
    refine Calls.mono (spec_IsPeople vp vt W.pp _ (H.out.up (by repeat (first | exact Ext.refl _ | assumption | refine Ext.alloc ?_ _ | refine Ext.drew ?_ | refine Ext.drewN ?_ _ | refine Ext.setCell ?_ (by first | (simp; done) | (simp; omega) | omega) _ | refine Ext.trans ?_ (by assumption)))).ps (H.out.up (by repeat (first | exact Ext.refl _ | assumption | refine Ext.alloc ?_ _ | refine Ext.drew ?_ | refine Ext.drewN ?_ _ | refine Ext.setCell ?_ (by first | (simp; done) | (simp; omega) | omega) _ | refine Ext.trans ?_ (by assumption)))).tm Hsm.out.2.1 Hsm.out.2.2.1) ?_
    rintro e w2 ⟨rfl, hx2⟩
    rw [Hq2.out]
    clear b0 b1 b2 b3 b4 b5 b6 b7 b8 b9 bg
    have HB2 := Lib.hid (HB1.out.ext hx2)
    have b0 := HB2.out.cell 0 rfl
    have b1 := HB2.out.cell 1 rfl
    have b2 := HB2.out.cell 2 rfl
    have b3 := HB2.out.cell 3 rfl
    have b4 := HB2.out.cell 4 rfl
    have b5 := HB2.out.cell 5 rfl
    have b6 := HB2.out.cell 6 rfl
    have b7 := HB2.out.cell 7 rfl
    have b8 := HB2.out.cell 8 rfl
    have b9 := HB2.out.cell 9 rfl
    have bg := HB2.out.1
    cases q2 with
    | false =>
      go_wp2_with fail
      go_ret
      exact ⟨ret_bool (B_false (fun h => absurd (h.2.1) (B_not.1 Hq2.out))).symm, (by repeat (first | exact Ext.refl _ | assumption | refine Ext.alloc ?_ _ | refine Ext.drew ?_ | refine Ext.drewN ?_ _ | refine Ext.setCell ?_ (by first | (simp; done) | (simp; omega) | omega) _ | refine Ext.trans ?_ (by assumption)))⟩
    | true =>
      go_wp2_with fail
      refine Calls.mono (spec_IsItinerary vl vw vs W.ld W.st _ (H.out.up (by repeat (first | exact Ext.refl _ | assumption | refine Ext.alloc ?_ _ | refine Ext.drew ?_ | refine Ext.drewN ?_ _ | refine Ext.setCell ?_ (by first | (simp; done) | (simp; omega) | omega) _ | refine Ext.trans ?_ (by assumption)))).pl (H.out.up (by repeat (first | exact Ext.refl _ | assumption | refine Ext.alloc ?_ _ | refine Ext.drew ?_ | refine Ext.drewN ?_ _ | refine Ext.setCell ?_ (by first | (simp; done) | (simp; omega) | omega) _ | refine Ext.trans ?_ (by assumption)))).wy (H.out.up (by repeat (first | exact Ext.refl _ | assumption | refine Ext.alloc ?_ _ | refine Ext.drew ?_ | refine Ext.drewN ?_ _ | refine Ext.setCell ?_ (by first | (simp; done) | (simp; omega) | omega) _ | refine Ext.trans ?_ (by assumption)))).st Hsm.out.2.2.2.1) ?_
      rintro e w3 ⟨rfl, hx3⟩
      rw [Hq3.out]
      clear b0 b1 b2 b3 b4 b5 b6 b7 b8 b9 bg
      have HB3 := Lib.hid (HB2.out.ext hx3)
      have b0 := HB3.out.cell 0 rfl
      have b1 := HB3.out.cell 1 rfl
      have b2 := HB3.out.cell 2 rfl
      have b3 := HB3.out.cell 3 rfl
      have b4 := HB3.out.cell 4 rfl
      have b5 := HB3.out.cell 5 rfl
      have b6 := HB3.out.cell 6 rfl
      have b7 := HB3.out.cell 7 rfl
      have b8 := HB3.out.cell 8 rfl
      have b9 := HB3.out.cell 9 rfl
      have bg := HB3.out.1
      cases q3 with
      | false =>
        go_wp2_with fail
        go_ret
        exact ⟨ret_bool (B_false (fun h => absurd (h.2.2.1) (B_not.1 Hq3.out))).symm, (by repeat (first | exact Ext.refl _ | assumption | refine Ext.alloc ?_ _ | refine Ext.drew ?_ | refine Ext.drewN ?_ _ | refine Ext.setCell ?_ (by first | (simp; done) | (simp; omega) | omega) _ | refine Ext.trans ?_ (by assumption)))⟩
      | true =>
        go_wp2_with fail
        refine Calls.mono (spec_AreMarks vse W.se _ (H.out.up (by repeat (first | exact Ext.refl _ | assumption | refine Ext.alloc ?_ _ | refine Ext.drew ?_ | refine Ext.drewN ?_ _ | refine Ext.setCell ?_ (by first | (simp; done) | (simp; omega) | omega) _ | refine Ext.trans ?_ (by assumption)))).se Hsm.out.2.2.2.2.1) ?_
        rintro e w4 ⟨rfl, hx4⟩
        rw [Hq4.out]
        clear b0 b1 b2 b3 b4 b5 b6 b7 b8 b9 bg
        have HB4 := Lib.hid (HB3.out.ext hx4)
        have b0 := HB4.out.cell 0 rfl
        have b1 := HB4.out.cell 1 rfl
        have b2 := HB4.out.cell 2 rfl
        have b3 := HB4.out.cell 3 rfl
        have b4 := HB4.out.cell 4 rfl
        have b5 := HB4.out.cell 5 rfl
        have b6 := HB4.out.cell 6 rfl
        have b7 := HB4.out.cell 7 rfl
        have b8 := HB4.out.cell 8 rfl
        have b9 := HB4.out.cell 9 rfl
        have bg := HB4.out.1
        cases q4 with
        | false =>
          go_wp2_with fail
          go_ret
          exact ⟨ret_bool (B_false (fun h => absurd (h.2.2.2.1) (B_not.1 Hq4.out))).symm, (by repeat (first | exact Ext.refl _ | assumption | refine Ext.alloc ?_ _ | refine Ext.drew ?_ | refine Ext.drewN ?_ _ | refine Ext.setCell ?_ (by first | (simp; done) | (simp; omega) | omega) _ | refine Ext.trans ?_ (by assumption)))⟩
        | true =>
          go_wp2_with fail
          refine Calls.mono (spec_AreMarks vha W.ha _ (H.out.up (by repeat (first | exact Ext.refl _ | assumption | refine Ext.alloc ?_ _ | refine Ext.drew ?_ | refine Ext.drewN ?_ _ | refine Ext.setCell ?_ (by first | (simp; done) | (simp; omega) | omega) _ | refine Ext.trans ?_ (by assumption)))).ha Hsm.out.2.2.2.2.2) ?_
          rintro e w5 ⟨rfl, hx5⟩
          rw [Hq5.out]
          clear b0 b1 b2 b3 b4 b5 b6 b7 b8 b9 bg
          have HB5 := Lib.hid (HB4.out.ext hx5)
          have b0 := HB5.out.cell 0 rfl
          have b1 := HB5.out.cell 1 rfl
          have b2 := HB5.out.cell 2 rfl
          have b3 := HB5.out.cell 3 rfl
          have b4 := HB5.out.cell 4 rfl
          have b5 := HB5.out.cell 5 rfl
          have b6 := HB5.out.cell 6 rfl
          have b7 := HB5.out.cell 7 rfl
          have b8 := HB5.out.cell 8 rfl
          have b9 := HB5.out.cell 9 rfl
          have bg := HB5.out.1
          cases q5 with
          | false =>
            go_wp2_with fail
            go_ret
            exact ⟨ret_bool (B_false (fun h => absurd (h.2.2.2.2) (B_not.1 Hq5.out))).symm, (by repeat (first | exact Ext.refl _ | assumption | refine Ext.alloc ?_ _ | refine Ext.drew ?_ | refine Ext.drewN ?_ _ | refine Ext.setCell ?_ (by first | (simp; done) | (simp; omega) | omega) _ | refine Ext.trans ?_ (by assumption)))⟩
          | true =>
            go_wp2_with fail
            go_ret
            exact ⟨ret_bool (B_true ⟨B_iff.1 Hq1.out, B_iff.1 Hq2.out, B_iff.1 Hq3.out, B_iff.1 Hq4.out, B_iff.1 Hq5.out⟩).symm, (by repeat (first | exact Ext.refl _ | assumption | refine Ext.alloc ?_ _ | refine Ext.drew ?_ | refine Ext.drewN ?_ _ | refine Ext.setCell ?_ (by first | (simp; done) | (simp; omega) | omega) _ | refine Ext.trans ?_ (by assumption)))⟩
end Go.Proofs.YtmmokjnljaifcaaGreatDoor
