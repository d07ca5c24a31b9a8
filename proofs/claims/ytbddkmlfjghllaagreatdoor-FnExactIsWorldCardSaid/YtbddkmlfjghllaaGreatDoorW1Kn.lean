/- Texts merged (a claim holds at most sixty files): Kn, Ko, Kp, Kq. -/
import Derived.Test.YtbddkmlfjghllaaGreatDoorW1Kh
import Derived.Test.YtbddkmlfjghllaaGreatDoorW1Kk
import Derived.Test.YtbddkmlfjghllaaGreatDoorW1Kf
import Derived.Test.YtbddkmlfjghllaaGreatDoorW1Jh
/- Contracts: IsWorld, the program's and the reference's. (Printed by genKn.py.) -/
namespace Go.Proofs.YtbddkmlfjghllaaGreatDoor
set_option linter.unusedVariables false
set_option linter.unusedSimpArgs false
open Go.RowKit
attribute [local go_sem] cell_onto

/-- a world's parts, read within [lo, hi) -/
structure WrlAt (w : World) (lo hi : Nat) (vr vp vt vl vw vs vse vha : Value) (W : Wrl) : Prop where
  rg : Nsps w lo hi vr W.ch.rg
  ps : Nsps w lo hi vp W.pp.ps
  tm : Trms w lo hi vt W.pp.tm
  pl : Strs w lo hi vl W.ld.pl
  wy : Wys w lo hi vw W.ld.wy
  st : Wys w lo hi vs W.st
  se : Nsps w lo hi vse W.se
  ha : Nsps w lo hi vha W.ha
theorem WrlAt.up {w w' : World} {vr vp vt vl vw vs vse vha : Value} {W : Wrl} (h : WrlAt w 0 w.heap.size vr vp vt vl vw vs vse vha W) (hx : Ext w w') : WrlAt w' 0 w'.heap.size vr vp vt vl vw vs vse vha W :=
  ⟨h.rg.up hx, h.ps.up hx, h.tm.up hx, h.pl.up hx, h.wy.up hx, h.st.up hx, h.se.up hx, h.ha.up hx⟩
def WSm (W : Wrl) : Prop := NSm W.ch.rg ∧ NSm W.pp.ps ∧ (∀ i, i < W.pp.tm.length → (trmAt W.pp.tm i).of.size ≤ 1048576) ∧ (∀ i, i < W.ld.pl.length → (strAt W.ld.pl i).size ≤ 1048576) ∧ NSm W.se ∧ NSm W.ha
theorem Boxed.cell {w : World} {g : Nat} {cs : List Value} (h : Boxed w g cs) (i : Nat) {u : Value} (hu : cs[i]? = some u) : w.cell? ⟨g, i, none⟩ = some u := (h.2 i u hu).1
set_option maxRecDepth 100000 in
set_option maxHeartbeats 8000000 in
theorem impl_IsWorld (vr vp vt vl vw vs vse vha : Value) (W : Wrl) (w : World) (h : WrlAt w 0 w.heap.size vr vp vt vl vw vs vse vha W) : Calls Tryz.prog 24 #[.agg #[vr, .int .i64 W.ch.fr, .int .i64 W.ch.to, vp, vt, vl, vw, vs, vse, vha]] w (RetX (.bool (B (WrlOk W))) w) := by
  have H := Lib.hid h
  clear h
  obtain ⟨q1, e1⟩ : ∃ b, B (ChanOk W.ch) = b := ⟨_, rfl⟩
  have Hq1 := Lib.hid e1
  clear e1
  obtain ⟨q2, e2⟩ : ∃ b, B (PplOk W.pp) = b := ⟨_, rfl⟩
  have Hq2 := Lib.hid e2
  clear e2
  obtain ⟨q3, e3⟩ : ∃ b, B (ItiOk W.ld W.st) = b := ⟨_, rfl⟩
  have Hq3 := Lib.hid e3
  clear e3
  obtain ⟨q4, e4⟩ : ∃ b, B (MksOk W.se) = b := ⟨_, rfl⟩
  have Hq4 := Lib.hid e4
  clear e4
  obtain ⟨q5, e5⟩ : ∃ b, B (MksOk W.ha) = b := ⟨_, rfl⟩
  have Hq5 := Lib.hid e5
  clear e5
  have Hb := Lib.hid (Boxed.new w [vr, .int .i64 W.ch.fr, .int .i64 W.ch.to, vp, vt, vl, vw, vs, vse, vha] 72)
  go_enter Tryz.func24, Tryz.ntmps24
  go_wp2_with fail
  refine Calls.mono (impl_IsChancery vr W.ch _ (H.out.up (by repeat (first | exact Ext.refl _ | assumption | refine Ext.alloc ?_ _ | refine Ext.drew ?_ | refine Ext.drewN ?_ _ | refine Ext.setCell ?_ (by first | (simp; done) | (simp; omega) | omega) _ | refine Ext.trans ?_ (by assumption)))).rg) ?_
  rintro e w1 ⟨rfl, hx1⟩
  rw [Hq1.out]
  have HB1 := Lib.hid (Hb.out.ext hx1)
  have b0 := HB1.out.cell 0 rfl
  have b1 := HB1.out.cell 1 rfl
  have b2 := HB1.out.cell 2 rfl
  have b3 := HB1.out.cell 3 rfl
  have b4 := HB1.out.cell 4 rfl
  have b5 := HB1.out.cell 5 rfl
  have b6 := HB1.out.cell 6 rfl
  have b7 := HB1.out.cell 7 rfl
  have b8 := HB1.out.cell 8 rfl
  have b9 := HB1.out.cell 9 rfl
  have bg := HB1.out.1
  cases q1 with
  | false =>
    go_wp2_with fail
    go_ret
    exact ⟨ret_bool (B_false (fun h => absurd (h.1) (B_not.1 Hq1.out))).symm, (by repeat (first | exact Ext.refl _ | assumption | refine Ext.alloc ?_ _ | refine Ext.drew ?_ | refine Ext.drewN ?_ _ | refine Ext.setCell ?_ (by first | (simp; done) | (simp; omega) | omega) _ | refine Ext.trans ?_ (by assumption)))⟩
  | true =>
    go_wp2_with fail
    refine Calls.mono (impl_IsPeople vp vt W.pp _ (H.out.up (by repeat (first | exact Ext.refl _ | assumption | refine Ext.alloc ?_ _ | refine Ext.drew ?_ | refine Ext.drewN ?_ _ | refine Ext.setCell ?_ (by first | (simp; done) | (simp; omega) | omega) _ | refine Ext.trans ?_ (by assumption)))).ps (H.out.up (by repeat (first | exact Ext.refl _ | assumption | refine Ext.alloc ?_ _ | refine Ext.drew ?_ | refine Ext.drewN ?_ _ | refine Ext.setCell ?_ (by first | (simp; done) | (simp; omega) | omega) _ | refine Ext.trans ?_ (by assumption)))).tm) ?_
    rintro e w2 ⟨rfl, hx2⟩
    rw [Hq2.out]
    clear b0 b1 b2 b3 b4 b5 b6 b7 b8 b9 bg
    have HB2 := Lib.hid (HB1.out.ext hx2)
    have b0 := HB2.out.cell 0 rfl
    have b1 := HB2.out.cell 1 rfl
    have b2 := HB2.out.cell 2 rfl
    have b3 := HB2.out.cell 3 rfl
    have b4 := HB2.out.cell 4 rfl
    have b5 := HB2.out.cell 5 rfl
    have b6 := HB2.out.cell 6 rfl
    have b7 := HB2.out.cell 7 rfl
    have b8 := HB2.out.cell 8 rfl
    have b9 := HB2.out.cell 9 rfl
    have bg := HB2.out.1
    cases q2 with
    | false =>
      go_wp2_with fail
      go_ret
      exact ⟨ret_bool (B_false (fun h => absurd (h.2.1) (B_not.1 Hq2.out))).symm, (by repeat (first | exact Ext.refl _ | assumption | refine Ext.alloc ?_ _ | refine Ext.drew ?_ | refine Ext.drewN ?_ _ | refine Ext.setCell ?_ (by first | (simp; done) | (simp; omega) | omega) _ | refine Ext.trans ?_ (by assumption)))⟩
    | true =>
      go_wp2_with fail
      refine Calls.mono (impl_IsItinerary vl vw vs W.ld W.st _ (H.out.up (by repeat (first | exact Ext.refl _ | assumption | refine Ext.alloc ?_ _ | refine Ext.drew ?_ | refine Ext.drewN ?_ _ | refine Ext.setCell ?_ (by first | (simp; done) | (simp; omega) | omega) _ | refine Ext.trans ?_ (by assumption)))).pl (H.out.up (by repeat (first | exact Ext.refl _ | assumption | refine Ext.alloc ?_ _ | refine Ext.drew ?_ | refine Ext.drewN ?_ _ | refine Ext.setCell ?_ (by first | (simp; done) | (simp; omega) | omega) _ | refine Ext.trans ?_ (by assumption)))).wy (H.out.up (by repeat (first | exact Ext.refl _ | assumption | refine Ext.alloc ?_ _ | refine Ext.drew ?_ | refine Ext.drewN ?_ _ | refine Ext.setCell ?_ (by first | (simp; done) | (simp; omega) | omega) _ | refine Ext.trans ?_ (by assumption)))).st) ?_
      rintro e w3 ⟨rfl, hx3⟩
      rw [Hq3.out]
      clear b0 b1 b2 b3 b4 b5 b6 b7 b8 b9 bg
      have HB3 := Lib.hid (HB2.out.ext hx3)
      have b0 := HB3.out.cell 0 rfl
      have b1 := HB3.out.cell 1 rfl
      have b2 := HB3.out.cell 2 rfl
      have b3 := HB3.out.cell 3 rfl
      have b4 := HB3.out.cell 4 rfl
      have b5 := HB3.out.cell 5 rfl
      have b6 := HB3.out.cell 6 rfl
      have b7 := HB3.out.cell 7 rfl
      have b8 := HB3.out.cell 8 rfl
      have b9 := HB3.out.cell 9 rfl
      have bg := HB3.out.1
      cases q3 with
      | false =>
        go_wp2_with fail
        go_ret
        exact ⟨ret_bool (B_false (fun h => absurd (h.2.2.1) (B_not.1 Hq3.out))).symm, (by repeat (first | exact Ext.refl _ | assumption | refine Ext.alloc ?_ _ | refine Ext.drew ?_ | refine Ext.drewN ?_ _ | refine Ext.setCell ?_ (by first | (simp; done) | (simp; omega) | omega) _ | refine Ext.trans ?_ (by assumption)))⟩
      | true =>
        go_wp2_with fail
        refine Calls.mono (impl_AreMarks vse W.se _ (H.out.up (by repeat (first | exact Ext.refl _ | assumption | refine Ext.alloc ?_ _ | refine Ext.drew ?_ | refine Ext.drewN ?_ _ | refine Ext.setCell ?_ (by first | (simp; done) | (simp; omega) | omega) _ | refine Ext.trans ?_ (by assumption)))).se) ?_
        rintro e w4 ⟨rfl, hx4⟩
        rw [Hq4.out]
        clear b0 b1 b2 b3 b4 b5 b6 b7 b8 b9 bg
        have HB4 := Lib.hid (HB3.out.ext hx4)
        have b0 := HB4.out.cell 0 rfl
        have b1 := HB4.out.cell 1 rfl
        have b2 := HB4.out.cell 2 rfl
        have b3 := HB4.out.cell 3 rfl
        have b4 := HB4.out.cell 4 rfl
        have b5 := HB4.out.cell 5 rfl
        have b6 := HB4.out.cell 6 rfl
        have b7 := HB4.out.cell 7 rfl
        have b8 := HB4.out.cell 8 rfl
        have b9 := HB4.out.cell 9 rfl
        have bg := HB4.out.1
        cases q4 with
        | false =>
          go_wp2_with fail
          go_ret
          exact ⟨ret_bool (B_false (fun h => absurd (h.2.2.2.1) (B_not.1 Hq4.out))).symm, (by repeat (first | exact Ext.refl _ | assumption | refine Ext.alloc ?_ _ | refine Ext.drew ?_ | refine Ext.drewN ?_ _ | refine Ext.setCell ?_ (by first | (simp; done) | (simp; omega) | omega) _ | refine Ext.trans ?_ (by assumption)))⟩
        | true =>
          go_wp2_with fail
          refine Calls.mono (impl_AreMarks vha W.ha _ (H.out.up (by repeat (first | exact Ext.refl _ | assumption | refine Ext.alloc ?_ _ | refine Ext.drew ?_ | refine Ext.drewN ?_ _ | refine Ext.setCell ?_ (by first | (simp; done) | (simp; omega) | omega) _ | refine Ext.trans ?_ (by assumption)))).ha) ?_
          rintro e w5 ⟨rfl, hx5⟩
          rw [Hq5.out]
          clear b0 b1 b2 b3 b4 b5 b6 b7 b8 b9 bg
          have HB5 := Lib.hid (HB4.out.ext hx5)
          have b0 := HB5.out.cell 0 rfl
          have b1 := HB5.out.cell 1 rfl
          have b2 := HB5.out.cell 2 rfl
          have b3 := HB5.out.cell 3 rfl
          have b4 := HB5.out.cell 4 rfl
          have b5 := HB5.out.cell 5 rfl
          have b6 := HB5.out.cell 6 rfl
          have b7 := HB5.out.cell 7 rfl
          have b8 := HB5.out.cell 8 rfl
          have b9 := HB5.out.cell 9 rfl
          have bg := HB5.out.1
          cases q5 with
          | false =>
            go_wp2_with fail
            go_ret
            exact ⟨ret_bool (B_false (fun h => absurd (h.2.2.2.2) (B_not.1 Hq5.out))).symm, (by repeat (first | exact Ext.refl _ | assumption | refine Ext.alloc ?_ _ | refine Ext.drew ?_ | refine Ext.drewN ?_ _ | refine Ext.setCell ?_ (by first | (simp; done) | (simp; omega) | omega) _ | refine Ext.trans ?_ (by assumption)))⟩
          | true =>
            go_wp2_with fail
            go_ret
            exact ⟨ret_bool (B_true ⟨B_iff.1 Hq1.out, B_iff.1 Hq2.out, B_iff.1 Hq3.out, B_iff.1 Hq4.out, B_iff.1 Hq5.out⟩).symm, (by repeat (first | exact Ext.refl _ | assumption | refine Ext.alloc ?_ _ | refine Ext.drew ?_ | refine Ext.drewN ?_ _ | refine Ext.setCell ?_ (by first | (simp; done) | (simp; omega) | omega) _ | refine Ext.trans ?_ (by assumption)))⟩
set_option maxRecDepth 100000 in
set_option maxHeartbeats 8000000 in
theorem spec_IsWorld (vr vp vt vl vw vs vse vha : Value) (W : Wrl) (w : World) (h : WrlAt w 0 w.heap.size vr vp vt vl vw vs vse vha W) (hsm : WSm W) : Calls Tryz.prog 22 #[.agg #[vr, .int .i64 W.ch.fr, .int .i64 W.ch.to, vp, vt, vl, vw, vs, vse, vha]] w (RetX (.bool (B (WrlOk W))) w) := by
  have H := Lib.hid h
  clear h
  have Hsm := Lib.hid hsm
  clear hsm
  obtain ⟨q1, e1⟩ : ∃ b, B (ChanOk W.ch) = b := ⟨_, rfl⟩
  have Hq1 := Lib.hid e1
  clear e1
  obtain ⟨q2, e2⟩ : ∃ b, B (PplOk W.pp) = b := ⟨_, rfl⟩
  have Hq2 := Lib.hid e2
  clear e2
  obtain ⟨q3, e3⟩ : ∃ b, B (ItiOk W.ld W.st) = b := ⟨_, rfl⟩
  have Hq3 := Lib.hid e3
  clear e3
  obtain ⟨q4, e4⟩ : ∃ b, B (MksOk W.se) = b := ⟨_, rfl⟩
  have Hq4 := Lib.hid e4
  clear e4
  obtain ⟨q5, e5⟩ : ∃ b, B (MksOk W.ha) = b := ⟨_, rfl⟩
  have Hq5 := Lib.hid e5
  clear e5
  have Hb := Lib.hid (Boxed.new w [vr, .int .i64 W.ch.fr, .int .i64 W.ch.to, vp, vt, vl, vw, vs, vse, vha] 72)
  go_enter Tryz.func22, Tryz.ntmps22
  go_wp2_with fail
  refine Calls.mono (spec_IsChancery vr W.ch _ (H.out.up (by repeat (first | exact Ext.refl _ | assumption | refine Ext.alloc ?_ _ | refine Ext.drew ?_ | refine Ext.drewN ?_ _ | refine Ext.setCell ?_ (by first | (simp; done) | (simp; omega) | omega) _ | refine Ext.trans ?_ (by assumption)))).rg Hsm.out.1) ?_
  rintro e w1 ⟨rfl, hx1⟩
  rw [Hq1.out]
  have HB1 := Lib.hid (Hb.out.ext hx1)
  have b0 := HB1.out.cell 0 rfl
  have b1 := HB1.out.cell 1 rfl
  have b2 := HB1.out.cell 2 rfl
  have b3 := HB1.out.cell 3 rfl
  have b4 := HB1.out.cell 4 rfl
  have b5 := HB1.out.cell 5 rfl
  have b6 := HB1.out.cell 6 rfl
  have b7 := HB1.out.cell 7 rfl
  have b8 := HB1.out.cell 8 rfl
  have b9 := HB1.out.cell 9 rfl
  have bg := HB1.out.1
  cases q1 with
  | false =>
    go_wp2_with fail
    go_ret
    exact ⟨ret_bool (B_false (fun h => absurd (h.1) (B_not.1 Hq1.out))).symm, (by repeat (first | exact Ext.refl _ | assumption | refine Ext.alloc ?_ _ | refine Ext.drew ?_ | refine Ext.drewN ?_ _ | refine Ext.setCell ?_ (by first | (simp; done) | (simp; omega) | omega) _ | refine Ext.trans ?_ (by assumption)))⟩
  | true =>
    go_wp2_with fail
    refine Calls.mono (spec_IsPeople vp vt W.pp _ (H.out.up (by repeat (first | exact Ext.refl _ | assumption | refine Ext.alloc ?_ _ | refine Ext.drew ?_ | refine Ext.drewN ?_ _ | refine Ext.setCell ?_ (by first | (simp; done) | (simp; omega) | omega) _ | refine Ext.trans ?_ (by assumption)))).ps (H.out.up (by repeat (first | exact Ext.refl _ | assumption | refine Ext.alloc ?_ _ | refine Ext.drew ?_ | refine Ext.drewN ?_ _ | refine Ext.setCell ?_ (by first | (simp; done) | (simp; omega) | omega) _ | refine Ext.trans ?_ (by assumption)))).tm Hsm.out.2.1 Hsm.out.2.2.1) ?_
    rintro e w2 ⟨rfl, hx2⟩
    rw [Hq2.out]
    clear b0 b1 b2 b3 b4 b5 b6 b7 b8 b9 bg
    have HB2 := Lib.hid (HB1.out.ext hx2)
    have b0 := HB2.out.cell 0 rfl
    have b1 := HB2.out.cell 1 rfl
    have b2 := HB2.out.cell 2 rfl
    have b3 := HB2.out.cell 3 rfl
    have b4 := HB2.out.cell 4 rfl
    have b5 := HB2.out.cell 5 rfl
    have b6 := HB2.out.cell 6 rfl
    have b7 := HB2.out.cell 7 rfl
    have b8 := HB2.out.cell 8 rfl
    have b9 := HB2.out.cell 9 rfl
    have bg := HB2.out.1
    cases q2 with
    | false =>
      go_wp2_with fail
      go_ret
      exact ⟨ret_bool (B_false (fun h => absurd (h.2.1) (B_not.1 Hq2.out))).symm, (by repeat (first | exact Ext.refl _ | assumption | refine Ext.alloc ?_ _ | refine Ext.drew ?_ | refine Ext.drewN ?_ _ | refine Ext.setCell ?_ (by first | (simp; done) | (simp; omega) | omega) _ | refine Ext.trans ?_ (by assumption)))⟩
    | true =>
      go_wp2_with fail
      refine Calls.mono (spec_IsItinerary vl vw vs W.ld W.st _ (H.out.up (by repeat (first | exact Ext.refl _ | assumption | refine Ext.alloc ?_ _ | refine Ext.drew ?_ | refine Ext.drewN ?_ _ | refine Ext.setCell ?_ (by first | (simp; done) | (simp; omega) | omega) _ | refine Ext.trans ?_ (by assumption)))).pl (H.out.up (by repeat (first | exact Ext.refl _ | assumption | refine Ext.alloc ?_ _ | refine Ext.drew ?_ | refine Ext.drewN ?_ _ | refine Ext.setCell ?_ (by first | (simp; done) | (simp; omega) | omega) _ | refine Ext.trans ?_ (by assumption)))).wy (H.out.up (by repeat (first | exact Ext.refl _ | assumption | refine Ext.alloc ?_ _ | refine Ext.drew ?_ | refine Ext.drewN ?_ _ | refine Ext.setCell ?_ (by first | (simp; done) | (simp; omega) | omega) _ | refine Ext.trans ?_ (by assumption)))).st Hsm.out.2.2.2.1) ?_
      rintro e w3 ⟨rfl, hx3⟩
      rw [Hq3.out]
      clear b0 b1 b2 b3 b4 b5 b6 b7 b8 b9 bg
      have HB3 := Lib.hid (HB2.out.ext hx3)
      have b0 := HB3.out.cell 0 rfl
      have b1 := HB3.out.cell 1 rfl
      have b2 := HB3.out.cell 2 rfl
      have b3 := HB3.out.cell 3 rfl
      have b4 := HB3.out.cell 4 rfl
      have b5 := HB3.out.cell 5 rfl
      have b6 := HB3.out.cell 6 rfl
      have b7 := HB3.out.cell 7 rfl
      have b8 := HB3.out.cell 8 rfl
      have b9 := HB3.out.cell 9 rfl
      have bg := HB3.out.1
      cases q3 with
      | false =>
        go_wp2_with fail
        go_ret
        exact ⟨ret_bool (B_false (fun h => absurd (h.2.2.1) (B_not.1 Hq3.out))).symm, (by repeat (first | exact Ext.refl _ | assumption | refine Ext.alloc ?_ _ | refine Ext.drew ?_ | refine Ext.drewN ?_ _ | refine Ext.setCell ?_ (by first | (simp; done) | (simp; omega) | omega) _ | refine Ext.trans ?_ (by assumption)))⟩
      | true =>
        go_wp2_with fail
        refine Calls.mono (spec_AreMarks vse W.se _ (H.out.up (by repeat (first | exact Ext.refl _ | assumption | refine Ext.alloc ?_ _ | refine Ext.drew ?_ | refine Ext.drewN ?_ _ | refine Ext.setCell ?_ (by first | (simp; done) | (simp; omega) | omega) _ | refine Ext.trans ?_ (by assumption)))).se Hsm.out.2.2.2.2.1) ?_
        rintro e w4 ⟨rfl, hx4⟩
        rw [Hq4.out]
        clear b0 b1 b2 b3 b4 b5 b6 b7 b8 b9 bg
        have HB4 := Lib.hid (HB3.out.ext hx4)
        have b0 := HB4.out.cell 0 rfl
        have b1 := HB4.out.cell 1 rfl
        have b2 := HB4.out.cell 2 rfl
        have b3 := HB4.out.cell 3 rfl
        have b4 := HB4.out.cell 4 rfl
        have b5 := HB4.out.cell 5 rfl
        have b6 := HB4.out.cell 6 rfl
        have b7 := HB4.out.cell 7 rfl
        have b8 := HB4.out.cell 8 rfl
        have b9 := HB4.out.cell 9 rfl
        have bg := HB4.out.1
        cases q4 with
        | false =>
          go_wp2_with fail
          go_ret
          exact ⟨ret_bool (B_false (fun h => absurd (h.2.2.2.1) (B_not.1 Hq4.out))).symm, (by repeat (first | exact Ext.refl _ | assumption | refine Ext.alloc ?_ _ | refine Ext.drew ?_ | refine Ext.drewN ?_ _ | refine Ext.setCell ?_ (by first | (simp; done) | (simp; omega) | omega) _ | refine Ext.trans ?_ (by assumption)))⟩
        | true =>
          go_wp2_with fail
          refine Calls.mono (spec_AreMarks vha W.ha _ (H.out.up (by repeat (first | exact Ext.refl _ | assumption | refine Ext.alloc ?_ _ | refine Ext.drew ?_ | refine Ext.drewN ?_ _ | refine Ext.setCell ?_ (by first | (simp; done) | (simp; omega) | omega) _ | refine Ext.trans ?_ (by assumption)))).ha Hsm.out.2.2.2.2.2) ?_
          rintro e w5 ⟨rfl, hx5⟩
          rw [Hq5.out]
          clear b0 b1 b2 b3 b4 b5 b6 b7 b8 b9 bg
          have HB5 := Lib.hid (HB4.out.ext hx5)
          have b0 := HB5.out.cell 0 rfl
          have b1 := HB5.out.cell 1 rfl
          have b2 := HB5.out.cell 2 rfl
          have b3 := HB5.out.cell 3 rfl
          have b4 := HB5.out.cell 4 rfl
          have b5 := HB5.out.cell 5 rfl
          have b6 := HB5.out.cell 6 rfl
          have b7 := HB5.out.cell 7 rfl
          have b8 := HB5.out.cell 8 rfl
          have b9 := HB5.out.cell 9 rfl
          have bg := HB5.out.1
          cases q5 with
          | false =>
            go_wp2_with fail
            go_ret
            exact ⟨ret_bool (B_false (fun h => absurd (h.2.2.2.2) (B_not.1 Hq5.out))).symm, (by repeat (first | exact Ext.refl _ | assumption | refine Ext.alloc ?_ _ | refine Ext.drew ?_ | refine Ext.drewN ?_ _ | refine Ext.setCell ?_ (by first | (simp; done) | (simp; omega) | omega) _ | refine Ext.trans ?_ (by assumption)))⟩
          | true =>
            go_wp2_with fail
            go_ret
            exact ⟨ret_bool (B_true ⟨B_iff.1 Hq1.out, B_iff.1 Hq2.out, B_iff.1 Hq3.out, B_iff.1 Hq4.out, B_iff.1 Hq5.out⟩).symm, (by repeat (first | exact Ext.refl _ | assumption | refine Ext.alloc ?_ _ | refine Ext.drew ?_ | refine Ext.drewN ?_ _ | refine Ext.setCell ?_ (by first | (simp; done) | (simp; omega) | omega) _ | refine Ext.trans ?_ (by assumption)))⟩
end Go.Proofs.YtbddkmlfjghllaaGreatDoor

/- The laws' own helpers for chanceries, people, lands: sizes, copies, comparisons. (Printed by genKo.py.) -/
namespace Go.Proofs.YtbddkmlfjghllaaGreatDoor
set_option linter.unusedVariables false
set_option linter.unusedSimpArgs false
open Go.RowKit
attribute [local go_sem] cell_onto

set_option maxHeartbeats 2000000 in
theorem laws_szChancery (v0 : Value) (l0 : List Nsp) (x1 : Int) (x2 : Int) (left : Int) (w : World) (hl : left ≤ 1048576) (h0 : 0 ≤ left) (k0 : Nsps w 0 w.heap.size v0 l0) (z0 : ∀ i, i < l0.length → (nspAt l0 i).nm.size ≤ 9223372036854775807) : Calls Tryz.prog 59 #[.agg #[v0, .int .i64 x1, .int .i64 x2], .int .i64 left] w (SzPost left ((l0.length ≤ 1048576 ∧ NSm l0)) w) := by
  have H0 := Lib.hid k0
  clear k0
  have Hb := Lib.hid (Boxed.new w [v0, .int .i64 x1, .int .i64 x2] 46)
  go_enter Tryz.func59, Tryz.ntmps59
  go_wp2_with fail
  refine Calls.mono (laws_szReignS v0 l0 left _ (by omega) (by omega) (H0.out.up (by repeat (first | exact Ext.refl _ | assumption | refine Ext.alloc ?_ _ | refine Ext.drew ?_ | refine Ext.drewN ?_ _ | refine Ext.setCell ?_ (by first | (simp; done) | (simp; omega) | omega) _ | refine Ext.trans ?_ (by assumption)))) z0) ?_
  rintro e w1 ⟨r0, rfl, hx1, ra0, rb0, rc0⟩
  have Rc0 := Lib.hid rc0
  clear rc0
  by_cases ng0 : r0 < 0
  case pos =>
    have d0 : decide (r0 < 0) = true := decide_eq_true ng0
    go_wp2_with fail
    go_ret
    exact ⟨-1, rfl, (by repeat (first | exact Ext.refl _ | assumption | refine Ext.alloc ?_ _ | refine Ext.drew ?_ | refine Ext.drewN ?_ _ | refine Ext.setCell ?_ (by first | (simp; done) | (simp; omega) | omega) _ | refine Ext.trans ?_ (by assumption))), by omega, by omega, fun h => absurd h (by omega)⟩
  have d0 : decide (r0 < 0) = false := decide_eq_false ng0
  go_wp2_with fail
  go_ret
  exact ⟨r0, rfl, (by repeat (first | exact Ext.refl _ | assumption | refine Ext.alloc ?_ _ | refine Ext.drew ?_ | refine Ext.drewN ?_ _ | refine Ext.setCell ?_ (by first | (simp; done) | (simp; omega) | omega) _ | refine Ext.trans ?_ (by assumption))), by omega, by omega, fun _ => (by have q0 := Rc0.out (by omega); exact ⟨by omega, fun i hi => by have := q0.2 i hi; omega⟩)⟩
set_option maxHeartbeats 2000000 in
theorem laws_eqChancery (v0 : Value) (l0 : List Nsp) (x1 : Int) (x2 : Int) (u0 : Value) (w : World) (h0 : Nsps w 0 w.heap.size v0 l0) (k0 : Nsps w 0 w.heap.size u0 l0) : Calls Tryz.prog 75 #[.agg #[v0, .int .i64 x1, .int .i64 x2], .agg #[u0, .int .i64 x1, .int .i64 x2]] w (RetX (.bool true) w) := by
  have H0 := Lib.hid h0
  have K0 := Lib.hid k0
  clear h0 k0
  have Ha := Lib.hid (Boxed.new w [v0, .int .i64 x1, .int .i64 x2] 62)
  have Hb := Lib.hid (Boxed.new (w.alloc (.cells #[v0, .int .i64 x1, .int .i64 x2] 62)) [u0, .int .i64 x1, .int .i64 x2] 62)
  go_enter Tryz.func75, Tryz.ntmps75
  go_wp2_with fail
  refine Calls.mono (laws_eqReignS v0 u0 l0 _ (H0.out.up (by repeat (first | exact Ext.refl _ | assumption | refine Ext.alloc ?_ _ | refine Ext.drew ?_ | refine Ext.drewN ?_ _ | refine Ext.setCell ?_ (by first | (simp; done) | (simp; omega) | omega) _ | refine Ext.trans ?_ (by assumption)))) (K0.out.up (by repeat (first | exact Ext.refl _ | assumption | refine Ext.alloc ?_ _ | refine Ext.drew ?_ | refine Ext.drewN ?_ _ | refine Ext.setCell ?_ (by first | (simp; done) | (simp; omega) | omega) _ | refine Ext.trans ?_ (by assumption))))) ?_
  rintro e w1 ⟨rfl, hx1⟩
  have ba := (Ha.out.ext ((Ext.refl _).alloc _)).ext hx1; have ba0 := ba.at0; have ba1 := ba.at1; have ba2 := ba.at2; have bag := ba.1; have Hba := Lib.hid ba; clear ba
  have hb' := Hb.out.ext hx1
  rw [World.size_alloc] at hb'
  have bb := hb'; have bb0 := bb.at0; have bb1 := bb.at1; have bb2 := bb.at2; have bbg := bb.1; have Hbb := Lib.hid bb; clear bb
  go_wp2_with fail
  go_ret
  exact ⟨rfl, (by repeat (first | exact Ext.refl _ | assumption | refine Ext.alloc ?_ _ | refine Ext.drew ?_ | refine Ext.drewN ?_ _ | refine Ext.setCell ?_ (by first | (simp; done) | (simp; omega) | omega) _ | refine Ext.trans ?_ (by assumption)))⟩
def NewChancery (l0 : List Nsp) (x1 : Int) (x2 : Int) (w : World) (e : Ending) (w' : World) : Prop := ∃ y0, e = .returned (.agg #[y0, .int .i64 x1, .int .i64 x2]) ∧ Ext w w' ∧ Nsps w' w.heap.size w'.heap.size y0 l0
set_option maxRecDepth 100000 in
set_option maxHeartbeats 4000000 in
theorem laws_toChancery (v0 : Value) (l0 : List Nsp) (x1 : Int) (x2 : Int) (w : World) (h0 : Nsps w 0 w.heap.size v0 l0) (s0 : l0.length ≤ 1048576) : Calls Tryz.prog 67 #[.agg #[v0, .int .i64 x1, .int .i64 x2]] w (NewChancery l0 x1 x2 w) := by
  have H0 := Lib.hid h0
  clear h0
  have Ha := Lib.hid (Boxed.new w [v0, .int .i64 x1, .int .i64 x2] 46)
  have Hr := Lib.hid (Boxed.new (w.alloc (.cells #[v0, .int .i64 x1, .int .i64 x2] 46)) [.slice none 0 0, .int .i64 0, .int .i64 0] 62)
  have Ho := Lib.hid (Boxed.new ((w.alloc (.cells #[v0, .int .i64 x1, .int .i64 x2] 46)).alloc (.cells #[.slice none 0 0, .int .i64 0, .int .i64 0] 62)) [.slice none 0 0, .int .i64 0, .int .i64 0] 62)
  go_enter Tryz.func67, Tryz.ntmps67
  go_wp2_with fail
  refine Calls.mono (laws_toReignS v0 l0 0 _ _ (H0.out.up (by repeat (first | exact Ext.refl _ | assumption | refine Ext.alloc ?_ _ | refine Ext.drew ?_ | refine Ext.drewN ?_ _ | refine Ext.setCell ?_ (by first | (simp; done) | (simp; omega) | omega) _ | refine Ext.trans ?_ (by assumption)))) (Nat.le_refl _) s0) ?_
  rintro e w1 ⟨y0, g0, rfl, hx1, hg0, ho0⟩
  obtain ⟨Y0, C0, rfl⟩ := ho0.len
  have ha' := (Ha.out.ext (((Ext.refl _).alloc _).alloc _)).ext hx1
  have hr' := (Hr.out.ext ((Ext.refl _).alloc _)).ext hx1
  have ho' := Ho.out.ext hx1
  simp only [World.size_alloc] at ha' hr' ho' hg0
  have HA1 := Lib.hid ha'
  have HR1 := Lib.hid hr'
  have HO1 := Lib.hid ho'
  clear ha' hr' ho'
  have hxw1 : Ext w w1 := (by repeat (first | exact Ext.refl _ | assumption | refine Ext.alloc ?_ _ | refine Ext.drew ?_ | refine Ext.drewN ?_ _ | refine Ext.setCell ?_ (by first | (simp; done) | (simp; omega) | omega) _ | refine Ext.trans ?_ (by assumption)))
  have hgg0 : 0 < l0.length → w.heap.size + 2 < g0 := fun hn => by have := hg0 hn; omega
  have O0 := Lib.hid ho0
  clear ho0 hg0 hx1
  have a0 := HA1.out.cell 0 rfl
  have r0 := HR1.out.cell 0 rfl
  have o0 := HO1.out.cell 0 rfl
  have rf0 := HR1.out.fz 0 (by simp)
  have of0 := HO1.out.fz 0 (by simp)
  have a1 := HA1.out.cell 1 rfl
  have r1 := HR1.out.cell 1 rfl
  have o1 := HO1.out.cell 1 rfl
  have rf1 := HR1.out.fz 1 (by simp)
  have of1 := HO1.out.fz 1 (by simp)
  have a2 := HA1.out.cell 2 rfl
  have r2 := HR1.out.cell 2 rfl
  have o2 := HO1.out.cell 2 rfl
  have rf2 := HR1.out.fz 2 (by simp)
  have of2 := HO1.out.fz 2 (by simp)
  have ag := HA1.out.1
  have rg := HR1.out.1
  have og := HO1.out.1
  go_wp2_with fail
  refine bodyPost_ret (v := .agg #[.slice Y0 l0.length C0, .int .i64 x1, .int .i64 x2]) (by simp [results, Tryz.results67, go_sem, *]) rfl ⟨_, rfl, ?_, ?_⟩
  · repeat (with_reducible refine Ext.setCell ?_ (by first | (show w.heap.size ≤ w.heap.size + _; omega) | (simp; omega)) _)
    with_reducible exact hxw1
  · refine Own.row (b := g0) ?_ (fun hn => ⟨by have := hgg0 hn; omega, ?_⟩)
    · repeat (with_reducible refine Own.setOther ?_ (fun hn => by have := hgg0 hn; first | (show g0 ≠ w.heap.size + _; omega) | (simp; omega)) _)
      with_reducible exact O0.out
    · have := O0.out.lt hn
      simp only [World.size_setCell]
      omega
set_option maxHeartbeats 2000000 in
theorem laws_szPeople (v0 : Value) (l0 : List Nsp) (v1 : Value) (l1 : List Trm) (left : Int) (w : World) (hl : left ≤ 1048576) (h0 : 0 ≤ left) (k0 : Nsps w 0 w.heap.size v0 l0) (h1 : Trms w 0 w.heap.size v1 l1) (z0 : ∀ i, i < l0.length → (nspAt l0 i).nm.size ≤ 9223372036854775807) (z1 : ∀ i, i < l1.length → (trmAt l1 i).of.size ≤ 9223372036854775807 ∧ (trmAt l1 i).pe.size ≤ 9223372036854775807) : Calls Tryz.prog 60 #[.agg #[v0, v1], .int .i64 left] w (SzPost left ((l0.length ≤ 1048576 ∧ NSm l0) ∧ (l1.length ≤ 1048576 ∧ ∀ i, i < l1.length → (trmAt l1 i).of.size ≤ 1048576)) w) := by
  have H0 := Lib.hid k0
  clear k0
  have H1 := Lib.hid h1
  clear h1
  have Hb := Lib.hid (Boxed.new w [v0, v1] 50)
  go_enter Tryz.func60, Tryz.ntmps60
  go_wp2_with fail
  refine Calls.mono (laws_szPersonS v0 l0 left _ (by omega) (by omega) (H0.out.up (by repeat (first | exact Ext.refl _ | assumption | refine Ext.alloc ?_ _ | refine Ext.drew ?_ | refine Ext.drewN ?_ _ | refine Ext.setCell ?_ (by first | (simp; done) | (simp; omega) | omega) _ | refine Ext.trans ?_ (by assumption)))) z0) ?_
  rintro e w1 ⟨r0, rfl, hx1, ra0, rb0, rc0⟩
  have Rc0 := Lib.hid rc0
  clear rc0
  by_cases ng0 : r0 < 0
  case pos =>
    have d0 : decide (r0 < 0) = true := decide_eq_true ng0
    go_wp2_with fail
    go_ret
    exact ⟨-1, rfl, (by repeat (first | exact Ext.refl _ | assumption | refine Ext.alloc ?_ _ | refine Ext.drew ?_ | refine Ext.drewN ?_ _ | refine Ext.setCell ?_ (by first | (simp; done) | (simp; omega) | omega) _ | refine Ext.trans ?_ (by assumption))), by omega, by omega, fun h => absurd h (by omega)⟩
  have d0 : decide (r0 < 0) = false := decide_eq_false ng0
  have bx := Hb.out.ext hx1; have bx0 := bx.at0; have bx1 := bx.at1; have bxg := bx.1; have Hbx := Lib.hid bx; clear bx
  go_wp2_with fail
  refine Calls.mono (laws_szTermS v1 l1 r0 _ (by omega) (by omega) (H1.out.up (by repeat (first | exact Ext.refl _ | assumption | refine Ext.alloc ?_ _ | refine Ext.drew ?_ | refine Ext.drewN ?_ _ | refine Ext.setCell ?_ (by first | (simp; done) | (simp; omega) | omega) _ | refine Ext.trans ?_ (by assumption)))) z1) ?_
  rintro e w2 ⟨r1, rfl, hx2, ra1, rb1, rc1⟩
  have Rc1 := Lib.hid rc1
  clear rc1
  by_cases ng1 : r1 < 0
  case pos =>
    have d1 : decide (r1 < 0) = true := decide_eq_true ng1
    go_wp2_with fail
    go_ret
    exact ⟨-1, rfl, (by repeat (first | exact Ext.refl _ | assumption | refine Ext.alloc ?_ _ | refine Ext.drew ?_ | refine Ext.drewN ?_ _ | refine Ext.setCell ?_ (by first | (simp; done) | (simp; omega) | omega) _ | refine Ext.trans ?_ (by assumption))), by omega, by omega, fun h => absurd h (by omega)⟩
  have d1 : decide (r1 < 0) = false := decide_eq_false ng1
  go_wp2_with fail
  go_ret
  exact ⟨r1, rfl, (by repeat (first | exact Ext.refl _ | assumption | refine Ext.alloc ?_ _ | refine Ext.drew ?_ | refine Ext.drewN ?_ _ | refine Ext.setCell ?_ (by first | (simp; done) | (simp; omega) | omega) _ | refine Ext.trans ?_ (by assumption))), by omega, by omega, fun _ => ⟨(by have q0 := Rc0.out (by omega); exact ⟨by omega, fun i hi => by have := q0.2 i hi; omega⟩), (by have q1 := Rc1.out (by omega); exact ⟨by omega, fun i hi => by have := (q1.2 i hi).1; omega⟩)⟩⟩
set_option maxHeartbeats 2000000 in
theorem laws_eqPeople (v0 : Value) (l0 : List Nsp) (v1 : Value) (l1 : List Trm) (u0 : Value) (u1 : Value) (w : World) (h0 : Nsps w 0 w.heap.size v0 l0) (k0 : Nsps w 0 w.heap.size u0 l0) (h1 : Trms w 0 w.heap.size v1 l1) (k1 : Trms w 0 w.heap.size u1 l1) : Calls Tryz.prog 76 #[.agg #[v0, v1], .agg #[u0, u1]] w (RetX (.bool true) w) := by
  have H0 := Lib.hid h0
  have K0 := Lib.hid k0
  clear h0 k0
  have H1 := Lib.hid h1
  have K1 := Lib.hid k1
  clear h1 k1
  have Ha := Lib.hid (Boxed.new w [v0, v1] 66)
  have Hb := Lib.hid (Boxed.new (w.alloc (.cells #[v0, v1] 66)) [u0, u1] 66)
  go_enter Tryz.func76, Tryz.ntmps76
  go_wp2_with fail
  refine Calls.mono (laws_eqPersonS v0 u0 l0 _ (H0.out.up (by repeat (first | exact Ext.refl _ | assumption | refine Ext.alloc ?_ _ | refine Ext.drew ?_ | refine Ext.drewN ?_ _ | refine Ext.setCell ?_ (by first | (simp; done) | (simp; omega) | omega) _ | refine Ext.trans ?_ (by assumption)))) (K0.out.up (by repeat (first | exact Ext.refl _ | assumption | refine Ext.alloc ?_ _ | refine Ext.drew ?_ | refine Ext.drewN ?_ _ | refine Ext.setCell ?_ (by first | (simp; done) | (simp; omega) | omega) _ | refine Ext.trans ?_ (by assumption))))) ?_
  rintro e w1 ⟨rfl, hx1⟩
  have ba := (Ha.out.ext ((Ext.refl _).alloc _)).ext hx1; have ba0 := ba.at0; have ba1 := ba.at1; have bag := ba.1; have Hba := Lib.hid ba; clear ba
  have hb' := Hb.out.ext hx1
  rw [World.size_alloc] at hb'
  have bb := hb'; have bb0 := bb.at0; have bb1 := bb.at1; have bbg := bb.1; have Hbb := Lib.hid bb; clear bb
  go_wp2_with fail
  refine Calls.mono (laws_eqTermS v1 u1 l1 _ (H1.out.up (by repeat (first | exact Ext.refl _ | assumption | refine Ext.alloc ?_ _ | refine Ext.drew ?_ | refine Ext.drewN ?_ _ | refine Ext.setCell ?_ (by first | (simp; done) | (simp; omega) | omega) _ | refine Ext.trans ?_ (by assumption)))) (K1.out.up (by repeat (first | exact Ext.refl _ | assumption | refine Ext.alloc ?_ _ | refine Ext.drew ?_ | refine Ext.drewN ?_ _ | refine Ext.setCell ?_ (by first | (simp; done) | (simp; omega) | omega) _ | refine Ext.trans ?_ (by assumption))))) ?_
  rintro e w2 ⟨rfl, hx2⟩
  go_wp2_with fail
  go_ret
  exact ⟨rfl, (by repeat (first | exact Ext.refl _ | assumption | refine Ext.alloc ?_ _ | refine Ext.drew ?_ | refine Ext.drewN ?_ _ | refine Ext.setCell ?_ (by first | (simp; done) | (simp; omega) | omega) _ | refine Ext.trans ?_ (by assumption)))⟩
def NewPeople (l0 : List Nsp) (l1 : List Trm) (w : World) (e : Ending) (w' : World) : Prop := ∃ y0 y1, e = .returned (.agg #[y0, y1]) ∧ Ext w w' ∧ Nsps w' w.heap.size w'.heap.size y0 l0 ∧ Trms w' w.heap.size w'.heap.size y1 l1
set_option maxRecDepth 100000 in
set_option maxHeartbeats 4000000 in
theorem laws_toPeople (v0 : Value) (l0 : List Nsp) (v1 : Value) (l1 : List Trm) (w : World) (h0 : Nsps w 0 w.heap.size v0 l0) (s0 : l0.length ≤ 1048576) (h1 : Trms w 0 w.heap.size v1 l1) (s1 : l1.length ≤ 1048576) : Calls Tryz.prog 68 #[.agg #[v0, v1]] w (NewPeople l0 l1 w) := by
  have H0 := Lib.hid h0
  clear h0
  have H1 := Lib.hid h1
  clear h1
  have Ha := Lib.hid (Boxed.new w [v0, v1] 50)
  have Hr := Lib.hid (Boxed.new (w.alloc (.cells #[v0, v1] 50)) [.slice none 0 0, .slice none 0 0] 66)
  have Ho := Lib.hid (Boxed.new ((w.alloc (.cells #[v0, v1] 50)).alloc (.cells #[.slice none 0 0, .slice none 0 0] 66)) [.slice none 0 0, .slice none 0 0] 66)
  go_enter Tryz.func68, Tryz.ntmps68
  go_wp2_with fail
  refine Calls.mono (laws_toPersonS v0 l0 0 _ _ (H0.out.up (by repeat (first | exact Ext.refl _ | assumption | refine Ext.alloc ?_ _ | refine Ext.drew ?_ | refine Ext.drewN ?_ _ | refine Ext.setCell ?_ (by first | (simp; done) | (simp; omega) | omega) _ | refine Ext.trans ?_ (by assumption)))) (Nat.le_refl _) s0) ?_
  rintro e w1 ⟨y0, g0, rfl, hx1, hg0, ho0⟩
  obtain ⟨Y0, C0, rfl⟩ := ho0.len
  have ha' := (Ha.out.ext (((Ext.refl _).alloc _).alloc _)).ext hx1
  have hr' := (Hr.out.ext ((Ext.refl _).alloc _)).ext hx1
  have ho' := Ho.out.ext hx1
  simp only [World.size_alloc] at ha' hr' ho' hg0
  have HA1 := Lib.hid ha'
  have HR1 := Lib.hid hr'
  have HO1 := Lib.hid ho'
  clear ha' hr' ho'
  have hxw1 : Ext w w1 := (by repeat (first | exact Ext.refl _ | assumption | refine Ext.alloc ?_ _ | refine Ext.drew ?_ | refine Ext.drewN ?_ _ | refine Ext.setCell ?_ (by first | (simp; done) | (simp; omega) | omega) _ | refine Ext.trans ?_ (by assumption)))
  have hgg0 : 0 < l0.length → w.heap.size + 2 < g0 := fun hn => by have := hg0 hn; omega
  have O0 := Lib.hid ho0
  clear ho0 hg0 hx1
  have a0 := HA1.out.cell 0 rfl
  have r0 := HR1.out.cell 0 rfl
  have o0 := HO1.out.cell 0 rfl
  have rf0 := HR1.out.fz 0 (by simp)
  have of0 := HO1.out.fz 0 (by simp)
  have a1 := HA1.out.cell 1 rfl
  have r1 := HR1.out.cell 1 rfl
  have o1 := HO1.out.cell 1 rfl
  have rf1 := HR1.out.fz 1 (by simp)
  have of1 := HO1.out.fz 1 (by simp)
  have ag := HA1.out.1
  have rg := HR1.out.1
  have og := HO1.out.1
  have HAs1 := Lib.hid (HA1.out.setOther (p := ⟨w.heap.size + 2, 0, none⟩) (by show w.heap.size ≠ w.heap.size + 2; omega) (.slice Y0 l0.length C0))
  have HRs1 := Lib.hid (HR1.out.setOther (p := ⟨w.heap.size + 2, 0, none⟩) (by show w.heap.size + 1 ≠ w.heap.size + 2; omega) (.slice Y0 l0.length C0))
  have HOs1 := Lib.hid (HO1.out.set 0 (.slice Y0 l0.length C0) (by simp))
  have hxs1 : Ext w (w1.setCell ⟨w.heap.size + 2, 0, none⟩ (.slice Y0 l0.length C0)) := hxw1.setCell (by show w.heap.size ≤ w.heap.size + 2; omega) _
  have Os0 := Lib.hid (O0.out.setOther (p := ⟨w.heap.size + 2, 0, none⟩) (fun hn => by have := hgg0 hn; show g0 ≠ w.heap.size + 2; omega) (.slice Y0 l0.length C0))
  clear O0
  go_wp2_with fail
  clear a0 r0 o0 rf0 of0 a1 r1 o1 rf1 of1 ag rg og
  generalize (w1.setCell ⟨w.heap.size + 2, 0, none⟩ (.slice Y0 l0.length C0)) = w1s at *
  refine Calls.mono (laws_toTermS v1 l1 0 _ _ (H1.out.up hxs1) (Nat.le_refl _) s1) ?_
  rintro e w2 ⟨y1, g1, rfl, hx2, hg1, ho1⟩
  obtain ⟨Y1, C1, rfl⟩ := ho1.len
  have HA2 := Lib.hid (HAs1.out.ext hx2)
  have HR2 := Lib.hid (HRs1.out.ext hx2)
  have HO2 := Lib.hid (HOs1.out.ext hx2)
  have hxw2 : Ext w w2 := hxs1.trans hx2
  have hsz2 := HOs1.out.1
  have hgg1 : 0 < l1.length → w.heap.size + 2 < g1 := fun hn => by have := hg1 hn; omega
  have O1 := Lib.hid ho1
  have O0t := Lib.hid (Os0.out.ext hx2)
  clear Os0
  have O0 := O0t
  clear O0t
  clear ho1 hg1 hx2 hsz2
  have a0 := HA2.out.cell 0 rfl
  have r0 := HR2.out.cell 0 rfl
  have o0 := HO2.out.cell 0 rfl
  have rf0 := HR2.out.fz 0 (by simp)
  have of0 := HO2.out.fz 0 (by simp)
  have a1 := HA2.out.cell 1 rfl
  have r1 := HR2.out.cell 1 rfl
  have o1 := HO2.out.cell 1 rfl
  have rf1 := HR2.out.fz 1 (by simp)
  have of1 := HO2.out.fz 1 (by simp)
  have ag := HA2.out.1
  have rg := HR2.out.1
  have og := HO2.out.1
  go_wp2_with fail
  refine bodyPost_ret (v := .agg #[.slice Y0 l0.length C0, .slice Y1 l1.length C1]) (by simp [results, Tryz.results68, go_sem, *]) rfl ⟨_, _, rfl, ?_, ?_, ?_⟩
  · repeat (with_reducible refine Ext.setCell ?_ (by first | (show w.heap.size ≤ w.heap.size + _; omega) | (simp; omega)) _)
    with_reducible exact hxw2
  · refine Own.row (b := g0) ?_ (fun hn => ⟨by have := hgg0 hn; omega, ?_⟩)
    · repeat (with_reducible refine Own.setOther ?_ (fun hn => by have := hgg0 hn; first | (show g0 ≠ w.heap.size + _; omega) | (simp; omega)) _)
      with_reducible exact O0.out
    · have := O0.out.lt hn
      simp only [World.size_setCell]
      omega
  · refine Own.row (b := g1) ?_ (fun hn => ⟨by have := hgg1 hn; omega, ?_⟩)
    · repeat (with_reducible refine Own.setOther ?_ (fun hn => by have := hgg1 hn; first | (show g1 ≠ w.heap.size + _; omega) | (simp; omega)) _)
      with_reducible exact O1.out
    · have := O1.out.lt hn
      simp only [World.size_setCell]
      omega
set_option maxHeartbeats 2000000 in
theorem laws_szLand (v0 : Value) (l0 : List ByteArray) (v1 : Value) (l1 : List Wy) (left : Int) (w : World) (hl : left ≤ 1048576) (h0 : 0 ≤ left) (k0 : Strs w 0 w.heap.size v0 l0) (h1 : Wys w 0 w.heap.size v1 l1) (z0 : ∀ i, i < l0.length → (strAt l0 i).size ≤ 9223372036854775807) : Calls Tryz.prog 61 #[.agg #[v0, v1], .int .i64 left] w (SzPost left ((l0.length ≤ 1048576 ∧ ∀ i, i < l0.length → (strAt l0 i).size ≤ 1048576) ∧ (l1.length ≤ 1048576)) w) := by
  have H0 := Lib.hid k0
  clear k0
  have H1 := Lib.hid h1
  clear h1
  have Hb := Lib.hid (Boxed.new w [v0, v1] 53)
  go_enter Tryz.func61, Tryz.ntmps61
  go_wp2_with fail
  refine Calls.mono (laws_szStringS v0 l0 left _ (by omega) (by omega) (H0.out.up (by repeat (first | exact Ext.refl _ | assumption | refine Ext.alloc ?_ _ | refine Ext.drew ?_ | refine Ext.drewN ?_ _ | refine Ext.setCell ?_ (by first | (simp; done) | (simp; omega) | omega) _ | refine Ext.trans ?_ (by assumption)))) z0) ?_
  rintro e w1 ⟨r0, rfl, hx1, ra0, rb0, rc0⟩
  have Rc0 := Lib.hid rc0
  clear rc0
  by_cases ng0 : r0 < 0
  case pos =>
    have d0 : decide (r0 < 0) = true := decide_eq_true ng0
    go_wp2_with fail
    go_ret
    exact ⟨-1, rfl, (by repeat (first | exact Ext.refl _ | assumption | refine Ext.alloc ?_ _ | refine Ext.drew ?_ | refine Ext.drewN ?_ _ | refine Ext.setCell ?_ (by first | (simp; done) | (simp; omega) | omega) _ | refine Ext.trans ?_ (by assumption))), by omega, by omega, fun h => absurd h (by omega)⟩
  have d0 : decide (r0 < 0) = false := decide_eq_false ng0
  have bx := Hb.out.ext hx1; have bx0 := bx.at0; have bx1 := bx.at1; have bxg := bx.1; have Hbx := Lib.hid bx; clear bx
  go_wp2_with fail
  refine Calls.mono (laws_szWayS v1 l1 r0 _ (by omega) (by omega) (H1.out.up (by repeat (first | exact Ext.refl _ | assumption | refine Ext.alloc ?_ _ | refine Ext.drew ?_ | refine Ext.drewN ?_ _ | refine Ext.setCell ?_ (by first | (simp; done) | (simp; omega) | omega) _ | refine Ext.trans ?_ (by assumption))))) ?_
  rintro e w2 ⟨r1, rfl, hx2, ra1, rb1, rc1⟩
  have Rc1 := Lib.hid rc1
  clear rc1
  by_cases ng1 : r1 < 0
  case pos =>
    have d1 : decide (r1 < 0) = true := decide_eq_true ng1
    go_wp2_with fail
    go_ret
    exact ⟨-1, rfl, (by repeat (first | exact Ext.refl _ | assumption | refine Ext.alloc ?_ _ | refine Ext.drew ?_ | refine Ext.drewN ?_ _ | refine Ext.setCell ?_ (by first | (simp; done) | (simp; omega) | omega) _ | refine Ext.trans ?_ (by assumption))), by omega, by omega, fun h => absurd h (by omega)⟩
  have d1 : decide (r1 < 0) = false := decide_eq_false ng1
  go_wp2_with fail
  go_ret
  exact ⟨r1, rfl, (by repeat (first | exact Ext.refl _ | assumption | refine Ext.alloc ?_ _ | refine Ext.drew ?_ | refine Ext.drewN ?_ _ | refine Ext.setCell ?_ (by first | (simp; done) | (simp; omega) | omega) _ | refine Ext.trans ?_ (by assumption))), by omega, by omega, fun _ => ⟨(by have q0 := Rc0.out (by omega); exact ⟨by omega, fun i hi => by have := q0.2 i hi; omega⟩), (by have q1 := Rc1.out (by omega); exact by omega)⟩⟩
set_option maxHeartbeats 2000000 in
theorem laws_eqLand (v0 : Value) (l0 : List ByteArray) (v1 : Value) (l1 : List Wy) (u0 : Value) (u1 : Value) (w : World) (h0 : Strs w 0 w.heap.size v0 l0) (k0 : Strs w 0 w.heap.size u0 l0) (h1 : Wys w 0 w.heap.size v1 l1) (k1 : Wys w 0 w.heap.size u1 l1) : Calls Tryz.prog 77 #[.agg #[v0, v1], .agg #[u0, u1]] w (RetX (.bool true) w) := by
  have H0 := Lib.hid h0
  have K0 := Lib.hid k0
  clear h0 k0
  have H1 := Lib.hid h1
  have K1 := Lib.hid k1
  clear h1 k1
  have Ha := Lib.hid (Boxed.new w [v0, v1] 69)
  have Hb := Lib.hid (Boxed.new (w.alloc (.cells #[v0, v1] 69)) [u0, u1] 69)
  go_enter Tryz.func77, Tryz.ntmps77
  go_wp2_with fail
  refine Calls.mono (laws_eqStringS v0 u0 l0 _ (H0.out.up (by repeat (first | exact Ext.refl _ | assumption | refine Ext.alloc ?_ _ | refine Ext.drew ?_ | refine Ext.drewN ?_ _ | refine Ext.setCell ?_ (by first | (simp; done) | (simp; omega) | omega) _ | refine Ext.trans ?_ (by assumption)))) (K0.out.up (by repeat (first | exact Ext.refl _ | assumption | refine Ext.alloc ?_ _ | refine Ext.drew ?_ | refine Ext.drewN ?_ _ | refine Ext.setCell ?_ (by first | (simp; done) | (simp; omega) | omega) _ | refine Ext.trans ?_ (by assumption))))) ?_
  rintro e w1 ⟨rfl, hx1⟩
  have ba := (Ha.out.ext ((Ext.refl _).alloc _)).ext hx1; have ba0 := ba.at0; have ba1 := ba.at1; have bag := ba.1; have Hba := Lib.hid ba; clear ba
  have hb' := Hb.out.ext hx1
  rw [World.size_alloc] at hb'
  have bb := hb'; have bb0 := bb.at0; have bb1 := bb.at1; have bbg := bb.1; have Hbb := Lib.hid bb; clear bb
  go_wp2_with fail
  refine Calls.mono (laws_eqWayS v1 u1 l1 _ (H1.out.up (by repeat (first | exact Ext.refl _ | assumption | refine Ext.alloc ?_ _ | refine Ext.drew ?_ | refine Ext.drewN ?_ _ | refine Ext.setCell ?_ (by first | (simp; done) | (simp; omega) | omega) _ | refine Ext.trans ?_ (by assumption)))) (K1.out.up (by repeat (first | exact Ext.refl _ | assumption | refine Ext.alloc ?_ _ | refine Ext.drew ?_ | refine Ext.drewN ?_ _ | refine Ext.setCell ?_ (by first | (simp; done) | (simp; omega) | omega) _ | refine Ext.trans ?_ (by assumption))))) ?_
  rintro e w2 ⟨rfl, hx2⟩
  go_wp2_with fail
  go_ret
  exact ⟨rfl, (by repeat (first | exact Ext.refl _ | assumption | refine Ext.alloc ?_ _ | refine Ext.drew ?_ | refine Ext.drewN ?_ _ | refine Ext.setCell ?_ (by first | (simp; done) | (simp; omega) | omega) _ | refine Ext.trans ?_ (by assumption)))⟩
def NewLand (l0 : List ByteArray) (l1 : List Wy) (w : World) (e : Ending) (w' : World) : Prop := ∃ y0 y1, e = .returned (.agg #[y0, y1]) ∧ Ext w w' ∧ Strs w' w.heap.size w'.heap.size y0 l0 ∧ Wys w' w.heap.size w'.heap.size y1 l1
set_option maxRecDepth 100000 in
set_option maxHeartbeats 4000000 in
theorem laws_toLand (v0 : Value) (l0 : List ByteArray) (v1 : Value) (l1 : List Wy) (w : World) (h0 : Strs w 0 w.heap.size v0 l0) (s0 : l0.length ≤ 1048576) (h1 : Wys w 0 w.heap.size v1 l1) (s1 : l1.length ≤ 1048576) : Calls Tryz.prog 69 #[.agg #[v0, v1]] w (NewLand l0 l1 w) := by
  have H0 := Lib.hid h0
  clear h0
  have H1 := Lib.hid h1
  clear h1
  have Ha := Lib.hid (Boxed.new w [v0, v1] 53)
  have Hr := Lib.hid (Boxed.new (w.alloc (.cells #[v0, v1] 53)) [.slice none 0 0, .slice none 0 0] 69)
  have Ho := Lib.hid (Boxed.new ((w.alloc (.cells #[v0, v1] 53)).alloc (.cells #[.slice none 0 0, .slice none 0 0] 69)) [.slice none 0 0, .slice none 0 0] 69)
  go_enter Tryz.func69, Tryz.ntmps69
  go_wp2_with fail
  refine Calls.mono (laws_toStringS v0 l0 0 _ _ (H0.out.up (by repeat (first | exact Ext.refl _ | assumption | refine Ext.alloc ?_ _ | refine Ext.drew ?_ | refine Ext.drewN ?_ _ | refine Ext.setCell ?_ (by first | (simp; done) | (simp; omega) | omega) _ | refine Ext.trans ?_ (by assumption)))) (Nat.le_refl _) s0) ?_
  rintro e w1 ⟨y0, g0, rfl, hx1, hg0, ho0⟩
  obtain ⟨Y0, C0, rfl⟩ := ho0.len
  have ha' := (Ha.out.ext (((Ext.refl _).alloc _).alloc _)).ext hx1
  have hr' := (Hr.out.ext ((Ext.refl _).alloc _)).ext hx1
  have ho' := Ho.out.ext hx1
  simp only [World.size_alloc] at ha' hr' ho' hg0
  have HA1 := Lib.hid ha'
  have HR1 := Lib.hid hr'
  have HO1 := Lib.hid ho'
  clear ha' hr' ho'
  have hxw1 : Ext w w1 := (by repeat (first | exact Ext.refl _ | assumption | refine Ext.alloc ?_ _ | refine Ext.drew ?_ | refine Ext.drewN ?_ _ | refine Ext.setCell ?_ (by first | (simp; done) | (simp; omega) | omega) _ | refine Ext.trans ?_ (by assumption)))
  have hgg0 : 0 < l0.length → w.heap.size + 2 < g0 := fun hn => by have := hg0 hn; omega
  have O0 := Lib.hid ho0
  clear ho0 hg0 hx1
  have a0 := HA1.out.cell 0 rfl
  have r0 := HR1.out.cell 0 rfl
  have o0 := HO1.out.cell 0 rfl
  have rf0 := HR1.out.fz 0 (by simp)
  have of0 := HO1.out.fz 0 (by simp)
  have a1 := HA1.out.cell 1 rfl
  have r1 := HR1.out.cell 1 rfl
  have o1 := HO1.out.cell 1 rfl
  have rf1 := HR1.out.fz 1 (by simp)
  have of1 := HO1.out.fz 1 (by simp)
  have ag := HA1.out.1
  have rg := HR1.out.1
  have og := HO1.out.1
  have HAs1 := Lib.hid (HA1.out.setOther (p := ⟨w.heap.size + 2, 0, none⟩) (by show w.heap.size ≠ w.heap.size + 2; omega) (.slice Y0 l0.length C0))
  have HRs1 := Lib.hid (HR1.out.setOther (p := ⟨w.heap.size + 2, 0, none⟩) (by show w.heap.size + 1 ≠ w.heap.size + 2; omega) (.slice Y0 l0.length C0))
  have HOs1 := Lib.hid (HO1.out.set 0 (.slice Y0 l0.length C0) (by simp))
  have hxs1 : Ext w (w1.setCell ⟨w.heap.size + 2, 0, none⟩ (.slice Y0 l0.length C0)) := hxw1.setCell (by show w.heap.size ≤ w.heap.size + 2; omega) _
  have Os0 := Lib.hid (O0.out.setOther (p := ⟨w.heap.size + 2, 0, none⟩) (fun hn => by have := hgg0 hn; show g0 ≠ w.heap.size + 2; omega) (.slice Y0 l0.length C0))
  clear O0
  go_wp2_with fail
  clear a0 r0 o0 rf0 of0 a1 r1 o1 rf1 of1 ag rg og
  generalize (w1.setCell ⟨w.heap.size + 2, 0, none⟩ (.slice Y0 l0.length C0)) = w1s at *
  refine Calls.mono (laws_toWayS v1 l1 0 _ _ (H1.out.up hxs1) (Nat.le_refl _) s1) ?_
  rintro e w2 ⟨y1, g1, rfl, hx2, hg1, ho1⟩
  obtain ⟨Y1, C1, rfl⟩ := ho1.len
  have HA2 := Lib.hid (HAs1.out.ext hx2)
  have HR2 := Lib.hid (HRs1.out.ext hx2)
  have HO2 := Lib.hid (HOs1.out.ext hx2)
  have hxw2 : Ext w w2 := hxs1.trans hx2
  have hsz2 := HOs1.out.1
  have hgg1 : 0 < l1.length → w.heap.size + 2 < g1 := fun hn => by have := hg1 hn; omega
  have O1 := Lib.hid ho1
  have O0t := Lib.hid (Os0.out.ext hx2)
  clear Os0
  have O0 := O0t
  clear O0t
  clear ho1 hg1 hx2 hsz2
  have a0 := HA2.out.cell 0 rfl
  have r0 := HR2.out.cell 0 rfl
  have o0 := HO2.out.cell 0 rfl
  have rf0 := HR2.out.fz 0 (by simp)
  have of0 := HO2.out.fz 0 (by simp)
  have a1 := HA2.out.cell 1 rfl
  have r1 := HR2.out.cell 1 rfl
  have o1 := HO2.out.cell 1 rfl
  have rf1 := HR2.out.fz 1 (by simp)
  have of1 := HO2.out.fz 1 (by simp)
  have ag := HA2.out.1
  have rg := HR2.out.1
  have og := HO2.out.1
  go_wp2_with fail
  refine bodyPost_ret (v := .agg #[.slice Y0 l0.length C0, .slice Y1 l1.length C1]) (by simp [results, Tryz.results69, go_sem, *]) rfl ⟨_, _, rfl, ?_, ?_, ?_⟩
  · repeat (with_reducible refine Ext.setCell ?_ (by first | (show w.heap.size ≤ w.heap.size + _; omega) | (simp; omega)) _)
    with_reducible exact hxw2
  · refine Own.row (b := g0) ?_ (fun hn => ⟨by have := hgg0 hn; omega, ?_⟩)
    · repeat (with_reducible refine Own.setOther ?_ (fun hn => by have := hgg0 hn; first | (show g0 ≠ w.heap.size + _; omega) | (simp; omega)) _)
      with_reducible exact O0.out
    · have := O0.out.lt hn
      simp only [World.size_setCell]
      omega
  · refine Own.row (b := g1) ?_ (fun hn => ⟨by have := hgg1 hn; omega, ?_⟩)
    · repeat (with_reducible refine Own.setOther ?_ (fun hn => by have := hgg1 hn; first | (show g1 ≠ w.heap.size + _; omega) | (simp; omega)) _)
      with_reducible exact O1.out
    · have := O1.out.lt hn
      simp only [World.size_setCell]
      omega
end Go.Proofs.YtbddkmlfjghllaaGreatDoor

/- The laws' own helpers for worlds: szWorld toWorld eqWorld. (Printed by genKp.py.) -/
namespace Go.Proofs.YtbddkmlfjghllaaGreatDoor
set_option linter.unusedVariables false
set_option linter.unusedSimpArgs false
open Go.RowKit
attribute [local go_sem] cell_onto

/-- no string of the world is longer than Go lets a string be -/
def WMx (W : Wrl) : Prop := (∀ i, i < W.ch.rg.length → (nspAt W.ch.rg i).nm.size ≤ 9223372036854775807) ∧ (∀ i, i < W.pp.ps.length → (nspAt W.pp.ps i).nm.size ≤ 9223372036854775807) ∧ (∀ i, i < W.pp.tm.length → (trmAt W.pp.tm i).of.size ≤ 9223372036854775807 ∧ (trmAt W.pp.tm i).pe.size ≤ 9223372036854775807) ∧ (∀ i, i < W.ld.pl.length → (strAt W.ld.pl i).size ≤ 9223372036854775807) ∧ (∀ i, i < W.se.length → (nspAt W.se i).nm.size ≤ 9223372036854775807) ∧ (∀ i, i < W.ha.length → (nspAt W.ha i).nm.size ≤ 9223372036854775807)
/-- its lists are small -/
def WLn (W : Wrl) : Prop := W.ch.rg.length ≤ 1048576 ∧ W.pp.ps.length ≤ 1048576 ∧ W.pp.tm.length ≤ 1048576 ∧ W.ld.pl.length ≤ 1048576 ∧ W.ld.wy.length ≤ 1048576 ∧ W.st.length ≤ 1048576 ∧ W.se.length ≤ 1048576 ∧ W.ha.length ≤ 1048576
set_option maxRecDepth 100000 in
set_option maxHeartbeats 8000000 in
theorem laws_szWorld (v0 v3 v4 v5 v6 v7 v8 v9 : Value) (W : Wrl) (left : Int) (w : World) (hl : left ≤ 1048576) (h0 : 0 ≤ left) (h : WrlAt w 0 w.heap.size v0 v3 v4 v5 v6 v7 v8 v9 W) (hz : WMx W) : Calls Tryz.prog 21 #[.agg #[v0, .int .i64 W.ch.fr, .int .i64 W.ch.to, v3, v4, v5, v6, v7, v8, v9], .int .i64 left] w (SzPost left (WLn W ∧ WSm W) w) := by
  have H := Lib.hid h
  have Hz := Lib.hid hz
  clear h hz
  have Hb := Lib.hid (Boxed.new w [v0, .int .i64 W.ch.fr, .int .i64 W.ch.to, v3, v4, v5, v6, v7, v8, v9] 57)
  go_enter Tryz.func21, Tryz.ntmps21
  go_wp2_with fail
  refine Calls.mono (laws_szChancery v0 W.ch.rg W.ch.fr W.ch.to left _ (by omega) (by omega) (H.out.up (by repeat (first | exact Ext.refl _ | assumption | refine Ext.alloc ?_ _ | refine Ext.drew ?_ | refine Ext.drewN ?_ _ | refine Ext.setCell ?_ (by first | (simp; done) | (simp; omega) | omega) _ | refine Ext.trans ?_ (by assumption)))).rg Hz.out.1) ?_
  rintro e w1 ⟨r0, rfl, hx1, ra0, rb0, rc0⟩
  have Rc0 := Lib.hid rc0
  clear rc0
  have HB1 := Lib.hid (Hb.out.ext hx1)
  have b0 := HB1.out.cell 0 rfl
  have b1 := HB1.out.cell 1 rfl
  have b2 := HB1.out.cell 2 rfl
  have b3 := HB1.out.cell 3 rfl
  have b4 := HB1.out.cell 4 rfl
  have b5 := HB1.out.cell 5 rfl
  have b6 := HB1.out.cell 6 rfl
  have b7 := HB1.out.cell 7 rfl
  have b8 := HB1.out.cell 8 rfl
  have b9 := HB1.out.cell 9 rfl
  have bg := HB1.out.1
  by_cases ng0 : r0 < 0
  case pos =>
    have d0 : decide (r0 < 0) = true := decide_eq_true ng0
    go_wp2_with fail
    go_ret
    exact ⟨-1, rfl, (by repeat (first | exact Ext.refl _ | assumption | refine Ext.alloc ?_ _ | refine Ext.drew ?_ | refine Ext.drewN ?_ _ | refine Ext.setCell ?_ (by first | (simp; done) | (simp; omega) | omega) _ | refine Ext.trans ?_ (by assumption))), by omega, by omega, fun h => absurd h (by omega)⟩
  have d0 : decide (r0 < 0) = false := decide_eq_false ng0
  go_wp2_with fail
  refine Calls.mono (laws_szPeople v3 W.pp.ps v4 W.pp.tm r0 _ (by omega) (by omega) (H.out.up (by repeat (first | exact Ext.refl _ | assumption | refine Ext.alloc ?_ _ | refine Ext.drew ?_ | refine Ext.drewN ?_ _ | refine Ext.setCell ?_ (by first | (simp; done) | (simp; omega) | omega) _ | refine Ext.trans ?_ (by assumption)))).ps (H.out.up (by repeat (first | exact Ext.refl _ | assumption | refine Ext.alloc ?_ _ | refine Ext.drew ?_ | refine Ext.drewN ?_ _ | refine Ext.setCell ?_ (by first | (simp; done) | (simp; omega) | omega) _ | refine Ext.trans ?_ (by assumption)))).tm Hz.out.2.1 Hz.out.2.2.1) ?_
  rintro e w2 ⟨r1, rfl, hx2, ra1, rb1, rc1⟩
  have Rc1 := Lib.hid rc1
  clear rc1
  clear b0 b1 b2 b3 b4 b5 b6 b7 b8 b9 bg
  have HB2 := Lib.hid (HB1.out.ext hx2)
  have b0 := HB2.out.cell 0 rfl
  have b1 := HB2.out.cell 1 rfl
  have b2 := HB2.out.cell 2 rfl
  have b3 := HB2.out.cell 3 rfl
  have b4 := HB2.out.cell 4 rfl
  have b5 := HB2.out.cell 5 rfl
  have b6 := HB2.out.cell 6 rfl
  have b7 := HB2.out.cell 7 rfl
  have b8 := HB2.out.cell 8 rfl
  have b9 := HB2.out.cell 9 rfl
  have bg := HB2.out.1
  by_cases ng1 : r1 < 0
  case pos =>
    have d1 : decide (r1 < 0) = true := decide_eq_true ng1
    go_wp2_with fail
    go_ret
    exact ⟨-1, rfl, (by repeat (first | exact Ext.refl _ | assumption | refine Ext.alloc ?_ _ | refine Ext.drew ?_ | refine Ext.drewN ?_ _ | refine Ext.setCell ?_ (by first | (simp; done) | (simp; omega) | omega) _ | refine Ext.trans ?_ (by assumption))), by omega, by omega, fun h => absurd h (by omega)⟩
  have d1 : decide (r1 < 0) = false := decide_eq_false ng1
  go_wp2_with fail
  refine Calls.mono (laws_szLand v5 W.ld.pl v6 W.ld.wy r1 _ (by omega) (by omega) (H.out.up (by repeat (first | exact Ext.refl _ | assumption | refine Ext.alloc ?_ _ | refine Ext.drew ?_ | refine Ext.drewN ?_ _ | refine Ext.setCell ?_ (by first | (simp; done) | (simp; omega) | omega) _ | refine Ext.trans ?_ (by assumption)))).pl (H.out.up (by repeat (first | exact Ext.refl _ | assumption | refine Ext.alloc ?_ _ | refine Ext.drew ?_ | refine Ext.drewN ?_ _ | refine Ext.setCell ?_ (by first | (simp; done) | (simp; omega) | omega) _ | refine Ext.trans ?_ (by assumption)))).wy Hz.out.2.2.2.1) ?_
  rintro e w3 ⟨r2, rfl, hx3, ra2, rb2, rc2⟩
  have Rc2 := Lib.hid rc2
  clear rc2
  clear b0 b1 b2 b3 b4 b5 b6 b7 b8 b9 bg
  have HB3 := Lib.hid (HB2.out.ext hx3)
  have b0 := HB3.out.cell 0 rfl
  have b1 := HB3.out.cell 1 rfl
  have b2 := HB3.out.cell 2 rfl
  have b3 := HB3.out.cell 3 rfl
  have b4 := HB3.out.cell 4 rfl
  have b5 := HB3.out.cell 5 rfl
  have b6 := HB3.out.cell 6 rfl
  have b7 := HB3.out.cell 7 rfl
  have b8 := HB3.out.cell 8 rfl
  have b9 := HB3.out.cell 9 rfl
  have bg := HB3.out.1
  by_cases ng2 : r2 < 0
  case pos =>
    have d2 : decide (r2 < 0) = true := decide_eq_true ng2
    go_wp2_with fail
    go_ret
    exact ⟨-1, rfl, (by repeat (first | exact Ext.refl _ | assumption | refine Ext.alloc ?_ _ | refine Ext.drew ?_ | refine Ext.drewN ?_ _ | refine Ext.setCell ?_ (by first | (simp; done) | (simp; omega) | omega) _ | refine Ext.trans ?_ (by assumption))), by omega, by omega, fun h => absurd h (by omega)⟩
  have d2 : decide (r2 < 0) = false := decide_eq_false ng2
  go_wp2_with fail
  refine Calls.mono (laws_szStayS v7 W.st r2 _ (by omega) (by omega) (H.out.up (by repeat (first | exact Ext.refl _ | assumption | refine Ext.alloc ?_ _ | refine Ext.drew ?_ | refine Ext.drewN ?_ _ | refine Ext.setCell ?_ (by first | (simp; done) | (simp; omega) | omega) _ | refine Ext.trans ?_ (by assumption)))).st) ?_
  rintro e w4 ⟨r3, rfl, hx4, ra3, rb3, rc3⟩
  have Rc3 := Lib.hid rc3
  clear rc3
  clear b0 b1 b2 b3 b4 b5 b6 b7 b8 b9 bg
  have HB4 := Lib.hid (HB3.out.ext hx4)
  have b0 := HB4.out.cell 0 rfl
  have b1 := HB4.out.cell 1 rfl
  have b2 := HB4.out.cell 2 rfl
  have b3 := HB4.out.cell 3 rfl
  have b4 := HB4.out.cell 4 rfl
  have b5 := HB4.out.cell 5 rfl
  have b6 := HB4.out.cell 6 rfl
  have b7 := HB4.out.cell 7 rfl
  have b8 := HB4.out.cell 8 rfl
  have b9 := HB4.out.cell 9 rfl
  have bg := HB4.out.1
  by_cases ng3 : r3 < 0
  case pos =>
    have d3 : decide (r3 < 0) = true := decide_eq_true ng3
    go_wp2_with fail
    go_ret
    exact ⟨-1, rfl, (by repeat (first | exact Ext.refl _ | assumption | refine Ext.alloc ?_ _ | refine Ext.drew ?_ | refine Ext.drewN ?_ _ | refine Ext.setCell ?_ (by first | (simp; done) | (simp; omega) | omega) _ | refine Ext.trans ?_ (by assumption))), by omega, by omega, fun h => absurd h (by omega)⟩
  have d3 : decide (r3 < 0) = false := decide_eq_false ng3
  go_wp2_with fail
  refine Calls.mono (laws_szMarkS v8 W.se r3 _ (by omega) (by omega) (H.out.up (by repeat (first | exact Ext.refl _ | assumption | refine Ext.alloc ?_ _ | refine Ext.drew ?_ | refine Ext.drewN ?_ _ | refine Ext.setCell ?_ (by first | (simp; done) | (simp; omega) | omega) _ | refine Ext.trans ?_ (by assumption)))).se Hz.out.2.2.2.2.1) ?_
  rintro e w5 ⟨r4, rfl, hx5, ra4, rb4, rc4⟩
  have Rc4 := Lib.hid rc4
  clear rc4
  clear b0 b1 b2 b3 b4 b5 b6 b7 b8 b9 bg
  have HB5 := Lib.hid (HB4.out.ext hx5)
  have b0 := HB5.out.cell 0 rfl
  have b1 := HB5.out.cell 1 rfl
  have b2 := HB5.out.cell 2 rfl
  have b3 := HB5.out.cell 3 rfl
  have b4 := HB5.out.cell 4 rfl
  have b5 := HB5.out.cell 5 rfl
  have b6 := HB5.out.cell 6 rfl
  have b7 := HB5.out.cell 7 rfl
  have b8 := HB5.out.cell 8 rfl
  have b9 := HB5.out.cell 9 rfl
  have bg := HB5.out.1
  by_cases ng4 : r4 < 0
  case pos =>
    have d4 : decide (r4 < 0) = true := decide_eq_true ng4
    go_wp2_with fail
    go_ret
    exact ⟨-1, rfl, (by repeat (first | exact Ext.refl _ | assumption | refine Ext.alloc ?_ _ | refine Ext.drew ?_ | refine Ext.drewN ?_ _ | refine Ext.setCell ?_ (by first | (simp; done) | (simp; omega) | omega) _ | refine Ext.trans ?_ (by assumption))), by omega, by omega, fun h => absurd h (by omega)⟩
  have d4 : decide (r4 < 0) = false := decide_eq_false ng4
  go_wp2_with fail
  refine Calls.mono (laws_szMarkS v9 W.ha r4 _ (by omega) (by omega) (H.out.up (by repeat (first | exact Ext.refl _ | assumption | refine Ext.alloc ?_ _ | refine Ext.drew ?_ | refine Ext.drewN ?_ _ | refine Ext.setCell ?_ (by first | (simp; done) | (simp; omega) | omega) _ | refine Ext.trans ?_ (by assumption)))).ha Hz.out.2.2.2.2.2) ?_
  rintro e w6 ⟨r5, rfl, hx6, ra5, rb5, rc5⟩
  have Rc5 := Lib.hid rc5
  clear rc5
  clear b0 b1 b2 b3 b4 b5 b6 b7 b8 b9 bg
  have HB6 := Lib.hid (HB5.out.ext hx6)
  by_cases ng5 : r5 < 0
  case pos =>
    have d5 : decide (r5 < 0) = true := decide_eq_true ng5
    go_wp2_with fail
    go_ret
    exact ⟨-1, rfl, (by repeat (first | exact Ext.refl _ | assumption | refine Ext.alloc ?_ _ | refine Ext.drew ?_ | refine Ext.drewN ?_ _ | refine Ext.setCell ?_ (by first | (simp; done) | (simp; omega) | omega) _ | refine Ext.trans ?_ (by assumption))), by omega, by omega, fun h => absurd h (by omega)⟩
  have d5 : decide (r5 < 0) = false := decide_eq_false ng5
  go_wp2_with fail
  go_ret
  refine ⟨r5, rfl, (by repeat (first | exact Ext.refl _ | assumption | refine Ext.alloc ?_ _ | refine Ext.drew ?_ | refine Ext.drewN ?_ _ | refine Ext.setCell ?_ (by first | (simp; done) | (simp; omega) | omega) _ | refine Ext.trans ?_ (by assumption))), by omega, by omega, fun _ => ?_⟩
  obtain ⟨p1, p2⟩ := Rc0.out (by omega)
  obtain ⟨⟨p3, p4⟩, p5, p6⟩ := Rc1.out (by omega)
  obtain ⟨⟨p7, p8⟩, p9⟩ := Rc2.out (by omega)
  have p10 := Rc3.out (by omega)
  obtain ⟨p11, p12⟩ := Rc4.out (by omega)
  obtain ⟨p13, p14⟩ := Rc5.out (by omega)
  exact ⟨⟨p1, p3, p5, p7, p9, by omega, by omega, by omega⟩, p2, p4, p6, p8, fun i hi => by have := p12 i hi; omega, fun i hi => by have := p14 i hi; omega⟩
set_option maxRecDepth 100000 in
set_option maxHeartbeats 8000000 in
theorem laws_eqWorld (v0 v3 v4 v5 v6 v7 v8 v9 u0 u3 u4 u5 u6 u7 u8 u9 : Value) (W : Wrl) (w : World) (h : WrlAt w 0 w.heap.size v0 v3 v4 v5 v6 v7 v8 v9 W) (k : WrlAt w 0 w.heap.size u0 u3 u4 u5 u6 u7 u8 u9 W) : Calls Tryz.prog 25 #[.agg #[v0, .int .i64 W.ch.fr, .int .i64 W.ch.to, v3, v4, v5, v6, v7, v8, v9], .agg #[u0, .int .i64 W.ch.fr, .int .i64 W.ch.to, u3, u4, u5, u6, u7, u8, u9]] w (RetX (.bool true) w) := by
  have H := Lib.hid h
  have K := Lib.hid k
  clear h k
  have Ha := Lib.hid (Boxed.new w [v0, .int .i64 W.ch.fr, .int .i64 W.ch.to, v3, v4, v5, v6, v7, v8, v9] 72)
  have Hb := Lib.hid (Boxed.new (w.alloc (.cells #[v0, .int .i64 W.ch.fr, .int .i64 W.ch.to, v3, v4, v5, v6, v7, v8, v9] 72)) [u0, .int .i64 W.ch.fr, .int .i64 W.ch.to, u3, u4, u5, u6, u7, u8, u9] 72)
  go_enter Tryz.func25, Tryz.ntmps25
  go_wp2_with fail
  refine Calls.mono (laws_eqChancery v0 W.ch.rg W.ch.fr W.ch.to u0 _ (H.out.up (by repeat (first | exact Ext.refl _ | assumption | refine Ext.alloc ?_ _ | refine Ext.drew ?_ | refine Ext.drewN ?_ _ | refine Ext.setCell ?_ (by first | (simp; done) | (simp; omega) | omega) _ | refine Ext.trans ?_ (by assumption)))).rg (K.out.up (by repeat (first | exact Ext.refl _ | assumption | refine Ext.alloc ?_ _ | refine Ext.drew ?_ | refine Ext.drewN ?_ _ | refine Ext.setCell ?_ (by first | (simp; done) | (simp; omega) | omega) _ | refine Ext.trans ?_ (by assumption)))).rg) ?_
  rintro e w1 ⟨rfl, hx1⟩
  have hb' := Hb.out.ext hx1
  rw [World.size_alloc] at hb'
  have HA1 := Lib.hid ((Ha.out.ext ((Ext.refl _).alloc _)).ext hx1)
  have HB1 := Lib.hid hb'
  clear hb'
  have a0 := HA1.out.cell 0 rfl
  have b0 := HB1.out.cell 0 rfl
  have a1 := HA1.out.cell 1 rfl
  have b1 := HB1.out.cell 1 rfl
  have a2 := HA1.out.cell 2 rfl
  have b2 := HB1.out.cell 2 rfl
  have a3 := HA1.out.cell 3 rfl
  have b3 := HB1.out.cell 3 rfl
  have a4 := HA1.out.cell 4 rfl
  have b4 := HB1.out.cell 4 rfl
  have a5 := HA1.out.cell 5 rfl
  have b5 := HB1.out.cell 5 rfl
  have a6 := HA1.out.cell 6 rfl
  have b6 := HB1.out.cell 6 rfl
  have a7 := HA1.out.cell 7 rfl
  have b7 := HB1.out.cell 7 rfl
  have a8 := HA1.out.cell 8 rfl
  have b8 := HB1.out.cell 8 rfl
  have a9 := HA1.out.cell 9 rfl
  have b9 := HB1.out.cell 9 rfl
  have ag := HA1.out.1
  have bg := HB1.out.1
  go_wp2_with fail
  refine Calls.mono (laws_eqPeople v3 W.pp.ps v4 W.pp.tm u3 u4 _ (H.out.up (by repeat (first | exact Ext.refl _ | assumption | refine Ext.alloc ?_ _ | refine Ext.drew ?_ | refine Ext.drewN ?_ _ | refine Ext.setCell ?_ (by first | (simp; done) | (simp; omega) | omega) _ | refine Ext.trans ?_ (by assumption)))).ps (K.out.up (by repeat (first | exact Ext.refl _ | assumption | refine Ext.alloc ?_ _ | refine Ext.drew ?_ | refine Ext.drewN ?_ _ | refine Ext.setCell ?_ (by first | (simp; done) | (simp; omega) | omega) _ | refine Ext.trans ?_ (by assumption)))).ps (H.out.up (by repeat (first | exact Ext.refl _ | assumption | refine Ext.alloc ?_ _ | refine Ext.drew ?_ | refine Ext.drewN ?_ _ | refine Ext.setCell ?_ (by first | (simp; done) | (simp; omega) | omega) _ | refine Ext.trans ?_ (by assumption)))).tm (K.out.up (by repeat (first | exact Ext.refl _ | assumption | refine Ext.alloc ?_ _ | refine Ext.drew ?_ | refine Ext.drewN ?_ _ | refine Ext.setCell ?_ (by first | (simp; done) | (simp; omega) | omega) _ | refine Ext.trans ?_ (by assumption)))).tm) ?_
  rintro e w2 ⟨rfl, hx2⟩
  clear a0 b0 a1 b1 a2 b2 a3 b3 a4 b4 a5 b5 a6 b6 a7 b7 a8 b8 a9 b9 ag bg
  have HA2 := Lib.hid (HA1.out.ext hx2)
  have HB2 := Lib.hid (HB1.out.ext hx2)
  have a0 := HA2.out.cell 0 rfl
  have b0 := HB2.out.cell 0 rfl
  have a1 := HA2.out.cell 1 rfl
  have b1 := HB2.out.cell 1 rfl
  have a2 := HA2.out.cell 2 rfl
  have b2 := HB2.out.cell 2 rfl
  have a3 := HA2.out.cell 3 rfl
  have b3 := HB2.out.cell 3 rfl
  have a4 := HA2.out.cell 4 rfl
  have b4 := HB2.out.cell 4 rfl
  have a5 := HA2.out.cell 5 rfl
  have b5 := HB2.out.cell 5 rfl
  have a6 := HA2.out.cell 6 rfl
  have b6 := HB2.out.cell 6 rfl
  have a7 := HA2.out.cell 7 rfl
  have b7 := HB2.out.cell 7 rfl
  have a8 := HA2.out.cell 8 rfl
  have b8 := HB2.out.cell 8 rfl
  have a9 := HA2.out.cell 9 rfl
  have b9 := HB2.out.cell 9 rfl
  have ag := HA2.out.1
  have bg := HB2.out.1
  go_wp2_with fail
  refine Calls.mono (laws_eqLand v5 W.ld.pl v6 W.ld.wy u5 u6 _ (H.out.up (by repeat (first | exact Ext.refl _ | assumption | refine Ext.alloc ?_ _ | refine Ext.drew ?_ | refine Ext.drewN ?_ _ | refine Ext.setCell ?_ (by first | (simp; done) | (simp; omega) | omega) _ | refine Ext.trans ?_ (by assumption)))).pl (K.out.up (by repeat (first | exact Ext.refl _ | assumption | refine Ext.alloc ?_ _ | refine Ext.drew ?_ | refine Ext.drewN ?_ _ | refine Ext.setCell ?_ (by first | (simp; done) | (simp; omega) | omega) _ | refine Ext.trans ?_ (by assumption)))).pl (H.out.up (by repeat (first | exact Ext.refl _ | assumption | refine Ext.alloc ?_ _ | refine Ext.drew ?_ | refine Ext.drewN ?_ _ | refine Ext.setCell ?_ (by first | (simp; done) | (simp; omega) | omega) _ | refine Ext.trans ?_ (by assumption)))).wy (K.out.up (by repeat (first | exact Ext.refl _ | assumption | refine Ext.alloc ?_ _ | refine Ext.drew ?_ | refine Ext.drewN ?_ _ | refine Ext.setCell ?_ (by first | (simp; done) | (simp; omega) | omega) _ | refine Ext.trans ?_ (by assumption)))).wy) ?_
  rintro e w3 ⟨rfl, hx3⟩
  clear a0 b0 a1 b1 a2 b2 a3 b3 a4 b4 a5 b5 a6 b6 a7 b7 a8 b8 a9 b9 ag bg
  have HA3 := Lib.hid (HA2.out.ext hx3)
  have HB3 := Lib.hid (HB2.out.ext hx3)
  have a0 := HA3.out.cell 0 rfl
  have b0 := HB3.out.cell 0 rfl
  have a1 := HA3.out.cell 1 rfl
  have b1 := HB3.out.cell 1 rfl
  have a2 := HA3.out.cell 2 rfl
  have b2 := HB3.out.cell 2 rfl
  have a3 := HA3.out.cell 3 rfl
  have b3 := HB3.out.cell 3 rfl
  have a4 := HA3.out.cell 4 rfl
  have b4 := HB3.out.cell 4 rfl
  have a5 := HA3.out.cell 5 rfl
  have b5 := HB3.out.cell 5 rfl
  have a6 := HA3.out.cell 6 rfl
  have b6 := HB3.out.cell 6 rfl
  have a7 := HA3.out.cell 7 rfl
  have b7 := HB3.out.cell 7 rfl
  have a8 := HA3.out.cell 8 rfl
  have b8 := HB3.out.cell 8 rfl
  have a9 := HA3.out.cell 9 rfl
  have b9 := HB3.out.cell 9 rfl
  have ag := HA3.out.1
  have bg := HB3.out.1
  go_wp2_with fail
  refine Calls.mono (laws_eqStayS v7 u7 W.st _ (H.out.up (by repeat (first | exact Ext.refl _ | assumption | refine Ext.alloc ?_ _ | refine Ext.drew ?_ | refine Ext.drewN ?_ _ | refine Ext.setCell ?_ (by first | (simp; done) | (simp; omega) | omega) _ | refine Ext.trans ?_ (by assumption)))).st (K.out.up (by repeat (first | exact Ext.refl _ | assumption | refine Ext.alloc ?_ _ | refine Ext.drew ?_ | refine Ext.drewN ?_ _ | refine Ext.setCell ?_ (by first | (simp; done) | (simp; omega) | omega) _ | refine Ext.trans ?_ (by assumption)))).st) ?_
  rintro e w4 ⟨rfl, hx4⟩
  clear a0 b0 a1 b1 a2 b2 a3 b3 a4 b4 a5 b5 a6 b6 a7 b7 a8 b8 a9 b9 ag bg
  have HA4 := Lib.hid (HA3.out.ext hx4)
  have HB4 := Lib.hid (HB3.out.ext hx4)
  have a0 := HA4.out.cell 0 rfl
  have b0 := HB4.out.cell 0 rfl
  have a1 := HA4.out.cell 1 rfl
  have b1 := HB4.out.cell 1 rfl
  have a2 := HA4.out.cell 2 rfl
  have b2 := HB4.out.cell 2 rfl
  have a3 := HA4.out.cell 3 rfl
  have b3 := HB4.out.cell 3 rfl
  have a4 := HA4.out.cell 4 rfl
  have b4 := HB4.out.cell 4 rfl
  have a5 := HA4.out.cell 5 rfl
  have b5 := HB4.out.cell 5 rfl
  have a6 := HA4.out.cell 6 rfl
  have b6 := HB4.out.cell 6 rfl
  have a7 := HA4.out.cell 7 rfl
  have b7 := HB4.out.cell 7 rfl
  have a8 := HA4.out.cell 8 rfl
  have b8 := HB4.out.cell 8 rfl
  have a9 := HA4.out.cell 9 rfl
  have b9 := HB4.out.cell 9 rfl
  have ag := HA4.out.1
  have bg := HB4.out.1
  go_wp2_with fail
  refine Calls.mono (laws_eqMarkS v8 u8 W.se _ (H.out.up (by repeat (first | exact Ext.refl _ | assumption | refine Ext.alloc ?_ _ | refine Ext.drew ?_ | refine Ext.drewN ?_ _ | refine Ext.setCell ?_ (by first | (simp; done) | (simp; omega) | omega) _ | refine Ext.trans ?_ (by assumption)))).se (K.out.up (by repeat (first | exact Ext.refl _ | assumption | refine Ext.alloc ?_ _ | refine Ext.drew ?_ | refine Ext.drewN ?_ _ | refine Ext.setCell ?_ (by first | (simp; done) | (simp; omega) | omega) _ | refine Ext.trans ?_ (by assumption)))).se) ?_
  rintro e w5 ⟨rfl, hx5⟩
  clear a0 b0 a1 b1 a2 b2 a3 b3 a4 b4 a5 b5 a6 b6 a7 b7 a8 b8 a9 b9 ag bg
  have HA5 := Lib.hid (HA4.out.ext hx5)
  have HB5 := Lib.hid (HB4.out.ext hx5)
  have a0 := HA5.out.cell 0 rfl
  have b0 := HB5.out.cell 0 rfl
  have a1 := HA5.out.cell 1 rfl
  have b1 := HB5.out.cell 1 rfl
  have a2 := HA5.out.cell 2 rfl
  have b2 := HB5.out.cell 2 rfl
  have a3 := HA5.out.cell 3 rfl
  have b3 := HB5.out.cell 3 rfl
  have a4 := HA5.out.cell 4 rfl
  have b4 := HB5.out.cell 4 rfl
  have a5 := HA5.out.cell 5 rfl
  have b5 := HB5.out.cell 5 rfl
  have a6 := HA5.out.cell 6 rfl
  have b6 := HB5.out.cell 6 rfl
  have a7 := HA5.out.cell 7 rfl
  have b7 := HB5.out.cell 7 rfl
  have a8 := HA5.out.cell 8 rfl
  have b8 := HB5.out.cell 8 rfl
  have a9 := HA5.out.cell 9 rfl
  have b9 := HB5.out.cell 9 rfl
  have ag := HA5.out.1
  have bg := HB5.out.1
  go_wp2_with fail
  refine Calls.mono (laws_eqMarkS v9 u9 W.ha _ (H.out.up (by repeat (first | exact Ext.refl _ | assumption | refine Ext.alloc ?_ _ | refine Ext.drew ?_ | refine Ext.drewN ?_ _ | refine Ext.setCell ?_ (by first | (simp; done) | (simp; omega) | omega) _ | refine Ext.trans ?_ (by assumption)))).ha (K.out.up (by repeat (first | exact Ext.refl _ | assumption | refine Ext.alloc ?_ _ | refine Ext.drew ?_ | refine Ext.drewN ?_ _ | refine Ext.setCell ?_ (by first | (simp; done) | (simp; omega) | omega) _ | refine Ext.trans ?_ (by assumption)))).ha) ?_
  rintro e w6 ⟨rfl, hx6⟩
  clear a0 b0 a1 b1 a2 b2 a3 b3 a4 b4 a5 b5 a6 b6 a7 b7 a8 b8 a9 b9 ag bg
  have HA6 := Lib.hid (HA5.out.ext hx6)
  have HB6 := Lib.hid (HB5.out.ext hx6)
  go_wp2_with fail
  go_ret
  exact ⟨rfl, (by repeat (first | exact Ext.refl _ | assumption | refine Ext.alloc ?_ _ | refine Ext.drew ?_ | refine Ext.drewN ?_ _ | refine Ext.setCell ?_ (by first | (simp; done) | (simp; omega) | omega) _ | refine Ext.trans ?_ (by assumption)))⟩
end Go.Proofs.YtbddkmlfjghllaaGreatDoor

/- The law's own copy of a world: toWorld. (Printed by genKq.py.) -/
namespace Go.Proofs.YtbddkmlfjghllaaGreatDoor
set_option linter.unusedVariables false
set_option linter.unusedSimpArgs false
open Go.RowKit
attribute [local go_sem] cell_onto

theorem Row.setLow {w : World} {lo hi sz n : Nat} {v : Value} {f : Nat → Value} (h : Row w lo hi sz v n f) {p : Addr} (hp : p.block < lo) (u : Value) : Row (w.setCell p u) lo hi sz v n f := by
  obtain ⟨hm, A, c, hv, hc, hr⟩ := h
  refine ⟨hm, A, c, hv, hc, fun hn => ?_⟩
  obtain ⟨b, off, hA, h1, h2, h3⟩ := hr hn
  have hbl := Below.heap_setCell w p u b (by omega)
  exact ⟨b, off, hA, h1, h2, fun i hi => (World.cell?_of_block (w := w) (a := ⟨b, off + i, none⟩) hbl).trans (h3 i hi)⟩
theorem Row.wid {w w' : World} {lo sz n : Nat} {v : Value} {f : Nat → Value} (h : Row w lo w.heap.size sz v n f) (hx : Ext w w') : Row w' lo w'.heap.size sz v n f := (Row.ext h hx (Nat.le_refl _)).mono (Nat.le_refl _) hx.size
/-- the second world is the first but for stores below k -/
def Low (k : Nat) (w w' : World) : Prop := w'.heap.size = w.heap.size ∧ ∀ (lo hi sz n : Nat) (v : Value) (f : Nat → Value), k ≤ lo → Row w lo hi sz v n f → Row w' lo hi sz v n f
theorem Low.refl (k : Nat) (w : World) : Low k w w := ⟨rfl, fun _ _ _ _ _ _ _ h => h⟩
theorem Low.setCell {k : Nat} {a w : World} (h : Low k a w) {p : Addr} (hp : p.block < k) (u : Value) : Low k a (w.setCell p u) := ⟨by rw [World.size_setCell]; exact h.1, fun lo hi sz n v f hk hr => Row.setLow (h.2 lo hi sz n v f hk hr) (by omega) u⟩
theorem Low.row {k m sz n : Nat} {a w : World} {v : Value} {f : Nat → Value} (h : Low k a w) (hr : Row a k a.heap.size sz v n f) (hm : m ≤ k) : Row w m w.heap.size sz v n f := by
  have := h.2 _ _ _ _ _ _ (Nat.le_refl _) hr
  rw [h.1]
  exact this.mono hm (Nat.le_refl _)
theorem Row.sl {w : World} {lo hi sz n : Nat} {v : Value} {f : Nat → Value} (h : Row w lo hi sz v n f) : ∃ A c, v = .slice A n c := by
  obtain ⟨_, A, c, hv, _⟩ := h
  exact ⟨A, c, hv⟩
def NewWorld (W : Wrl) (w : World) (e : Ending) (w' : World) : Prop := ∃ u0 u3 u4 u5 u6 u7 u8 u9, e = .returned (.agg #[u0, .int .i64 W.ch.fr, .int .i64 W.ch.to, u3, u4, u5, u6, u7, u8, u9]) ∧ Ext w w' ∧ WrlAt w' w.heap.size w'.heap.size u0 u3 u4 u5 u6 u7 u8 u9 W
theorem NewWorld.mk {W : Wrl} {w w6 w' : World} {u0 u3 u4 u5 u6 u7 u8 u9 : Value} (L : Low (w.heap.size + 3) w6 w') (hx : Ext w w') (q0 : Nsps w6 (w.heap.size + 3) w6.heap.size u0 W.ch.rg) (q3 : Nsps w6 (w.heap.size + 3) w6.heap.size u3 W.pp.ps) (q4 : Trms w6 (w.heap.size + 3) w6.heap.size u4 W.pp.tm) (q5 : Strs w6 (w.heap.size + 3) w6.heap.size u5 W.ld.pl) (q6 : Wys w6 (w.heap.size + 3) w6.heap.size u6 W.ld.wy) (q7 : Wys w6 (w.heap.size + 3) w6.heap.size u7 W.st) (q8 : Nsps w6 (w.heap.size + 3) w6.heap.size u8 W.se) (q9 : Nsps w6 (w.heap.size + 3) w6.heap.size u9 W.ha) :
    NewWorld W w (.returned (.agg #[u0, .int .i64 W.ch.fr, .int .i64 W.ch.to, u3, u4, u5, u6, u7, u8, u9])) w' :=
  ⟨u0, u3, u4, u5, u6, u7, u8, u9, rfl, hx, L.row q0 (by omega), L.row q3 (by omega), L.row q4 (by omega), L.row q5 (by omega), L.row q6 (by omega), L.row q7 (by omega), L.row q8 (by omega), L.row q9 (by omega)⟩
set_option maxRecDepth 100000 in
set_option maxHeartbeats 8000000 in
theorem laws_toWorld (v0 v3 v4 v5 v6 v7 v8 v9 : Value) (W : Wrl) (w : World) (h : WrlAt w 0 w.heap.size v0 v3 v4 v5 v6 v7 v8 v9 W) (hl : WLn W) : Calls Tryz.prog 23 #[.agg #[v0, .int .i64 W.ch.fr, .int .i64 W.ch.to, v3, v4, v5, v6, v7, v8, v9]] w (NewWorld W w) := by
  have H := Lib.hid h
  have Hl := Lib.hid hl
  clear h hl
  have Ha := Lib.hid (Boxed.new w [v0, .int .i64 W.ch.fr, .int .i64 W.ch.to, v3, v4, v5, v6, v7, v8, v9] 57)
  have Hr := Lib.hid (Boxed.new (w.alloc (.cells #[v0, .int .i64 W.ch.fr, .int .i64 W.ch.to, v3, v4, v5, v6, v7, v8, v9] 57)) [.slice none 0 0, .int .i64 0, .int .i64 0, .slice none 0 0, .slice none 0 0, .slice none 0 0, .slice none 0 0, .slice none 0 0, .slice none 0 0, .slice none 0 0] 72)
  have Ho := Lib.hid (Boxed.new ((w.alloc (.cells #[v0, .int .i64 W.ch.fr, .int .i64 W.ch.to, v3, v4, v5, v6, v7, v8, v9] 57)).alloc (.cells #[.slice none 0 0, .int .i64 0, .int .i64 0, .slice none 0 0, .slice none 0 0, .slice none 0 0, .slice none 0 0, .slice none 0 0, .slice none 0 0, .slice none 0 0] 72)) [.slice none 0 0, .int .i64 0, .int .i64 0, .slice none 0 0, .slice none 0 0, .slice none 0 0, .slice none 0 0, .slice none 0 0, .slice none 0 0, .slice none 0 0] 72)
  go_enter Tryz.func23, Tryz.ntmps23
  go_wp2_with fail
  refine Calls.mono (laws_toChancery v0 W.ch.rg W.ch.fr W.ch.to _ (H.out.up (by repeat (first | exact Ext.refl _ | assumption | refine Ext.alloc ?_ _ | refine Ext.drew ?_ | refine Ext.drewN ?_ _ | refine Ext.setCell ?_ (by first | (simp; done) | (simp; omega) | omega) _ | refine Ext.trans ?_ (by assumption)))).rg Hl.out.1) ?_
  rintro e w1 ⟨y0, rfl, hx1, q0⟩
  have ha' := (Ha.out.ext (((Ext.refl _).alloc _).alloc _)).ext hx1
  have hr' := (Hr.out.ext ((Ext.refl _).alloc _)).ext hx1
  have ho' := Ho.out.ext hx1
  simp only [World.size_alloc] at ha' hr' ho' q0
  have HA1 := Lib.hid ha'
  have HR1 := Lib.hid hr'
  have HO1 := Lib.hid ho'
  clear ha' hr' ho'
  have hxw1 : Ext w w1 := (by repeat (first | exact Ext.refl _ | assumption | refine Ext.alloc ?_ _ | refine Ext.drew ?_ | refine Ext.drewN ?_ _ | refine Ext.setCell ?_ (by first | (simp; done) | (simp; omega) | omega) _ | refine Ext.trans ?_ (by assumption)))
  have sl0 : ∃ A c, y0 = .slice A W.ch.rg.length c := Row.sl q0
  obtain ⟨Y0, C0, rfl⟩ := sl0
  have Q0 := Lib.hid q0
  clear q0
  clear hx1
  have a0 := HA1.out.cell 0 rfl
  have r0 := HR1.out.cell 0 rfl
  have o0 := HO1.out.cell 0 rfl
  have rf0 := HR1.out.fz 0 (by simp)
  have of0 := HO1.out.fz 0 (by simp)
  have a1 := HA1.out.cell 1 rfl
  have r1 := HR1.out.cell 1 rfl
  have o1 := HO1.out.cell 1 rfl
  have rf1 := HR1.out.fz 1 (by simp)
  have of1 := HO1.out.fz 1 (by simp)
  have a2 := HA1.out.cell 2 rfl
  have r2 := HR1.out.cell 2 rfl
  have o2 := HO1.out.cell 2 rfl
  have rf2 := HR1.out.fz 2 (by simp)
  have of2 := HO1.out.fz 2 (by simp)
  have a3 := HA1.out.cell 3 rfl
  have r3 := HR1.out.cell 3 rfl
  have o3 := HO1.out.cell 3 rfl
  have rf3 := HR1.out.fz 3 (by simp)
  have of3 := HO1.out.fz 3 (by simp)
  have a4 := HA1.out.cell 4 rfl
  have r4 := HR1.out.cell 4 rfl
  have o4 := HO1.out.cell 4 rfl
  have rf4 := HR1.out.fz 4 (by simp)
  have of4 := HO1.out.fz 4 (by simp)
  have a5 := HA1.out.cell 5 rfl
  have r5 := HR1.out.cell 5 rfl
  have o5 := HO1.out.cell 5 rfl
  have rf5 := HR1.out.fz 5 (by simp)
  have of5 := HO1.out.fz 5 (by simp)
  have a6 := HA1.out.cell 6 rfl
  have r6 := HR1.out.cell 6 rfl
  have o6 := HO1.out.cell 6 rfl
  have rf6 := HR1.out.fz 6 (by simp)
  have of6 := HO1.out.fz 6 (by simp)
  have a7 := HA1.out.cell 7 rfl
  have r7 := HR1.out.cell 7 rfl
  have o7 := HO1.out.cell 7 rfl
  have rf7 := HR1.out.fz 7 (by simp)
  have of7 := HO1.out.fz 7 (by simp)
  have a8 := HA1.out.cell 8 rfl
  have r8 := HR1.out.cell 8 rfl
  have o8 := HO1.out.cell 8 rfl
  have rf8 := HR1.out.fz 8 (by simp)
  have of8 := HO1.out.fz 8 (by simp)
  have a9 := HA1.out.cell 9 rfl
  have r9 := HR1.out.cell 9 rfl
  have o9 := HO1.out.cell 9 rfl
  have rf9 := HR1.out.fz 9 (by simp)
  have of9 := HO1.out.fz 9 (by simp)
  have ag := HA1.out.1
  have rg := HR1.out.1
  have og := HO1.out.1
  go_wp2_with fail
  have HAs1 := Lib.hid (((HA1.out.setOther (p := ⟨w.heap.size + 2, 0, none⟩) (by show w.heap.size ≠ w.heap.size + 2; omega) (.slice Y0 W.ch.rg.length C0)).setOther (p := ⟨w.heap.size + 2, 1, none⟩) (by show w.heap.size ≠ w.heap.size + 2; omega) (.int .i64 W.ch.fr)).setOther (p := ⟨w.heap.size + 2, 2, none⟩) (by show w.heap.size ≠ w.heap.size + 2; omega) (.int .i64 W.ch.to))
  have HRs1 := Lib.hid (((HR1.out.setOther (p := ⟨w.heap.size + 2, 0, none⟩) (by show w.heap.size + 1 ≠ w.heap.size + 2; omega) (.slice Y0 W.ch.rg.length C0)).setOther (p := ⟨w.heap.size + 2, 1, none⟩) (by show w.heap.size + 1 ≠ w.heap.size + 2; omega) (.int .i64 W.ch.fr)).setOther (p := ⟨w.heap.size + 2, 2, none⟩) (by show w.heap.size + 1 ≠ w.heap.size + 2; omega) (.int .i64 W.ch.to))
  have HOs1 := Lib.hid (((HO1.out.set 0 (.slice Y0 W.ch.rg.length C0) (by simp)).set 1 (.int .i64 W.ch.fr) (by simp)).set 2 (.int .i64 W.ch.to) (by simp))
  have hxs1 : Ext w (((w1.setCell ⟨w.heap.size + 2, 0, none⟩ (.slice Y0 W.ch.rg.length C0)).setCell ⟨w.heap.size + 2, 1, none⟩ (.int .i64 W.ch.fr)).setCell ⟨w.heap.size + 2, 2, none⟩ (.int .i64 W.ch.to)) := (Ext.setCell (Ext.setCell (Ext.setCell hxw1 (p := ⟨w.heap.size + 2, 0, none⟩) (by show w.heap.size ≤ w.heap.size + 2; omega) (.slice Y0 W.ch.rg.length C0)) (p := ⟨w.heap.size + 2, 1, none⟩) (by show w.heap.size ≤ w.heap.size + 2; omega) (.int .i64 W.ch.fr)) (p := ⟨w.heap.size + 2, 2, none⟩) (by show w.heap.size ≤ w.heap.size + 2; omega) (.int .i64 W.ch.to))
  have s0 := Lib.hid (Row.setLow (p := ⟨w.heap.size + 2, 2, none⟩) (Row.setLow (p := ⟨w.heap.size + 2, 1, none⟩) (Row.setLow (p := ⟨w.heap.size + 2, 0, none⟩) Q0.out (by show w.heap.size + 2 < w.heap.size + 3; omega) (.slice Y0 W.ch.rg.length C0)) (by show w.heap.size + 2 < w.heap.size + 3; omega) (.int .i64 W.ch.fr)) (by show w.heap.size + 2 < w.heap.size + 3; omega) (.int .i64 W.ch.to))
  clear Q0
  have Q0 := s0
  clear s0
  have hz1 : (((w1.setCell ⟨w.heap.size + 2, 0, none⟩ (.slice Y0 W.ch.rg.length C0)).setCell ⟨w.heap.size + 2, 1, none⟩ (.int .i64 W.ch.fr)).setCell ⟨w.heap.size + 2, 2, none⟩ (.int .i64 W.ch.to)).heap.size = w1.heap.size := by simp only [World.size_setCell]
  clear a0 r0 o0 rf0 of0 a1 r1 o1 rf1 of1 a2 r2 o2 rf2 of2 a3 r3 o3 rf3 of3 a4 r4 o4 rf4 of4 a5 r5 o5 rf5 of5 a6 r6 o6 rf6 of6 a7 r7 o7 rf7 of7 a8 r8 o8 rf8 of8 a9 r9 o9 rf9 of9 ag rg og
  generalize (((w1.setCell ⟨w.heap.size + 2, 0, none⟩ (.slice Y0 W.ch.rg.length C0)).setCell ⟨w.heap.size + 2, 1, none⟩ (.int .i64 W.ch.fr)).setCell ⟨w.heap.size + 2, 2, none⟩ (.int .i64 W.ch.to)) = w1s at *
  rw [← hz1] at Q0
  clear hz1
  refine Calls.mono (laws_toPeople v3 W.pp.ps v4 W.pp.tm _ (H.out.up hxs1).ps Hl.out.2.1 (H.out.up hxs1).tm Hl.out.2.2.1) ?_
  rintro e w2 ⟨y3, y4, rfl, hx2, q3, q4⟩
  have HA2 := Lib.hid (HAs1.out.ext hx2)
  have HR2 := Lib.hid (HRs1.out.ext hx2)
  have HO2 := Lib.hid (HOs1.out.ext hx2)
  have hxw2 : Ext w w2 := hxs1.trans hx2
  have t0 := Lib.hid (Row.wid Q0.out hx2)
  clear Q0
  have Q0 := t0
  clear t0
  have hsz2 := HOs1.out.1
  have sl3 : ∃ A c, y3 = .slice A W.pp.ps.length c := Row.sl q3
  obtain ⟨Y3, C3, rfl⟩ := sl3
  have q3' : Row w2 (w.heap.size + 3) w2.heap.size _ (.slice Y3 W.pp.ps.length C3) W.pp.ps.length _ := Row.mono q3 (by omega) (Nat.le_refl _)
  have Q3 := Lib.hid q3'
  clear q3 q3'
  have sl4 : ∃ A c, y4 = .slice A W.pp.tm.length c := Row.sl q4
  obtain ⟨Y4, C4, rfl⟩ := sl4
  have q4' : Row w2 (w.heap.size + 3) w2.heap.size _ (.slice Y4 W.pp.tm.length C4) W.pp.tm.length _ := Row.mono q4 (by omega) (Nat.le_refl _)
  have Q4 := Lib.hid q4'
  clear q4 q4'
  clear hx2
  clear hsz2
  have a0 := HA2.out.cell 0 rfl
  have r0 := HR2.out.cell 0 rfl
  have o0 := HO2.out.cell 0 rfl
  have rf0 := HR2.out.fz 0 (by simp)
  have of0 := HO2.out.fz 0 (by simp)
  have a1 := HA2.out.cell 1 rfl
  have r1 := HR2.out.cell 1 rfl
  have o1 := HO2.out.cell 1 rfl
  have rf1 := HR2.out.fz 1 (by simp)
  have of1 := HO2.out.fz 1 (by simp)
  have a2 := HA2.out.cell 2 rfl
  have r2 := HR2.out.cell 2 rfl
  have o2 := HO2.out.cell 2 rfl
  have rf2 := HR2.out.fz 2 (by simp)
  have of2 := HO2.out.fz 2 (by simp)
  have a3 := HA2.out.cell 3 rfl
  have r3 := HR2.out.cell 3 rfl
  have o3 := HO2.out.cell 3 rfl
  have rf3 := HR2.out.fz 3 (by simp)
  have of3 := HO2.out.fz 3 (by simp)
  have a4 := HA2.out.cell 4 rfl
  have r4 := HR2.out.cell 4 rfl
  have o4 := HO2.out.cell 4 rfl
  have rf4 := HR2.out.fz 4 (by simp)
  have of4 := HO2.out.fz 4 (by simp)
  have a5 := HA2.out.cell 5 rfl
  have r5 := HR2.out.cell 5 rfl
  have o5 := HO2.out.cell 5 rfl
  have rf5 := HR2.out.fz 5 (by simp)
  have of5 := HO2.out.fz 5 (by simp)
  have a6 := HA2.out.cell 6 rfl
  have r6 := HR2.out.cell 6 rfl
  have o6 := HO2.out.cell 6 rfl
  have rf6 := HR2.out.fz 6 (by simp)
  have of6 := HO2.out.fz 6 (by simp)
  have a7 := HA2.out.cell 7 rfl
  have r7 := HR2.out.cell 7 rfl
  have o7 := HO2.out.cell 7 rfl
  have rf7 := HR2.out.fz 7 (by simp)
  have of7 := HO2.out.fz 7 (by simp)
  have a8 := HA2.out.cell 8 rfl
  have r8 := HR2.out.cell 8 rfl
  have o8 := HO2.out.cell 8 rfl
  have rf8 := HR2.out.fz 8 (by simp)
  have of8 := HO2.out.fz 8 (by simp)
  have a9 := HA2.out.cell 9 rfl
  have r9 := HR2.out.cell 9 rfl
  have o9 := HO2.out.cell 9 rfl
  have rf9 := HR2.out.fz 9 (by simp)
  have of9 := HO2.out.fz 9 (by simp)
  have ag := HA2.out.1
  have rg := HR2.out.1
  have og := HO2.out.1
  go_wp2_with fail
  have HAs2 := Lib.hid ((HA2.out.setOther (p := ⟨w.heap.size + 2, 3, none⟩) (by show w.heap.size ≠ w.heap.size + 2; omega) (.slice Y3 W.pp.ps.length C3)).setOther (p := ⟨w.heap.size + 2, 4, none⟩) (by show w.heap.size ≠ w.heap.size + 2; omega) (.slice Y4 W.pp.tm.length C4))
  have HRs2 := Lib.hid ((HR2.out.setOther (p := ⟨w.heap.size + 2, 3, none⟩) (by show w.heap.size + 1 ≠ w.heap.size + 2; omega) (.slice Y3 W.pp.ps.length C3)).setOther (p := ⟨w.heap.size + 2, 4, none⟩) (by show w.heap.size + 1 ≠ w.heap.size + 2; omega) (.slice Y4 W.pp.tm.length C4))
  have HOs2 := Lib.hid ((HO2.out.set 3 (.slice Y3 W.pp.ps.length C3) (by simp)).set 4 (.slice Y4 W.pp.tm.length C4) (by simp))
  have hxs2 : Ext w ((w2.setCell ⟨w.heap.size + 2, 3, none⟩ (.slice Y3 W.pp.ps.length C3)).setCell ⟨w.heap.size + 2, 4, none⟩ (.slice Y4 W.pp.tm.length C4)) := (Ext.setCell (Ext.setCell hxw2 (p := ⟨w.heap.size + 2, 3, none⟩) (by show w.heap.size ≤ w.heap.size + 2; omega) (.slice Y3 W.pp.ps.length C3)) (p := ⟨w.heap.size + 2, 4, none⟩) (by show w.heap.size ≤ w.heap.size + 2; omega) (.slice Y4 W.pp.tm.length C4))
  have s0 := Lib.hid (Row.setLow (p := ⟨w.heap.size + 2, 4, none⟩) (Row.setLow (p := ⟨w.heap.size + 2, 3, none⟩) Q0.out (by show w.heap.size + 2 < w.heap.size + 3; omega) (.slice Y3 W.pp.ps.length C3)) (by show w.heap.size + 2 < w.heap.size + 3; omega) (.slice Y4 W.pp.tm.length C4))
  clear Q0
  have Q0 := s0
  clear s0
  have s3 := Lib.hid (Row.setLow (p := ⟨w.heap.size + 2, 4, none⟩) (Row.setLow (p := ⟨w.heap.size + 2, 3, none⟩) Q3.out (by show w.heap.size + 2 < w.heap.size + 3; omega) (.slice Y3 W.pp.ps.length C3)) (by show w.heap.size + 2 < w.heap.size + 3; omega) (.slice Y4 W.pp.tm.length C4))
  clear Q3
  have Q3 := s3
  clear s3
  have s4 := Lib.hid (Row.setLow (p := ⟨w.heap.size + 2, 4, none⟩) (Row.setLow (p := ⟨w.heap.size + 2, 3, none⟩) Q4.out (by show w.heap.size + 2 < w.heap.size + 3; omega) (.slice Y3 W.pp.ps.length C3)) (by show w.heap.size + 2 < w.heap.size + 3; omega) (.slice Y4 W.pp.tm.length C4))
  clear Q4
  have Q4 := s4
  clear s4
  have hz2 : ((w2.setCell ⟨w.heap.size + 2, 3, none⟩ (.slice Y3 W.pp.ps.length C3)).setCell ⟨w.heap.size + 2, 4, none⟩ (.slice Y4 W.pp.tm.length C4)).heap.size = w2.heap.size := by simp only [World.size_setCell]
  clear a0 r0 o0 rf0 of0 a1 r1 o1 rf1 of1 a2 r2 o2 rf2 of2 a3 r3 o3 rf3 of3 a4 r4 o4 rf4 of4 a5 r5 o5 rf5 of5 a6 r6 o6 rf6 of6 a7 r7 o7 rf7 of7 a8 r8 o8 rf8 of8 a9 r9 o9 rf9 of9 ag rg og
  generalize ((w2.setCell ⟨w.heap.size + 2, 3, none⟩ (.slice Y3 W.pp.ps.length C3)).setCell ⟨w.heap.size + 2, 4, none⟩ (.slice Y4 W.pp.tm.length C4)) = w2s at *
  rw [← hz2] at Q0
  rw [← hz2] at Q3
  rw [← hz2] at Q4
  clear hz2
  refine Calls.mono (laws_toLand v5 W.ld.pl v6 W.ld.wy _ (H.out.up hxs2).pl Hl.out.2.2.2.1 (H.out.up hxs2).wy Hl.out.2.2.2.2.1) ?_
  rintro e w3 ⟨y5, y6, rfl, hx3, q5, q6⟩
  have HA3 := Lib.hid (HAs2.out.ext hx3)
  have HR3 := Lib.hid (HRs2.out.ext hx3)
  have HO3 := Lib.hid (HOs2.out.ext hx3)
  have hxw3 : Ext w w3 := hxs2.trans hx3
  have t0 := Lib.hid (Row.wid Q0.out hx3)
  clear Q0
  have Q0 := t0
  clear t0
  have t3 := Lib.hid (Row.wid Q3.out hx3)
  clear Q3
  have Q3 := t3
  clear t3
  have t4 := Lib.hid (Row.wid Q4.out hx3)
  clear Q4
  have Q4 := t4
  clear t4
  have hsz3 := HOs2.out.1
  have sl5 : ∃ A c, y5 = .slice A W.ld.pl.length c := Row.sl q5
  obtain ⟨Y5, C5, rfl⟩ := sl5
  have q5' : Row w3 (w.heap.size + 3) w3.heap.size _ (.slice Y5 W.ld.pl.length C5) W.ld.pl.length _ := Row.mono q5 (by omega) (Nat.le_refl _)
  have Q5 := Lib.hid q5'
  clear q5 q5'
  have sl6 : ∃ A c, y6 = .slice A W.ld.wy.length c := Row.sl q6
  obtain ⟨Y6, C6, rfl⟩ := sl6
  have q6' : Row w3 (w.heap.size + 3) w3.heap.size _ (.slice Y6 W.ld.wy.length C6) W.ld.wy.length _ := Row.mono q6 (by omega) (Nat.le_refl _)
  have Q6 := Lib.hid q6'
  clear q6 q6'
  clear hx3
  clear hsz3
  have a0 := HA3.out.cell 0 rfl
  have r0 := HR3.out.cell 0 rfl
  have o0 := HO3.out.cell 0 rfl
  have rf0 := HR3.out.fz 0 (by simp)
  have of0 := HO3.out.fz 0 (by simp)
  have a1 := HA3.out.cell 1 rfl
  have r1 := HR3.out.cell 1 rfl
  have o1 := HO3.out.cell 1 rfl
  have rf1 := HR3.out.fz 1 (by simp)
  have of1 := HO3.out.fz 1 (by simp)
  have a2 := HA3.out.cell 2 rfl
  have r2 := HR3.out.cell 2 rfl
  have o2 := HO3.out.cell 2 rfl
  have rf2 := HR3.out.fz 2 (by simp)
  have of2 := HO3.out.fz 2 (by simp)
  have a3 := HA3.out.cell 3 rfl
  have r3 := HR3.out.cell 3 rfl
  have o3 := HO3.out.cell 3 rfl
  have rf3 := HR3.out.fz 3 (by simp)
  have of3 := HO3.out.fz 3 (by simp)
  have a4 := HA3.out.cell 4 rfl
  have r4 := HR3.out.cell 4 rfl
  have o4 := HO3.out.cell 4 rfl
  have rf4 := HR3.out.fz 4 (by simp)
  have of4 := HO3.out.fz 4 (by simp)
  have a5 := HA3.out.cell 5 rfl
  have r5 := HR3.out.cell 5 rfl
  have o5 := HO3.out.cell 5 rfl
  have rf5 := HR3.out.fz 5 (by simp)
  have of5 := HO3.out.fz 5 (by simp)
  have a6 := HA3.out.cell 6 rfl
  have r6 := HR3.out.cell 6 rfl
  have o6 := HO3.out.cell 6 rfl
  have rf6 := HR3.out.fz 6 (by simp)
  have of6 := HO3.out.fz 6 (by simp)
  have a7 := HA3.out.cell 7 rfl
  have r7 := HR3.out.cell 7 rfl
  have o7 := HO3.out.cell 7 rfl
  have rf7 := HR3.out.fz 7 (by simp)
  have of7 := HO3.out.fz 7 (by simp)
  have a8 := HA3.out.cell 8 rfl
  have r8 := HR3.out.cell 8 rfl
  have o8 := HO3.out.cell 8 rfl
  have rf8 := HR3.out.fz 8 (by simp)
  have of8 := HO3.out.fz 8 (by simp)
  have a9 := HA3.out.cell 9 rfl
  have r9 := HR3.out.cell 9 rfl
  have o9 := HO3.out.cell 9 rfl
  have rf9 := HR3.out.fz 9 (by simp)
  have of9 := HO3.out.fz 9 (by simp)
  have ag := HA3.out.1
  have rg := HR3.out.1
  have og := HO3.out.1
  go_wp2_with fail
  have HAs3 := Lib.hid ((HA3.out.setOther (p := ⟨w.heap.size + 2, 5, none⟩) (by show w.heap.size ≠ w.heap.size + 2; omega) (.slice Y5 W.ld.pl.length C5)).setOther (p := ⟨w.heap.size + 2, 6, none⟩) (by show w.heap.size ≠ w.heap.size + 2; omega) (.slice Y6 W.ld.wy.length C6))
  have HRs3 := Lib.hid ((HR3.out.setOther (p := ⟨w.heap.size + 2, 5, none⟩) (by show w.heap.size + 1 ≠ w.heap.size + 2; omega) (.slice Y5 W.ld.pl.length C5)).setOther (p := ⟨w.heap.size + 2, 6, none⟩) (by show w.heap.size + 1 ≠ w.heap.size + 2; omega) (.slice Y6 W.ld.wy.length C6))
  have HOs3 := Lib.hid ((HO3.out.set 5 (.slice Y5 W.ld.pl.length C5) (by simp)).set 6 (.slice Y6 W.ld.wy.length C6) (by simp))
  have hxs3 : Ext w ((w3.setCell ⟨w.heap.size + 2, 5, none⟩ (.slice Y5 W.ld.pl.length C5)).setCell ⟨w.heap.size + 2, 6, none⟩ (.slice Y6 W.ld.wy.length C6)) := (Ext.setCell (Ext.setCell hxw3 (p := ⟨w.heap.size + 2, 5, none⟩) (by show w.heap.size ≤ w.heap.size + 2; omega) (.slice Y5 W.ld.pl.length C5)) (p := ⟨w.heap.size + 2, 6, none⟩) (by show w.heap.size ≤ w.heap.size + 2; omega) (.slice Y6 W.ld.wy.length C6))
  have s0 := Lib.hid (Row.setLow (p := ⟨w.heap.size + 2, 6, none⟩) (Row.setLow (p := ⟨w.heap.size + 2, 5, none⟩) Q0.out (by show w.heap.size + 2 < w.heap.size + 3; omega) (.slice Y5 W.ld.pl.length C5)) (by show w.heap.size + 2 < w.heap.size + 3; omega) (.slice Y6 W.ld.wy.length C6))
  clear Q0
  have Q0 := s0
  clear s0
  have s3 := Lib.hid (Row.setLow (p := ⟨w.heap.size + 2, 6, none⟩) (Row.setLow (p := ⟨w.heap.size + 2, 5, none⟩) Q3.out (by show w.heap.size + 2 < w.heap.size + 3; omega) (.slice Y5 W.ld.pl.length C5)) (by show w.heap.size + 2 < w.heap.size + 3; omega) (.slice Y6 W.ld.wy.length C6))
  clear Q3
  have Q3 := s3
  clear s3
  have s4 := Lib.hid (Row.setLow (p := ⟨w.heap.size + 2, 6, none⟩) (Row.setLow (p := ⟨w.heap.size + 2, 5, none⟩) Q4.out (by show w.heap.size + 2 < w.heap.size + 3; omega) (.slice Y5 W.ld.pl.length C5)) (by show w.heap.size + 2 < w.heap.size + 3; omega) (.slice Y6 W.ld.wy.length C6))
  clear Q4
  have Q4 := s4
  clear s4
  have s5 := Lib.hid (Row.setLow (p := ⟨w.heap.size + 2, 6, none⟩) (Row.setLow (p := ⟨w.heap.size + 2, 5, none⟩) Q5.out (by show w.heap.size + 2 < w.heap.size + 3; omega) (.slice Y5 W.ld.pl.length C5)) (by show w.heap.size + 2 < w.heap.size + 3; omega) (.slice Y6 W.ld.wy.length C6))
  clear Q5
  have Q5 := s5
  clear s5
  have s6 := Lib.hid (Row.setLow (p := ⟨w.heap.size + 2, 6, none⟩) (Row.setLow (p := ⟨w.heap.size + 2, 5, none⟩) Q6.out (by show w.heap.size + 2 < w.heap.size + 3; omega) (.slice Y5 W.ld.pl.length C5)) (by show w.heap.size + 2 < w.heap.size + 3; omega) (.slice Y6 W.ld.wy.length C6))
  clear Q6
  have Q6 := s6
  clear s6
  have hz3 : ((w3.setCell ⟨w.heap.size + 2, 5, none⟩ (.slice Y5 W.ld.pl.length C5)).setCell ⟨w.heap.size + 2, 6, none⟩ (.slice Y6 W.ld.wy.length C6)).heap.size = w3.heap.size := by simp only [World.size_setCell]
  clear a0 r0 o0 rf0 of0 a1 r1 o1 rf1 of1 a2 r2 o2 rf2 of2 a3 r3 o3 rf3 of3 a4 r4 o4 rf4 of4 a5 r5 o5 rf5 of5 a6 r6 o6 rf6 of6 a7 r7 o7 rf7 of7 a8 r8 o8 rf8 of8 a9 r9 o9 rf9 of9 ag rg og
  generalize ((w3.setCell ⟨w.heap.size + 2, 5, none⟩ (.slice Y5 W.ld.pl.length C5)).setCell ⟨w.heap.size + 2, 6, none⟩ (.slice Y6 W.ld.wy.length C6)) = w3s at *
  rw [← hz3] at Q0
  rw [← hz3] at Q3
  rw [← hz3] at Q4
  rw [← hz3] at Q5
  rw [← hz3] at Q6
  clear hz3
  refine Calls.mono (laws_toStayS v7 W.st 0 _ _ (H.out.up hxs3).st (Nat.le_refl _) Hl.out.2.2.2.2.2.1) ?_
  rintro e w4 ⟨y7, g7, rfl, hx4, hg7, ho7⟩
  have HA4 := Lib.hid (HAs3.out.ext hx4)
  have HR4 := Lib.hid (HRs3.out.ext hx4)
  have HO4 := Lib.hid (HOs3.out.ext hx4)
  have hxw4 : Ext w w4 := hxs3.trans hx4
  have t0 := Lib.hid (Row.wid Q0.out hx4)
  clear Q0
  have Q0 := t0
  clear t0
  have t3 := Lib.hid (Row.wid Q3.out hx4)
  clear Q3
  have Q3 := t3
  clear t3
  have t4 := Lib.hid (Row.wid Q4.out hx4)
  clear Q4
  have Q4 := t4
  clear t4
  have t5 := Lib.hid (Row.wid Q5.out hx4)
  clear Q5
  have Q5 := t5
  clear t5
  have t6 := Lib.hid (Row.wid Q6.out hx4)
  clear Q6
  have Q6 := t6
  clear t6
  have hsz4 := HOs3.out.1
  have q7 : Row w4 (w.heap.size + 3) w4.heap.size 3 y7 W.st.length _ := Own.row ho7 (fun hn => ⟨by have := hg7 hn; omega, ho7.lt hn⟩)
  clear ho7 hg7
  have sl7 : ∃ A c, y7 = .slice A W.st.length c := Row.sl q7
  obtain ⟨Y7, C7, rfl⟩ := sl7
  have Q7 := Lib.hid q7
  clear q7
  clear hx4
  clear hsz4
  have a0 := HA4.out.cell 0 rfl
  have r0 := HR4.out.cell 0 rfl
  have o0 := HO4.out.cell 0 rfl
  have rf0 := HR4.out.fz 0 (by simp)
  have of0 := HO4.out.fz 0 (by simp)
  have a1 := HA4.out.cell 1 rfl
  have r1 := HR4.out.cell 1 rfl
  have o1 := HO4.out.cell 1 rfl
  have rf1 := HR4.out.fz 1 (by simp)
  have of1 := HO4.out.fz 1 (by simp)
  have a2 := HA4.out.cell 2 rfl
  have r2 := HR4.out.cell 2 rfl
  have o2 := HO4.out.cell 2 rfl
  have rf2 := HR4.out.fz 2 (by simp)
  have of2 := HO4.out.fz 2 (by simp)
  have a3 := HA4.out.cell 3 rfl
  have r3 := HR4.out.cell 3 rfl
  have o3 := HO4.out.cell 3 rfl
  have rf3 := HR4.out.fz 3 (by simp)
  have of3 := HO4.out.fz 3 (by simp)
  have a4 := HA4.out.cell 4 rfl
  have r4 := HR4.out.cell 4 rfl
  have o4 := HO4.out.cell 4 rfl
  have rf4 := HR4.out.fz 4 (by simp)
  have of4 := HO4.out.fz 4 (by simp)
  have a5 := HA4.out.cell 5 rfl
  have r5 := HR4.out.cell 5 rfl
  have o5 := HO4.out.cell 5 rfl
  have rf5 := HR4.out.fz 5 (by simp)
  have of5 := HO4.out.fz 5 (by simp)
  have a6 := HA4.out.cell 6 rfl
  have r6 := HR4.out.cell 6 rfl
  have o6 := HO4.out.cell 6 rfl
  have rf6 := HR4.out.fz 6 (by simp)
  have of6 := HO4.out.fz 6 (by simp)
  have a7 := HA4.out.cell 7 rfl
  have r7 := HR4.out.cell 7 rfl
  have o7 := HO4.out.cell 7 rfl
  have rf7 := HR4.out.fz 7 (by simp)
  have of7 := HO4.out.fz 7 (by simp)
  have a8 := HA4.out.cell 8 rfl
  have r8 := HR4.out.cell 8 rfl
  have o8 := HO4.out.cell 8 rfl
  have rf8 := HR4.out.fz 8 (by simp)
  have of8 := HO4.out.fz 8 (by simp)
  have a9 := HA4.out.cell 9 rfl
  have r9 := HR4.out.cell 9 rfl
  have o9 := HO4.out.cell 9 rfl
  have rf9 := HR4.out.fz 9 (by simp)
  have of9 := HO4.out.fz 9 (by simp)
  have ag := HA4.out.1
  have rg := HR4.out.1
  have og := HO4.out.1
  go_wp2_with fail
  have HAs4 := Lib.hid (HA4.out.setOther (p := ⟨w.heap.size + 2, 7, none⟩) (by show w.heap.size ≠ w.heap.size + 2; omega) (.slice Y7 W.st.length C7))
  have HRs4 := Lib.hid (HR4.out.setOther (p := ⟨w.heap.size + 2, 7, none⟩) (by show w.heap.size + 1 ≠ w.heap.size + 2; omega) (.slice Y7 W.st.length C7))
  have HOs4 := Lib.hid (HO4.out.set 7 (.slice Y7 W.st.length C7) (by simp))
  have hxs4 : Ext w (w4.setCell ⟨w.heap.size + 2, 7, none⟩ (.slice Y7 W.st.length C7)) := (Ext.setCell hxw4 (p := ⟨w.heap.size + 2, 7, none⟩) (by show w.heap.size ≤ w.heap.size + 2; omega) (.slice Y7 W.st.length C7))
  have s0 := Lib.hid (Row.setLow (p := ⟨w.heap.size + 2, 7, none⟩) Q0.out (by show w.heap.size + 2 < w.heap.size + 3; omega) (.slice Y7 W.st.length C7))
  clear Q0
  have Q0 := s0
  clear s0
  have s3 := Lib.hid (Row.setLow (p := ⟨w.heap.size + 2, 7, none⟩) Q3.out (by show w.heap.size + 2 < w.heap.size + 3; omega) (.slice Y7 W.st.length C7))
  clear Q3
  have Q3 := s3
  clear s3
  have s4 := Lib.hid (Row.setLow (p := ⟨w.heap.size + 2, 7, none⟩) Q4.out (by show w.heap.size + 2 < w.heap.size + 3; omega) (.slice Y7 W.st.length C7))
  clear Q4
  have Q4 := s4
  clear s4
  have s5 := Lib.hid (Row.setLow (p := ⟨w.heap.size + 2, 7, none⟩) Q5.out (by show w.heap.size + 2 < w.heap.size + 3; omega) (.slice Y7 W.st.length C7))
  clear Q5
  have Q5 := s5
  clear s5
  have s6 := Lib.hid (Row.setLow (p := ⟨w.heap.size + 2, 7, none⟩) Q6.out (by show w.heap.size + 2 < w.heap.size + 3; omega) (.slice Y7 W.st.length C7))
  clear Q6
  have Q6 := s6
  clear s6
  have s7 := Lib.hid (Row.setLow (p := ⟨w.heap.size + 2, 7, none⟩) Q7.out (by show w.heap.size + 2 < w.heap.size + 3; omega) (.slice Y7 W.st.length C7))
  clear Q7
  have Q7 := s7
  clear s7
  have hz4 : (w4.setCell ⟨w.heap.size + 2, 7, none⟩ (.slice Y7 W.st.length C7)).heap.size = w4.heap.size := by simp only [World.size_setCell]
  clear a0 r0 o0 rf0 of0 a1 r1 o1 rf1 of1 a2 r2 o2 rf2 of2 a3 r3 o3 rf3 of3 a4 r4 o4 rf4 of4 a5 r5 o5 rf5 of5 a6 r6 o6 rf6 of6 a7 r7 o7 rf7 of7 a8 r8 o8 rf8 of8 a9 r9 o9 rf9 of9 ag rg og
  generalize (w4.setCell ⟨w.heap.size + 2, 7, none⟩ (.slice Y7 W.st.length C7)) = w4s at *
  rw [← hz4] at Q0
  rw [← hz4] at Q3
  rw [← hz4] at Q4
  rw [← hz4] at Q5
  rw [← hz4] at Q6
  rw [← hz4] at Q7
  clear hz4
  refine Calls.mono (laws_toMarkS v8 W.se 0 _ _ (H.out.up hxs4).se (Nat.le_refl _) Hl.out.2.2.2.2.2.2.1) ?_
  rintro e w5 ⟨y8, g8, rfl, hx5, hg8, ho8⟩
  have HA5 := Lib.hid (HAs4.out.ext hx5)
  have HR5 := Lib.hid (HRs4.out.ext hx5)
  have HO5 := Lib.hid (HOs4.out.ext hx5)
  have hxw5 : Ext w w5 := hxs4.trans hx5
  have t0 := Lib.hid (Row.wid Q0.out hx5)
  clear Q0
  have Q0 := t0
  clear t0
  have t3 := Lib.hid (Row.wid Q3.out hx5)
  clear Q3
  have Q3 := t3
  clear t3
  have t4 := Lib.hid (Row.wid Q4.out hx5)
  clear Q4
  have Q4 := t4
  clear t4
  have t5 := Lib.hid (Row.wid Q5.out hx5)
  clear Q5
  have Q5 := t5
  clear t5
  have t6 := Lib.hid (Row.wid Q6.out hx5)
  clear Q6
  have Q6 := t6
  clear t6
  have t7 := Lib.hid (Row.wid Q7.out hx5)
  clear Q7
  have Q7 := t7
  clear t7
  have hsz5 := HOs4.out.1
  have q8 : Row w5 (w.heap.size + 3) w5.heap.size 3 y8 W.se.length _ := Own.row ho8 (fun hn => ⟨by have := hg8 hn; omega, ho8.lt hn⟩)
  clear ho8 hg8
  have sl8 : ∃ A c, y8 = .slice A W.se.length c := Row.sl q8
  obtain ⟨Y8, C8, rfl⟩ := sl8
  have Q8 := Lib.hid q8
  clear q8
  clear hx5
  clear hsz5
  have a0 := HA5.out.cell 0 rfl
  have r0 := HR5.out.cell 0 rfl
  have o0 := HO5.out.cell 0 rfl
  have rf0 := HR5.out.fz 0 (by simp)
  have of0 := HO5.out.fz 0 (by simp)
  have a1 := HA5.out.cell 1 rfl
  have r1 := HR5.out.cell 1 rfl
  have o1 := HO5.out.cell 1 rfl
  have rf1 := HR5.out.fz 1 (by simp)
  have of1 := HO5.out.fz 1 (by simp)
  have a2 := HA5.out.cell 2 rfl
  have r2 := HR5.out.cell 2 rfl
  have o2 := HO5.out.cell 2 rfl
  have rf2 := HR5.out.fz 2 (by simp)
  have of2 := HO5.out.fz 2 (by simp)
  have a3 := HA5.out.cell 3 rfl
  have r3 := HR5.out.cell 3 rfl
  have o3 := HO5.out.cell 3 rfl
  have rf3 := HR5.out.fz 3 (by simp)
  have of3 := HO5.out.fz 3 (by simp)
  have a4 := HA5.out.cell 4 rfl
  have r4 := HR5.out.cell 4 rfl
  have o4 := HO5.out.cell 4 rfl
  have rf4 := HR5.out.fz 4 (by simp)
  have of4 := HO5.out.fz 4 (by simp)
  have a5 := HA5.out.cell 5 rfl
  have r5 := HR5.out.cell 5 rfl
  have o5 := HO5.out.cell 5 rfl
  have rf5 := HR5.out.fz 5 (by simp)
  have of5 := HO5.out.fz 5 (by simp)
  have a6 := HA5.out.cell 6 rfl
  have r6 := HR5.out.cell 6 rfl
  have o6 := HO5.out.cell 6 rfl
  have rf6 := HR5.out.fz 6 (by simp)
  have of6 := HO5.out.fz 6 (by simp)
  have a7 := HA5.out.cell 7 rfl
  have r7 := HR5.out.cell 7 rfl
  have o7 := HO5.out.cell 7 rfl
  have rf7 := HR5.out.fz 7 (by simp)
  have of7 := HO5.out.fz 7 (by simp)
  have a8 := HA5.out.cell 8 rfl
  have r8 := HR5.out.cell 8 rfl
  have o8 := HO5.out.cell 8 rfl
  have rf8 := HR5.out.fz 8 (by simp)
  have of8 := HO5.out.fz 8 (by simp)
  have a9 := HA5.out.cell 9 rfl
  have r9 := HR5.out.cell 9 rfl
  have o9 := HO5.out.cell 9 rfl
  have rf9 := HR5.out.fz 9 (by simp)
  have of9 := HO5.out.fz 9 (by simp)
  have ag := HA5.out.1
  have rg := HR5.out.1
  have og := HO5.out.1
  go_wp2_with fail
  have HAs5 := Lib.hid (HA5.out.setOther (p := ⟨w.heap.size + 2, 8, none⟩) (by show w.heap.size ≠ w.heap.size + 2; omega) (.slice Y8 W.se.length C8))
  have HRs5 := Lib.hid (HR5.out.setOther (p := ⟨w.heap.size + 2, 8, none⟩) (by show w.heap.size + 1 ≠ w.heap.size + 2; omega) (.slice Y8 W.se.length C8))
  have HOs5 := Lib.hid (HO5.out.set 8 (.slice Y8 W.se.length C8) (by simp))
  have hxs5 : Ext w (w5.setCell ⟨w.heap.size + 2, 8, none⟩ (.slice Y8 W.se.length C8)) := (Ext.setCell hxw5 (p := ⟨w.heap.size + 2, 8, none⟩) (by show w.heap.size ≤ w.heap.size + 2; omega) (.slice Y8 W.se.length C8))
  have s0 := Lib.hid (Row.setLow (p := ⟨w.heap.size + 2, 8, none⟩) Q0.out (by show w.heap.size + 2 < w.heap.size + 3; omega) (.slice Y8 W.se.length C8))
  clear Q0
  have Q0 := s0
  clear s0
  have s3 := Lib.hid (Row.setLow (p := ⟨w.heap.size + 2, 8, none⟩) Q3.out (by show w.heap.size + 2 < w.heap.size + 3; omega) (.slice Y8 W.se.length C8))
  clear Q3
  have Q3 := s3
  clear s3
  have s4 := Lib.hid (Row.setLow (p := ⟨w.heap.size + 2, 8, none⟩) Q4.out (by show w.heap.size + 2 < w.heap.size + 3; omega) (.slice Y8 W.se.length C8))
  clear Q4
  have Q4 := s4
  clear s4
  have s5 := Lib.hid (Row.setLow (p := ⟨w.heap.size + 2, 8, none⟩) Q5.out (by show w.heap.size + 2 < w.heap.size + 3; omega) (.slice Y8 W.se.length C8))
  clear Q5
  have Q5 := s5
  clear s5
  have s6 := Lib.hid (Row.setLow (p := ⟨w.heap.size + 2, 8, none⟩) Q6.out (by show w.heap.size + 2 < w.heap.size + 3; omega) (.slice Y8 W.se.length C8))
  clear Q6
  have Q6 := s6
  clear s6
  have s7 := Lib.hid (Row.setLow (p := ⟨w.heap.size + 2, 8, none⟩) Q7.out (by show w.heap.size + 2 < w.heap.size + 3; omega) (.slice Y8 W.se.length C8))
  clear Q7
  have Q7 := s7
  clear s7
  have s8 := Lib.hid (Row.setLow (p := ⟨w.heap.size + 2, 8, none⟩) Q8.out (by show w.heap.size + 2 < w.heap.size + 3; omega) (.slice Y8 W.se.length C8))
  clear Q8
  have Q8 := s8
  clear s8
  have hz5 : (w5.setCell ⟨w.heap.size + 2, 8, none⟩ (.slice Y8 W.se.length C8)).heap.size = w5.heap.size := by simp only [World.size_setCell]
  clear a0 r0 o0 rf0 of0 a1 r1 o1 rf1 of1 a2 r2 o2 rf2 of2 a3 r3 o3 rf3 of3 a4 r4 o4 rf4 of4 a5 r5 o5 rf5 of5 a6 r6 o6 rf6 of6 a7 r7 o7 rf7 of7 a8 r8 o8 rf8 of8 a9 r9 o9 rf9 of9 ag rg og
  generalize (w5.setCell ⟨w.heap.size + 2, 8, none⟩ (.slice Y8 W.se.length C8)) = w5s at *
  rw [← hz5] at Q0
  rw [← hz5] at Q3
  rw [← hz5] at Q4
  rw [← hz5] at Q5
  rw [← hz5] at Q6
  rw [← hz5] at Q7
  rw [← hz5] at Q8
  clear hz5
  refine Calls.mono (laws_toMarkS v9 W.ha 0 _ _ (H.out.up hxs5).ha (Nat.le_refl _) Hl.out.2.2.2.2.2.2.2) ?_
  rintro e w6 ⟨y9, g9, rfl, hx6, hg9, ho9⟩
  have HA6 := Lib.hid (HAs5.out.ext hx6)
  have HR6 := Lib.hid (HRs5.out.ext hx6)
  have HO6 := Lib.hid (HOs5.out.ext hx6)
  have hxw6 : Ext w w6 := hxs5.trans hx6
  have t0 := Lib.hid (Row.wid Q0.out hx6)
  clear Q0
  have Q0 := t0
  clear t0
  have t3 := Lib.hid (Row.wid Q3.out hx6)
  clear Q3
  have Q3 := t3
  clear t3
  have t4 := Lib.hid (Row.wid Q4.out hx6)
  clear Q4
  have Q4 := t4
  clear t4
  have t5 := Lib.hid (Row.wid Q5.out hx6)
  clear Q5
  have Q5 := t5
  clear t5
  have t6 := Lib.hid (Row.wid Q6.out hx6)
  clear Q6
  have Q6 := t6
  clear t6
  have t7 := Lib.hid (Row.wid Q7.out hx6)
  clear Q7
  have Q7 := t7
  clear t7
  have t8 := Lib.hid (Row.wid Q8.out hx6)
  clear Q8
  have Q8 := t8
  clear t8
  have hsz6 := HOs5.out.1
  have q9 : Row w6 (w.heap.size + 3) w6.heap.size 3 y9 W.ha.length _ := Own.row ho9 (fun hn => ⟨by have := hg9 hn; omega, ho9.lt hn⟩)
  clear ho9 hg9
  have sl9 : ∃ A c, y9 = .slice A W.ha.length c := Row.sl q9
  obtain ⟨Y9, C9, rfl⟩ := sl9
  have Q9 := Lib.hid q9
  clear q9
  clear hx6
  clear hsz6
  have a0 := HA6.out.cell 0 rfl
  have r0 := HR6.out.cell 0 rfl
  have o0 := HO6.out.cell 0 rfl
  have rf0 := HR6.out.fz 0 (by simp)
  have of0 := HO6.out.fz 0 (by simp)
  have a1 := HA6.out.cell 1 rfl
  have r1 := HR6.out.cell 1 rfl
  have o1 := HO6.out.cell 1 rfl
  have rf1 := HR6.out.fz 1 (by simp)
  have of1 := HO6.out.fz 1 (by simp)
  have a2 := HA6.out.cell 2 rfl
  have r2 := HR6.out.cell 2 rfl
  have o2 := HO6.out.cell 2 rfl
  have rf2 := HR6.out.fz 2 (by simp)
  have of2 := HO6.out.fz 2 (by simp)
  have a3 := HA6.out.cell 3 rfl
  have r3 := HR6.out.cell 3 rfl
  have o3 := HO6.out.cell 3 rfl
  have rf3 := HR6.out.fz 3 (by simp)
  have of3 := HO6.out.fz 3 (by simp)
  have a4 := HA6.out.cell 4 rfl
  have r4 := HR6.out.cell 4 rfl
  have o4 := HO6.out.cell 4 rfl
  have rf4 := HR6.out.fz 4 (by simp)
  have of4 := HO6.out.fz 4 (by simp)
  have a5 := HA6.out.cell 5 rfl
  have r5 := HR6.out.cell 5 rfl
  have o5 := HO6.out.cell 5 rfl
  have rf5 := HR6.out.fz 5 (by simp)
  have of5 := HO6.out.fz 5 (by simp)
  have a6 := HA6.out.cell 6 rfl
  have r6 := HR6.out.cell 6 rfl
  have o6 := HO6.out.cell 6 rfl
  have rf6 := HR6.out.fz 6 (by simp)
  have of6 := HO6.out.fz 6 (by simp)
  have a7 := HA6.out.cell 7 rfl
  have r7 := HR6.out.cell 7 rfl
  have o7 := HO6.out.cell 7 rfl
  have rf7 := HR6.out.fz 7 (by simp)
  have of7 := HO6.out.fz 7 (by simp)
  have a8 := HA6.out.cell 8 rfl
  have r8 := HR6.out.cell 8 rfl
  have o8 := HO6.out.cell 8 rfl
  have rf8 := HR6.out.fz 8 (by simp)
  have of8 := HO6.out.fz 8 (by simp)
  have a9 := HA6.out.cell 9 rfl
  have r9 := HR6.out.cell 9 rfl
  have o9 := HO6.out.cell 9 rfl
  have rf9 := HR6.out.fz 9 (by simp)
  have of9 := HO6.out.fz 9 (by simp)
  have ag := HA6.out.1
  have rg := HR6.out.1
  have og := HO6.out.1
  go_wp2_with fail
  refine bodyPost_ret (v := .agg #[.slice Y0 W.ch.rg.length C0, .int .i64 W.ch.fr, .int .i64 W.ch.to, .slice Y3 W.pp.ps.length C3, .slice Y4 W.pp.tm.length C4, .slice Y5 W.ld.pl.length C5, .slice Y6 W.ld.wy.length C6, .slice Y7 W.st.length C7, .slice Y8 W.se.length C8, .slice Y9 W.ha.length C9]) (by simp [results, Tryz.results23, go_sem, *]) rfl (?_ : NewWorld W w _ _)
  refine NewWorld.mk (w6 := w6) ?_ ?_ Q0.out Q3.out Q4.out Q5.out Q6.out Q7.out Q8.out Q9.out
  · repeat (with_reducible refine Low.setCell ?_ (by first | (show w.heap.size + 1 < w.heap.size + 3; omega) | (show w.heap.size + 1 + 1 < w.heap.size + 3; omega)) _)
    with_reducible exact Low.refl _ _
  · repeat (with_reducible refine Ext.setCell ?_ (by first | (show w.heap.size ≤ w.heap.size + _; omega) | (simp; omega)) _)
    with_reducible exact hxw6
end Go.Proofs.YtbddkmlfjghllaaGreatDoor
