/- Contracts: IsWorld, the program's and the reference's. (Printed by genKn.py.) -/
import Derived.Test.YtechbeegbhlppaaGreatDoorS2De
import Derived.Test.YtechbeegbhlppaaGreatDoorS2Km
import Derived.Test.YtechbeegbhlppaaGreatDoorS2Kc
import Derived.Test.YtechbeegbhlppaaGreatDoorS2Qd
namespace Go.Proofs.YtechbeegbhlppaaGreatDoor
set_option linter.unusedVariables false
set_option linter.unusedSimpArgs false
open Go.RowKit
attribute [local go_sem] cell_onto
structure WrlAt (w:World) (lo hi:Nat) (vr vp vt vl vw vs vse vha:Value) (W:Wrl):Prop where
 rg:Nsps w lo hi vr W.ch.rg
 ps:Nsps w lo hi vp W.pp.ps
 tm:Trms w lo hi vt W.pp.tm
 pl:Strs w lo hi vl W.ld.pl
 wy:Wys w lo hi vw W.ld.wy
 st:Wys w lo hi vs W.st
 se:Nsps w lo hi vse W.se
 ha:Nsps w lo hi vha W.ha
theorem WrlAt.up {w w' : World} {vr vp vt vl vw vs vse vha:Value} {W:Wrl} (h:WrlAt w 0 w.heap.size vr vp vt vl vw vs vse vha W) (hx:Ext w w'):WrlAt w' 0 w'.heap.size vr vp vt vl vw vs vse vha W :=
 ⟨h.rg.up hx,h.ps.up hx,h.tm.up hx,h.pl.up hx,h.wy.up hx,h.st.up hx,h.se.up hx,h.ha.up hx⟩
def WSm (W:Wrl):Prop:=NSm W.ch.rg∧NSm W.pp.ps∧(∀ i,i < W.pp.tm.length → (trmAt W.pp.tm i).of.size ≤ 1048576)∧(∀ i,i < W.ld.pl.length → (strAt W.ld.pl i).size ≤ 1048576)∧NSm W.se∧NSm W.ha
theorem Boxed.cell {w:World} {g:Nat} {cs:List Value} (h:Boxed w g cs) (i:Nat) {u:Value} (hu:cs[i]? = some u):w.cell? ⟨g,i,none⟩=some u:=(h.2 i u hu).1
set_option maxRecDepth 100000 in
set_option maxHeartbeats 8000000 in
theorem impl_IsWorld (vr vp vt vl vw vs vse vha:Value) (W:Wrl) (w:World) (h:WrlAt w 0 w.heap.size vr vp vt vl vw vs vse vha W):Calls Tryz.prog 140 #[.agg #[vr,.int .i64 W.ch.fr,.int .i64 W.ch.to,vp,vt,vl,vw,vs,vse,vha]] w (RetX (.bool (B (WrlOk W))) w):=by
 have H:=qh h
 clear h
 obtain ⟨q1,e1⟩:∃ b,B (ChanOk W.ch)=b:=⟨_,rfl⟩
 have Hq1:=qh e1
 clear e1
 obtain ⟨q2,e2⟩:∃ b,B (PplOk W.pp)=b:=⟨_,rfl⟩
 have Hq2:=qh e2
 clear e2
 obtain ⟨q3,e3⟩:∃ b,B (ItiOk W.ld W.st)=b:=⟨_,rfl⟩
 have Hq3:=qh e3
 clear e3
 obtain ⟨q4,e4⟩:∃ b,B (MksOk W.se)=b:=⟨_,rfl⟩
 have Hq4:=qh e4
 clear e4
 obtain ⟨q5,e5⟩:∃ b,B (MksOk W.ha)=b:=⟨_,rfl⟩
 have Hq5:=qh e5
 clear e5
 have Hb:=qh (Boxed.new w [vr,.int .i64 W.ch.fr,.int .i64 W.ch.to,vp,vt,vl,vw,vs,vse,vha] 56)
 go_enter Tryz.func140,Tryz.ntmps140
 go_wp2_with fail
 refine Calls.mono (impl_IsChancery vr W.ch _ (H.out.up exts).rg) ?_
 rintro e w1 ⟨rfl,hx1⟩
 rw [Hq1.out]
 have HB1:=qh (Hb.out.ext hx1)
 have b0:=HB1.out.cell 0 rfl
 have b1:=HB1.out.cell 1 rfl
 have b2:=HB1.out.cell 2 rfl
 have b3:=HB1.out.cell 3 rfl
 have b4:=HB1.out.cell 4 rfl
 have b5:=HB1.out.cell 5 rfl
 have b6:=HB1.out.cell 6 rfl
 have b7:=HB1.out.cell 7 rfl
 have b8:=HB1.out.cell 8 rfl
 have b9:=HB1.out.cell 9 rfl
 have bg:=HB1.out.1
 cases q1 with
 | false =>
  go_wp2_with fail
  go_ret
  exact ⟨ret_bool (B_false (fun h=>absurd (h.1) (B_not.1 Hq1.out))).symm,exts⟩
 | true =>
  go_wp2_with fail
  refine Calls.mono (impl_IsPeople vp vt W.pp _ (H.out.up exts).ps (H.out.up exts).tm) ?_
  rintro e w2 ⟨rfl,hx2⟩
  rw [Hq2.out]
  clear b0 b1 b2 b3 b4 b5 b6 b7 b8 b9 bg
  have HB2:=qh (HB1.out.ext hx2)
  have b0:=HB2.out.cell 0 rfl
  have b1:=HB2.out.cell 1 rfl
  have b2:=HB2.out.cell 2 rfl
  have b3:=HB2.out.cell 3 rfl
  have b4:=HB2.out.cell 4 rfl
  have b5:=HB2.out.cell 5 rfl
  have b6:=HB2.out.cell 6 rfl
  have b7:=HB2.out.cell 7 rfl
  have b8:=HB2.out.cell 8 rfl
  have b9:=HB2.out.cell 9 rfl
  have bg:=HB2.out.1
  cases q2 with
  | false =>
   go_wp2_with fail
   go_ret
   exact ⟨ret_bool (B_false (fun h=>absurd (h.2.1) (B_not.1 Hq2.out))).symm,exts⟩
  | true =>
   go_wp2_with fail
   refine Calls.mono (impl_IsItinerary vl vw vs W.ld W.st _ (H.out.up exts).pl (H.out.up exts).wy (H.out.up exts).st) ?_
   rintro e w3 ⟨rfl,hx3⟩
   rw [Hq3.out]
   clear b0 b1 b2 b3 b4 b5 b6 b7 b8 b9 bg
   have HB3:=qh (HB2.out.ext hx3)
   have b0:=HB3.out.cell 0 rfl
   have b1:=HB3.out.cell 1 rfl
   have b2:=HB3.out.cell 2 rfl
   have b3:=HB3.out.cell 3 rfl
   have b4:=HB3.out.cell 4 rfl
   have b5:=HB3.out.cell 5 rfl
   have b6:=HB3.out.cell 6 rfl
   have b7:=HB3.out.cell 7 rfl
   have b8:=HB3.out.cell 8 rfl
   have b9:=HB3.out.cell 9 rfl
   have bg:=HB3.out.1
   cases q3 with
   | false =>
    go_wp2_with fail
    go_ret
    exact ⟨ret_bool (B_false (fun h=>absurd (h.2.2.1) (B_not.1 Hq3.out))).symm,exts⟩
   | true =>
    go_wp2_with fail
    refine Calls.mono (impl_AreMarks vse W.se _ (H.out.up exts).se) ?_
    rintro e w4 ⟨rfl,hx4⟩
    rw [Hq4.out]
    clear b0 b1 b2 b3 b4 b5 b6 b7 b8 b9 bg
    have HB4:=qh (HB3.out.ext hx4)
    have b0:=HB4.out.cell 0 rfl
    have b1:=HB4.out.cell 1 rfl
    have b2:=HB4.out.cell 2 rfl
    have b3:=HB4.out.cell 3 rfl
    have b4:=HB4.out.cell 4 rfl
    have b5:=HB4.out.cell 5 rfl
    have b6:=HB4.out.cell 6 rfl
    have b7:=HB4.out.cell 7 rfl
    have b8:=HB4.out.cell 8 rfl
    have b9:=HB4.out.cell 9 rfl
    have bg:=HB4.out.1
    cases q4 with
    | false =>
     go_wp2_with fail
     go_ret
     exact ⟨ret_bool (B_false (fun h=>absurd (h.2.2.2.1) (B_not.1 Hq4.out))).symm,exts⟩
    | true =>
     go_wp2_with fail
     refine Calls.mono (impl_AreMarks vha W.ha _ (H.out.up exts).ha) ?_
     rintro e w5 ⟨rfl,hx5⟩
     rw [Hq5.out]
     clear b0 b1 b2 b3 b4 b5 b6 b7 b8 b9 bg
     have HB5:=qh (HB4.out.ext hx5)
     have b0:=HB5.out.cell 0 rfl
     have b1:=HB5.out.cell 1 rfl
     have b2:=HB5.out.cell 2 rfl
     have b3:=HB5.out.cell 3 rfl
     have b4:=HB5.out.cell 4 rfl
     have b5:=HB5.out.cell 5 rfl
     have b6:=HB5.out.cell 6 rfl
     have b7:=HB5.out.cell 7 rfl
     have b8:=HB5.out.cell 8 rfl
     have b9:=HB5.out.cell 9 rfl
     have bg:=HB5.out.1
     cases q5 with
     | false =>
      go_wp2_with fail
      go_ret
      exact ⟨ret_bool (B_false (fun h=>absurd (h.2.2.2.2) (B_not.1 Hq5.out))).symm,exts⟩
     | true =>
      go_wp2_with fail
      go_ret
      exact ⟨ret_bool (B_true ⟨B_iff.1 Hq1.out,B_iff.1 Hq2.out,B_iff.1 Hq3.out,B_iff.1 Hq4.out,B_iff.1 Hq5.out⟩).symm,exts⟩
set_option maxRecDepth 100000 in
set_option maxHeartbeats 8000000 in
theorem spec_IsWorld (vr vp vt vl vw vs vse vha:Value) (W:Wrl) (w:World) (h:WrlAt w 0 w.heap.size vr vp vt vl vw vs vse vha W) (hsm:WSm W):Calls Tryz.prog 136 #[.agg #[vr,.int .i64 W.ch.fr,.int .i64 W.ch.to,vp,vt,vl,vw,vs,vse,vha]] w (RetX (.bool (B (WrlOk W))) w):=by
 have H:=qh h
 clear h
 have Hsm:=qh hsm
 clear hsm
 obtain ⟨q1,e1⟩:∃ b,B (ChanOk W.ch)=b:=⟨_,rfl⟩
 have Hq1:=qh e1
 clear e1
 obtain ⟨q2,e2⟩:∃ b,B (PplOk W.pp)=b:=⟨_,rfl⟩
 have Hq2:=qh e2
 clear e2
 obtain ⟨q3,e3⟩:∃ b,B (ItiOk W.ld W.st)=b:=⟨_,rfl⟩
 have Hq3:=qh e3
 clear e3
 obtain ⟨q4,e4⟩:∃ b,B (MksOk W.se)=b:=⟨_,rfl⟩
 have Hq4:=qh e4
 clear e4
 obtain ⟨q5,e5⟩:∃ b,B (MksOk W.ha)=b:=⟨_,rfl⟩
 have Hq5:=qh e5
 clear e5
 have Hb:=qh (Boxed.new w [vr,.int .i64 W.ch.fr,.int .i64 W.ch.to,vp,vt,vl,vw,vs,vse,vha] 56)
 go_enter Tryz.func136,Tryz.ntmps136
 go_wp2_with fail
 refine Calls.mono (spec_IsChancery vr W.ch _ (H.out.up exts).rg Hsm.out.1) ?_
 rintro e w1 ⟨rfl,hx1⟩
 rw [Hq1.out]
 have HB1:=qh (Hb.out.ext hx1)
 have b0:=HB1.out.cell 0 rfl
 have b1:=HB1.out.cell 1 rfl
 have b2:=HB1.out.cell 2 rfl
 have b3:=HB1.out.cell 3 rfl
 have b4:=HB1.out.cell 4 rfl
 have b5:=HB1.out.cell 5 rfl
 have b6:=HB1.out.cell 6 rfl
 have b7:=HB1.out.cell 7 rfl
 have b8:=HB1.out.cell 8 rfl
 have b9:=HB1.out.cell 9 rfl
 have bg:=HB1.out.1
 cases q1 with
 | false =>
  go_wp2_with fail
  go_ret
  exact ⟨ret_bool (B_false (fun h=>absurd (h.1) (B_not.1 Hq1.out))).symm,exts⟩
 | true =>
  go_wp2_with fail
  refine Calls.mono (spec_IsPeople vp vt W.pp _ (H.out.up exts).ps (H.out.up exts).tm Hsm.out.2.1 Hsm.out.2.2.1) ?_
  rintro e w2 ⟨rfl,hx2⟩
  rw [Hq2.out]
  clear b0 b1 b2 b3 b4 b5 b6 b7 b8 b9 bg
  have HB2:=qh (HB1.out.ext hx2)
  have b0:=HB2.out.cell 0 rfl
  have b1:=HB2.out.cell 1 rfl
  have b2:=HB2.out.cell 2 rfl
  have b3:=HB2.out.cell 3 rfl
  have b4:=HB2.out.cell 4 rfl
  have b5:=HB2.out.cell 5 rfl
  have b6:=HB2.out.cell 6 rfl
  have b7:=HB2.out.cell 7 rfl
  have b8:=HB2.out.cell 8 rfl
  have b9:=HB2.out.cell 9 rfl
  have bg:=HB2.out.1
  cases q2 with
  | false =>
   go_wp2_with fail
   go_ret
   exact ⟨ret_bool (B_false (fun h=>absurd (h.2.1) (B_not.1 Hq2.out))).symm,exts⟩
  | true =>
   go_wp2_with fail
   refine Calls.mono (spec_IsItinerary vl vw vs W.ld W.st _ (H.out.up exts).pl (H.out.up exts).wy (H.out.up exts).st Hsm.out.2.2.2.1) ?_
   rintro e w3 ⟨rfl,hx3⟩
   rw [Hq3.out]
   clear b0 b1 b2 b3 b4 b5 b6 b7 b8 b9 bg
   have HB3:=qh (HB2.out.ext hx3)
   have b0:=HB3.out.cell 0 rfl
   have b1:=HB3.out.cell 1 rfl
   have b2:=HB3.out.cell 2 rfl
   have b3:=HB3.out.cell 3 rfl
   have b4:=HB3.out.cell 4 rfl
   have b5:=HB3.out.cell 5 rfl
   have b6:=HB3.out.cell 6 rfl
   have b7:=HB3.out.cell 7 rfl
   have b8:=HB3.out.cell 8 rfl
   have b9:=HB3.out.cell 9 rfl
   have bg:=HB3.out.1
   cases q3 with
   | false =>
    go_wp2_with fail
    go_ret
    exact ⟨ret_bool (B_false (fun h=>absurd (h.2.2.1) (B_not.1 Hq3.out))).symm,exts⟩
   | true =>
    go_wp2_with fail
    refine Calls.mono (spec_AreMarks vse W.se _ (H.out.up exts).se Hsm.out.2.2.2.2.1) ?_
    rintro e w4 ⟨rfl,hx4⟩
    rw [Hq4.out]
    clear b0 b1 b2 b3 b4 b5 b6 b7 b8 b9 bg
    have HB4:=qh (HB3.out.ext hx4)
    have b0:=HB4.out.cell 0 rfl
    have b1:=HB4.out.cell 1 rfl
    have b2:=HB4.out.cell 2 rfl
    have b3:=HB4.out.cell 3 rfl
    have b4:=HB4.out.cell 4 rfl
    have b5:=HB4.out.cell 5 rfl
    have b6:=HB4.out.cell 6 rfl
    have b7:=HB4.out.cell 7 rfl
    have b8:=HB4.out.cell 8 rfl
    have b9:=HB4.out.cell 9 rfl
    have bg:=HB4.out.1
    cases q4 with
    | false =>
     go_wp2_with fail
     go_ret
     exact ⟨ret_bool (B_false (fun h=>absurd (h.2.2.2.1) (B_not.1 Hq4.out))).symm,exts⟩
    | true =>
     go_wp2_with fail
     refine Calls.mono (spec_AreMarks vha W.ha _ (H.out.up exts).ha Hsm.out.2.2.2.2.2) ?_
     rintro e w5 ⟨rfl,hx5⟩
     rw [Hq5.out]
     clear b0 b1 b2 b3 b4 b5 b6 b7 b8 b9 bg
     have HB5:=qh (HB4.out.ext hx5)
     have b0:=HB5.out.cell 0 rfl
     have b1:=HB5.out.cell 1 rfl
     have b2:=HB5.out.cell 2 rfl
     have b3:=HB5.out.cell 3 rfl
     have b4:=HB5.out.cell 4 rfl
     have b5:=HB5.out.cell 5 rfl
     have b6:=HB5.out.cell 6 rfl
     have b7:=HB5.out.cell 7 rfl
     have b8:=HB5.out.cell 8 rfl
     have b9:=HB5.out.cell 9 rfl
     have bg:=HB5.out.1
     cases q5 with
     | false =>
      go_wp2_with fail
      go_ret
      exact ⟨ret_bool (B_false (fun h=>absurd (h.2.2.2.2) (B_not.1 Hq5.out))).symm,exts⟩
     | true =>
      go_wp2_with fail
      go_ret
      exact ⟨ret_bool (B_true ⟨B_iff.1 Hq1.out,B_iff.1 Hq2.out,B_iff.1 Hq3.out,B_iff.1 Hq4.out,B_iff.1 Hq5.out⟩).symm,exts⟩
end Go.Proofs.YtechbeegbhlppaaGreatDoor
