/- Texts merged (a claim holds at most sixty files): Ko, Kp, Kq, Qo, Qp, Qr, Qt. -/
import Derived.Test.YtechbeegbhlppaaGreatDoorS2Ka
import Derived.Test.YtechbeegbhlppaaGreatDoorS2Kn
import Derived.Test.YtechbeegbhlppaaGreatDoorS2Td
import Derived.Test.YtechbeegbhlppaaGreatDoorS2Jd
import Derived.Test.YtechbeegbhlppaaGreatDoorS2Qi
namespace Go.Proofs.YtechbeegbhlppaaGreatDoor
set_option linter.unusedVariables false
set_option linter.unusedSimpArgs false
open Go.RowKit
attribute [local go_sem] cell_onto
set_option maxHeartbeats 2000000 in
theorem laws_szChancery (v0:Value) (l0:List Nsp) (x1:Int) (x2:Int) (left:Int) (w:World) (hl:left ≤ 1048576) (h0:0 ≤ left) (k0:Nsps w 0 w.heap.size v0 l0) (z0:∀ i,i < l0.length → (nspAt l0 i).nm.size ≤ 9223372036854775807):Calls Tryz.prog 35 #[.agg #[v0,.int .i64 x1,.int .i64 x2],.int .i64 left] w (SzPost left ((l0.length ≤ 1048576∧NSm l0)) w):=by
 have H0:=qh k0
 clear k0
 have Hb:=qh (Boxed.new w [v0,.int .i64 x1,.int .i64 x2] 24)
 go_enter Tryz.func35,Tryz.ntmps35
 go_wp2_with fail
 refine Calls.mono (laws_szReignS v0 l0 left _ (by omega) (by omega) (H0.out.up exts) z0) ?_
 rintro e w1 ⟨r0,rfl,hx1,ra0,rb0,rc0⟩
 have Rc0:=qh rc0
 clear rc0
 by_cases ng0:r0 < 0
 case pos =>
  have d0:decide (r0 < 0)=true:=decide_eq_true ng0
  go_wp2_with fail
  go_ret
  exact ⟨-1,rfl,exts,by omega,by omega,fun h=>absurd h (by omega)⟩
 have d0:decide (r0 < 0)=false:=decide_eq_false ng0
 go_wp2_with fail
 go_ret
 exact ⟨r0,rfl,exts,by omega,by omega,fun _=>(by have q0:=Rc0.out (by omega);exact ⟨by omega,fun i hi=>by have:=q0.2 i hi;omega⟩)⟩
set_option maxHeartbeats 2000000 in
theorem laws_eqChancery (v0:Value) (l0:List Nsp) (x1:Int) (x2:Int) (u0:Value) (w:World) (h0:Nsps w 0 w.heap.size v0 l0) (k0:Nsps w 0 w.heap.size u0 l0):Calls Tryz.prog 56 #[.agg #[v0,.int .i64 x1,.int .i64 x2],.agg #[u0,.int .i64 x1,.int .i64 x2]] w (RetX (.bool true) w):=by
 have H0:=qh h0
 have K0:=qh k0
 clear h0 k0
 have Ha:=qh (Boxed.new w [v0,.int .i64 x1,.int .i64 x2] 45)
 have Hb:=qh (Boxed.new (w.alloc (.cells #[v0,.int .i64 x1,.int .i64 x2] 45)) [u0,.int .i64 x1,.int .i64 x2] 45)
 go_enter Tryz.func56,Tryz.ntmps56
 go_wp2_with fail
 refine Calls.mono (laws_eqReignS v0 u0 l0 _ (H0.out.up exts) (K0.out.up exts)) ?_
 rintro e w1 ⟨rfl,hx1⟩
 have ba:=(Ha.out.ext ((Ext.refl _).alloc _)).ext hx1;have ba0:=ba.at0;have ba1:=ba.at1;have ba2:=ba.at2;have bag:=ba.1;have Hba:=qh ba;clear ba
 have hb' := Hb.out.ext hx1
 rw [World.size_alloc] at hb'
 have bb:=hb'; have bb0:=bb.at0;have bb1:=bb.at1;have bb2:=bb.at2;have bbg:=bb.1;have Hbb:=qh bb;clear bb
 go_wp2_with fail
 go_ret
 exact ⟨rfl,exts⟩
def NewChancery (l0:List Nsp) (x1:Int) (x2:Int) (w:World) (e:Ending) (w' : World):Prop:=∃ y0,e=.returned (.agg #[y0,.int .i64 x1,.int .i64 x2])∧Ext w w' ∧ RowO w' w.heap.size w'.heap.size 3 y0 l0.length (nspCell l0)
set_option maxRecDepth 100000 in
set_option maxHeartbeats 4000000 in
theorem laws_toChancery (v0:Value) (l0:List Nsp) (x1:Int) (x2:Int) (w:World) (h0:Nsps w 0 w.heap.size v0 l0) (s0:l0.length ≤ 1048576):Calls Tryz.prog 45 #[.agg #[v0,.int .i64 x1,.int .i64 x2]] w (NewChancery l0 x1 x2 w):=by
 have H0:=qh h0
 clear h0
 have Ha:=qh (Boxed.new w [v0,.int .i64 x1,.int .i64 x2] 24)
 have Hr:=qh (Boxed.new (w.alloc (.cells #[v0,.int .i64 x1,.int .i64 x2] 24)) [.slice none 0 0,.int .i64 0,.int .i64 0] 45)
 have Ho:=qh (Boxed.new ((w.alloc (.cells #[v0,.int .i64 x1,.int .i64 x2] 24)).alloc (.cells #[.slice none 0 0,.int .i64 0,.int .i64 0] 45)) [.slice none 0 0,.int .i64 0,.int .i64 0] 45)
 go_enter Tryz.func45,Tryz.ntmps45
 go_wp2_with fail
 refine Calls.mono (laws_toReignS v0 l0 0 _ _ (H0.out.up exts) (Nat.le_refl _) s0) ?_
 rintro e w1 ⟨y0,g0,rfl,hx1,hg0,ho0⟩
 obtain ⟨Y0,C0,rfl⟩:=ho0.len
 have ha' := (Ha.out.ext (((Ext.refl _).alloc _).alloc _)).ext hx1
 have hr' := (Hr.out.ext ((Ext.refl _).alloc _)).ext hx1
 have ho' := Ho.out.ext hx1
 simp only [World.size_alloc] at ha' hr' ho' hg0
 have HA1:=qh ha'
 have HR1:=qh hr'
 have HO1:=qh ho'
 clear ha' hr' ho'
 have hxw1:Ext w w1:=exts
 have hgg0:0 < l0.length → w.heap.size+2 < g0:=fun hn=>by have:=hg0 hn;omega
 have O0:=qh ho0
 clear ho0 hg0 hx1
 have a0:=HA1.out.cell 0 rfl
 have r0:=HR1.out.cell 0 rfl
 have o0:=HO1.out.cell 0 rfl
 have rf0:=HR1.out.fz 0 (by simp)
 have of0:=HO1.out.fz 0 (by simp)
 have a1:=HA1.out.cell 1 rfl
 have r1:=HR1.out.cell 1 rfl
 have o1:=HO1.out.cell 1 rfl
 have rf1:=HR1.out.fz 1 (by simp)
 have of1:=HO1.out.fz 1 (by simp)
 have a2:=HA1.out.cell 2 rfl
 have r2:=HR1.out.cell 2 rfl
 have o2:=HO1.out.cell 2 rfl
 have rf2:=HR1.out.fz 2 (by simp)
 have of2:=HO1.out.fz 2 (by simp)
 have ag:=HA1.out.1
 have rg:=HR1.out.1
 have og:=HO1.out.1
 go_wp2_with fail
 refine bodyPost_ret (v:=.agg #[.slice Y0 l0.length C0,.int .i64 x1,.int .i64 x2]) (by simp [results,Tryz.results45,go_sem, *]) rfl ⟨_,rfl,?_,?_⟩
 ·repeat (with_reducible refine Ext.setCell ?_ (by first | (show w.heap.size ≤ w.heap.size+_;omega) | (simp;omega)) _)
  with_reducible exact hxw1
 ·refine RowO.of_own (b:=g0) ?_ (fun hn=>⟨by have:=hgg0 hn;omega,?_⟩)
  ·repeat (with_reducible refine Own.setOther ?_ (fun hn=>by have:=hgg0 hn;first | (show g0 ≠ w.heap.size+_;omega) | (simp;omega)) _)
   with_reducible exact O0.out
  ·have:=O0.out.lt hn
   simp only [World.size_setCell]
   omega
set_option maxHeartbeats 2000000 in
theorem laws_szPeople (v0:Value) (l0:List Nsp) (v1:Value) (l1:List Trm) (left:Int) (w:World) (hl:left ≤ 1048576) (h0:0 ≤ left) (k0:Nsps w 0 w.heap.size v0 l0) (h1:Trms w 0 w.heap.size v1 l1) (z0:∀ i,i < l0.length → (nspAt l0 i).nm.size ≤ 9223372036854775807) (z1:∀ i,i < l1.length → (trmAt l1 i).of.size ≤ 9223372036854775807∧(trmAt l1 i).pe.size ≤ 9223372036854775807):Calls Tryz.prog 36 #[.agg #[v0,v1],.int .i64 left] w (SzPost left ((l0.length ≤ 1048576∧NSm l0)∧(l1.length ≤ 1048576∧∀ i,i < l1.length → (trmAt l1 i).of.size ≤ 1048576)) w):=by
 have H0:=qh k0
 clear k0
 have H1:=qh h1
 clear h1
 have Hb:=qh (Boxed.new w [v0,v1] 28)
 go_enter Tryz.func36,Tryz.ntmps36
 go_wp2_with fail
 refine Calls.mono (laws_szPersonS v0 l0 left _ (by omega) (by omega) (H0.out.up exts) z0) ?_
 rintro e w1 ⟨r0,rfl,hx1,ra0,rb0,rc0⟩
 have Rc0:=qh rc0
 clear rc0
 by_cases ng0:r0 < 0
 case pos =>
  have d0:decide (r0 < 0)=true:=decide_eq_true ng0
  go_wp2_with fail
  go_ret
  exact ⟨-1,rfl,exts,by omega,by omega,fun h=>absurd h (by omega)⟩
 have d0:decide (r0 < 0)=false:=decide_eq_false ng0
 have bx:=Hb.out.ext hx1;have bx0:=bx.at0;have bx1:=bx.at1;have bxg:=bx.1;have Hbx:=qh bx;clear bx
 go_wp2_with fail
 refine Calls.mono (laws_szTermS v1 l1 r0 _ (by omega) (by omega) (H1.out.up exts) z1) ?_
 rintro e w2 ⟨r1,rfl,hx2,ra1,rb1,rc1⟩
 have Rc1:=qh rc1
 clear rc1
 by_cases ng1:r1 < 0
 case pos =>
  have d1:decide (r1 < 0)=true:=decide_eq_true ng1
  go_wp2_with fail
  go_ret
  exact ⟨-1,rfl,exts,by omega,by omega,fun h=>absurd h (by omega)⟩
 have d1:decide (r1 < 0)=false:=decide_eq_false ng1
 go_wp2_with fail
 go_ret
 exact ⟨r1,rfl,exts,by omega,by omega,fun _=>⟨(by have q0:=Rc0.out (by omega);exact ⟨by omega,fun i hi=>by have:=q0.2 i hi;omega⟩),(by have q1:=Rc1.out (by omega);exact ⟨by omega,fun i hi=>by have:=(q1.2 i hi).1;omega⟩)⟩⟩
set_option maxHeartbeats 2000000 in
theorem laws_eqPeople (v0:Value) (l0:List Nsp) (v1:Value) (l1:List Trm) (u0:Value) (u1:Value) (w:World) (h0:Nsps w 0 w.heap.size v0 l0) (k0:Nsps w 0 w.heap.size u0 l0) (h1:Trms w 0 w.heap.size v1 l1) (k1:Trms w 0 w.heap.size u1 l1):Calls Tryz.prog 57 #[.agg #[v0,v1],.agg #[u0,u1]] w (RetX (.bool true) w):=by
 have H0:=qh h0
 have K0:=qh k0
 clear h0 k0
 have H1:=qh h1
 have K1:=qh k1
 clear h1 k1
 have Ha:=qh (Boxed.new w [v0,v1] 49)
 have Hb:=qh (Boxed.new (w.alloc (.cells #[v0,v1] 49)) [u0,u1] 49)
 go_enter Tryz.func57,Tryz.ntmps57
 go_wp2_with fail
 refine Calls.mono (laws_eqPersonS v0 u0 l0 _ (H0.out.up exts) (K0.out.up exts)) ?_
 rintro e w1 ⟨rfl,hx1⟩
 have ba:=(Ha.out.ext ((Ext.refl _).alloc _)).ext hx1;have ba0:=ba.at0;have ba1:=ba.at1;have bag:=ba.1;have Hba:=qh ba;clear ba
 have hb' := Hb.out.ext hx1
 rw [World.size_alloc] at hb'
 have bb:=hb'; have bb0:=bb.at0;have bb1:=bb.at1;have bbg:=bb.1;have Hbb:=qh bb;clear bb
 go_wp2_with fail
 refine Calls.mono (laws_eqTermS v1 u1 l1 _ (H1.out.up exts) (K1.out.up exts)) ?_
 rintro e w2 ⟨rfl,hx2⟩
 go_wp2_with fail
 go_ret
 exact ⟨rfl,exts⟩
def NewPeople (l0:List Nsp) (l1:List Trm) (w:World) (e:Ending) (w' : World):Prop:=∃ y0 y1,e=.returned (.agg #[y0,y1])∧Ext w w' ∧ RowO w' w.heap.size w'.heap.size 3 y0 l0.length (nspCell l0)∧RowO w' w.heap.size w'.heap.size 4 y1 l1.length (trmCell l1)
set_option maxRecDepth 100000 in
set_option maxHeartbeats 4000000 in
theorem laws_toPeople (v0:Value) (l0:List Nsp) (v1:Value) (l1:List Trm) (w:World) (h0:Nsps w 0 w.heap.size v0 l0) (s0:l0.length ≤ 1048576) (h1:Trms w 0 w.heap.size v1 l1) (s1:l1.length ≤ 1048576):Calls Tryz.prog 46 #[.agg #[v0,v1]] w (NewPeople l0 l1 w):=by
 have H0:=qh h0
 clear h0
 have H1:=qh h1
 clear h1
 have Ha:=qh (Boxed.new w [v0,v1] 28)
 have Hr:=qh (Boxed.new (w.alloc (.cells #[v0,v1] 28)) [.slice none 0 0,.slice none 0 0] 49)
 have Ho:=qh (Boxed.new ((w.alloc (.cells #[v0,v1] 28)).alloc (.cells #[.slice none 0 0,.slice none 0 0] 49)) [.slice none 0 0,.slice none 0 0] 49)
 go_enter Tryz.func46,Tryz.ntmps46
 go_wp2_with fail
 refine Calls.mono (laws_toPersonS v0 l0 0 _ _ (H0.out.up exts) (Nat.le_refl _) s0) ?_
 rintro e w1 ⟨y0,g0,rfl,hx1,hg0,ho0⟩
 obtain ⟨Y0,C0,rfl⟩:=ho0.len
 have ha' := (Ha.out.ext (((Ext.refl _).alloc _).alloc _)).ext hx1
 have hr' := (Hr.out.ext ((Ext.refl _).alloc _)).ext hx1
 have ho' := Ho.out.ext hx1
 simp only [World.size_alloc] at ha' hr' ho' hg0
 have HA1:=qh ha'
 have HR1:=qh hr'
 have HO1:=qh ho'
 clear ha' hr' ho'
 have hxw1:Ext w w1:=exts
 have hgg0:0 < l0.length → w.heap.size+2 < g0:=fun hn=>by have:=hg0 hn;omega
 have O0:=qh ho0
 clear ho0 hg0 hx1
 have a0:=HA1.out.cell 0 rfl
 have r0:=HR1.out.cell 0 rfl
 have o0:=HO1.out.cell 0 rfl
 have rf0:=HR1.out.fz 0 (by simp)
 have of0:=HO1.out.fz 0 (by simp)
 have a1:=HA1.out.cell 1 rfl
 have r1:=HR1.out.cell 1 rfl
 have o1:=HO1.out.cell 1 rfl
 have rf1:=HR1.out.fz 1 (by simp)
 have of1:=HO1.out.fz 1 (by simp)
 have ag:=HA1.out.1
 have rg:=HR1.out.1
 have og:=HO1.out.1
 have HAs1:=qh (HA1.out.setOther (p:=⟨w.heap.size+2,0,none⟩) (by show w.heap.size ≠ w.heap.size+2;omega) (.slice Y0 l0.length C0))
 have HRs1:=qh (HR1.out.setOther (p:=⟨w.heap.size+2,0,none⟩) (by show w.heap.size+1 ≠ w.heap.size+2;omega) (.slice Y0 l0.length C0))
 have HOs1:=qh (HO1.out.set 0 (.slice Y0 l0.length C0) (by simp))
 have hxs1:Ext w (w1.setCell ⟨w.heap.size+2,0,none⟩ (.slice Y0 l0.length C0)):=hxw1.setCell (by show w.heap.size ≤ w.heap.size+2;omega) _
 have Os0:=qh (O0.out.setOther (p:=⟨w.heap.size+2,0,none⟩) (fun hn=>by have:=hgg0 hn;show g0 ≠ w.heap.size+2;omega) (.slice Y0 l0.length C0))
 clear O0
 go_wp2_with fail
 clear a0 r0 o0 rf0 of0 a1 r1 o1 rf1 of1 ag rg og
 generalize (w1.setCell ⟨w.heap.size+2,0,none⟩ (.slice Y0 l0.length C0))=w1s at *
 refine Calls.mono (laws_toTermS v1 l1 0 _ _ (H1.out.up hxs1) (Nat.le_refl _) s1) ?_
 rintro e w2 ⟨y1,g1,rfl,hx2,hg1,ho1⟩
 obtain ⟨Y1,C1,rfl⟩:=ho1.len
 have HA2:=qh (HAs1.out.ext hx2)
 have HR2:=qh (HRs1.out.ext hx2)
 have HO2:=qh (HOs1.out.ext hx2)
 have hxw2:Ext w w2:=hxs1.trans hx2
 have hsz2:=HOs1.out.1
 have hgg1:0 < l1.length → w.heap.size+2 < g1:=fun hn=>by have:=hg1 hn;omega
 have O1:=qh ho1
 have O0t:=qh (Os0.out.ext hx2)
 clear Os0
 have O0:=O0t
 clear O0t
 clear ho1 hg1 hx2 hsz2
 have a0:=HA2.out.cell 0 rfl
 have r0:=HR2.out.cell 0 rfl
 have o0:=HO2.out.cell 0 rfl
 have rf0:=HR2.out.fz 0 (by simp)
 have of0:=HO2.out.fz 0 (by simp)
 have a1:=HA2.out.cell 1 rfl
 have r1:=HR2.out.cell 1 rfl
 have o1:=HO2.out.cell 1 rfl
 have rf1:=HR2.out.fz 1 (by simp)
 have of1:=HO2.out.fz 1 (by simp)
 have ag:=HA2.out.1
 have rg:=HR2.out.1
 have og:=HO2.out.1
 go_wp2_with fail
 refine bodyPost_ret (v:=.agg #[.slice Y0 l0.length C0,.slice Y1 l1.length C1]) (by simp [results,Tryz.results46,go_sem, *]) rfl ⟨_,_,rfl,?_,?_,?_⟩
 ·repeat (with_reducible refine Ext.setCell ?_ (by first | (show w.heap.size ≤ w.heap.size+_;omega) | (simp;omega)) _)
  with_reducible exact hxw2
 ·refine RowO.of_own (b:=g0) ?_ (fun hn=>⟨by have:=hgg0 hn;omega,?_⟩)
  ·repeat (with_reducible refine Own.setOther ?_ (fun hn=>by have:=hgg0 hn;first | (show g0 ≠ w.heap.size+_;omega) | (simp;omega)) _)
   with_reducible exact O0.out
  ·have:=O0.out.lt hn
   simp only [World.size_setCell]
   omega
 ·refine RowO.of_own (b:=g1) ?_ (fun hn=>⟨by have:=hgg1 hn;omega,?_⟩)
  ·repeat (with_reducible refine Own.setOther ?_ (fun hn=>by have:=hgg1 hn;first | (show g1 ≠ w.heap.size+_;omega) | (simp;omega)) _)
   with_reducible exact O1.out
  ·have:=O1.out.lt hn
   simp only [World.size_setCell]
   omega
set_option maxHeartbeats 2000000 in
theorem laws_szLand (v0:Value) (l0:List ByteArray) (v1:Value) (l1:List Wy) (left:Int) (w:World) (hl:left ≤ 1048576) (h0:0 ≤ left) (k0:Strs w 0 w.heap.size v0 l0) (h1:Wys w 0 w.heap.size v1 l1) (z0:∀ i,i < l0.length → (strAt l0 i).size ≤ 9223372036854775807):Calls Tryz.prog 37 #[.agg #[v0,v1],.int .i64 left] w (SzPost left ((l0.length ≤ 1048576∧∀ i,i < l0.length → (strAt l0 i).size ≤ 1048576)∧(l1.length ≤ 1048576)) w):=by
 have H0:=qh k0
 clear k0
 have H1:=qh h1
 clear h1
 have Hb:=qh (Boxed.new w [v0,v1] 32)
 go_enter Tryz.func37,Tryz.ntmps37
 go_wp2_with fail
 refine Calls.mono (laws_szStringS v0 l0 left _ (by omega) (by omega) (H0.out.up exts) z0) ?_
 rintro e w1 ⟨r0,rfl,hx1,ra0,rb0,rc0⟩
 have Rc0:=qh rc0
 clear rc0
 by_cases ng0:r0 < 0
 case pos =>
  have d0:decide (r0 < 0)=true:=decide_eq_true ng0
  go_wp2_with fail
  go_ret
  exact ⟨-1,rfl,exts,by omega,by omega,fun h=>absurd h (by omega)⟩
 have d0:decide (r0 < 0)=false:=decide_eq_false ng0
 have bx:=Hb.out.ext hx1;have bx0:=bx.at0;have bx1:=bx.at1;have bxg:=bx.1;have Hbx:=qh bx;clear bx
 go_wp2_with fail
 refine Calls.mono (laws_szWayS v1 l1 r0 _ (by omega) (by omega) (H1.out.up exts)) ?_
 rintro e w2 ⟨r1,rfl,hx2,ra1,rb1,rc1⟩
 have Rc1:=qh rc1
 clear rc1
 by_cases ng1:r1 < 0
 case pos =>
  have d1:decide (r1 < 0)=true:=decide_eq_true ng1
  go_wp2_with fail
  go_ret
  exact ⟨-1,rfl,exts,by omega,by omega,fun h=>absurd h (by omega)⟩
 have d1:decide (r1 < 0)=false:=decide_eq_false ng1
 go_wp2_with fail
 go_ret
 exact ⟨r1,rfl,exts,by omega,by omega,fun _=>⟨(by have q0:=Rc0.out (by omega);exact ⟨by omega,fun i hi=>by have:=q0.2 i hi;omega⟩),(by have q1:=Rc1.out (by omega);exact by omega)⟩⟩
set_option maxHeartbeats 2000000 in
theorem laws_eqLand (v0:Value) (l0:List ByteArray) (v1:Value) (l1:List Wy) (u0:Value) (u1:Value) (w:World) (h0:Strs w 0 w.heap.size v0 l0) (k0:Strs w 0 w.heap.size u0 l0) (h1:Wys w 0 w.heap.size v1 l1) (k1:Wys w 0 w.heap.size u1 l1):Calls Tryz.prog 58 #[.agg #[v0,v1],.agg #[u0,u1]] w (RetX (.bool true) w):=by
 have H0:=qh h0
 have K0:=qh k0
 clear h0 k0
 have H1:=qh h1
 have K1:=qh k1
 clear h1 k1
 have Ha:=qh (Boxed.new w [v0,v1] 52)
 have Hb:=qh (Boxed.new (w.alloc (.cells #[v0,v1] 52)) [u0,u1] 52)
 go_enter Tryz.func58,Tryz.ntmps58
 go_wp2_with fail
 refine Calls.mono (laws_eqStringS v0 u0 l0 _ (H0.out.up exts) (K0.out.up exts)) ?_
 rintro e w1 ⟨rfl,hx1⟩
 have ba:=(Ha.out.ext ((Ext.refl _).alloc _)).ext hx1;have ba0:=ba.at0;have ba1:=ba.at1;have bag:=ba.1;have Hba:=qh ba;clear ba
 have hb' := Hb.out.ext hx1
 rw [World.size_alloc] at hb'
 have bb:=hb'; have bb0:=bb.at0;have bb1:=bb.at1;have bbg:=bb.1;have Hbb:=qh bb;clear bb
 go_wp2_with fail
 refine Calls.mono (laws_eqWayS v1 u1 l1 _ (H1.out.up exts) (K1.out.up exts)) ?_
 rintro e w2 ⟨rfl,hx2⟩
 go_wp2_with fail
 go_ret
 exact ⟨rfl,exts⟩
def NewLand (l0:List ByteArray) (l1:List Wy) (w:World) (e:Ending) (w' : World):Prop:=∃ y0 y1,e=.returned (.agg #[y0,y1])∧Ext w w' ∧ RowO w' w.heap.size w'.heap.size 1 y0 l0.length (strCell l0)∧RowO w' w.heap.size w'.heap.size 3 y1 l1.length (wyCell l1)
set_option maxRecDepth 100000 in
set_option maxHeartbeats 4000000 in
theorem laws_toLand (v0:Value) (l0:List ByteArray) (v1:Value) (l1:List Wy) (w:World) (h0:Strs w 0 w.heap.size v0 l0) (s0:l0.length ≤ 1048576) (h1:Wys w 0 w.heap.size v1 l1) (s1:l1.length ≤ 1048576):Calls Tryz.prog 47 #[.agg #[v0,v1]] w (NewLand l0 l1 w):=by
 have H0:=qh h0
 clear h0
 have H1:=qh h1
 clear h1
 have Ha:=qh (Boxed.new w [v0,v1] 32)
 have Hr:=qh (Boxed.new (w.alloc (.cells #[v0,v1] 32)) [.slice none 0 0,.slice none 0 0] 52)
 have Ho:=qh (Boxed.new ((w.alloc (.cells #[v0,v1] 32)).alloc (.cells #[.slice none 0 0,.slice none 0 0] 52)) [.slice none 0 0,.slice none 0 0] 52)
 go_enter Tryz.func47,Tryz.ntmps47
 go_wp2_with fail
 refine Calls.mono (laws_toStringS v0 l0 0 _ _ (H0.out.up exts) (Nat.le_refl _) s0) ?_
 rintro e w1 ⟨y0,g0,rfl,hx1,hg0,ho0⟩
 obtain ⟨Y0,C0,rfl⟩:=ho0.len
 have ha' := (Ha.out.ext (((Ext.refl _).alloc _).alloc _)).ext hx1
 have hr' := (Hr.out.ext ((Ext.refl _).alloc _)).ext hx1
 have ho' := Ho.out.ext hx1
 simp only [World.size_alloc] at ha' hr' ho' hg0
 have HA1:=qh ha'
 have HR1:=qh hr'
 have HO1:=qh ho'
 clear ha' hr' ho'
 have hxw1:Ext w w1:=exts
 have hgg0:0 < l0.length → w.heap.size+2 < g0:=fun hn=>by have:=hg0 hn;omega
 have O0:=qh ho0
 clear ho0 hg0 hx1
 have a0:=HA1.out.cell 0 rfl
 have r0:=HR1.out.cell 0 rfl
 have o0:=HO1.out.cell 0 rfl
 have rf0:=HR1.out.fz 0 (by simp)
 have of0:=HO1.out.fz 0 (by simp)
 have a1:=HA1.out.cell 1 rfl
 have r1:=HR1.out.cell 1 rfl
 have o1:=HO1.out.cell 1 rfl
 have rf1:=HR1.out.fz 1 (by simp)
 have of1:=HO1.out.fz 1 (by simp)
 have ag:=HA1.out.1
 have rg:=HR1.out.1
 have og:=HO1.out.1
 have HAs1:=qh (HA1.out.setOther (p:=⟨w.heap.size+2,0,none⟩) (by show w.heap.size ≠ w.heap.size+2;omega) (.slice Y0 l0.length C0))
 have HRs1:=qh (HR1.out.setOther (p:=⟨w.heap.size+2,0,none⟩) (by show w.heap.size+1 ≠ w.heap.size+2;omega) (.slice Y0 l0.length C0))
 have HOs1:=qh (HO1.out.set 0 (.slice Y0 l0.length C0) (by simp))
 have hxs1:Ext w (w1.setCell ⟨w.heap.size+2,0,none⟩ (.slice Y0 l0.length C0)):=hxw1.setCell (by show w.heap.size ≤ w.heap.size+2;omega) _
 have Os0:=qh (O0.out.setOther (p:=⟨w.heap.size+2,0,none⟩) (fun hn=>by have:=hgg0 hn;show g0 ≠ w.heap.size+2;omega) (.slice Y0 l0.length C0))
 clear O0
 go_wp2_with fail
 clear a0 r0 o0 rf0 of0 a1 r1 o1 rf1 of1 ag rg og
 generalize (w1.setCell ⟨w.heap.size+2,0,none⟩ (.slice Y0 l0.length C0))=w1s at *
 refine Calls.mono (laws_toWayS v1 l1 0 _ _ (H1.out.up hxs1) (Nat.le_refl _) s1) ?_
 rintro e w2 ⟨y1,g1,rfl,hx2,hg1,ho1⟩
 obtain ⟨Y1,C1,rfl⟩:=ho1.len
 have HA2:=qh (HAs1.out.ext hx2)
 have HR2:=qh (HRs1.out.ext hx2)
 have HO2:=qh (HOs1.out.ext hx2)
 have hxw2:Ext w w2:=hxs1.trans hx2
 have hsz2:=HOs1.out.1
 have hgg1:0 < l1.length → w.heap.size+2 < g1:=fun hn=>by have:=hg1 hn;omega
 have O1:=qh ho1
 have O0t:=qh (Os0.out.ext hx2)
 clear Os0
 have O0:=O0t
 clear O0t
 clear ho1 hg1 hx2 hsz2
 have a0:=HA2.out.cell 0 rfl
 have r0:=HR2.out.cell 0 rfl
 have o0:=HO2.out.cell 0 rfl
 have rf0:=HR2.out.fz 0 (by simp)
 have of0:=HO2.out.fz 0 (by simp)
 have a1:=HA2.out.cell 1 rfl
 have r1:=HR2.out.cell 1 rfl
 have o1:=HO2.out.cell 1 rfl
 have rf1:=HR2.out.fz 1 (by simp)
 have of1:=HO2.out.fz 1 (by simp)
 have ag:=HA2.out.1
 have rg:=HR2.out.1
 have og:=HO2.out.1
 go_wp2_with fail
 refine bodyPost_ret (v:=.agg #[.slice Y0 l0.length C0,.slice Y1 l1.length C1]) (by simp [results,Tryz.results47,go_sem, *]) rfl ⟨_,_,rfl,?_,?_,?_⟩
 ·repeat (with_reducible refine Ext.setCell ?_ (by first | (show w.heap.size ≤ w.heap.size+_;omega) | (simp;omega)) _)
  with_reducible exact hxw2
 ·refine RowO.of_own (b:=g0) ?_ (fun hn=>⟨by have:=hgg0 hn;omega,?_⟩)
  ·repeat (with_reducible refine Own.setOther ?_ (fun hn=>by have:=hgg0 hn;first | (show g0 ≠ w.heap.size+_;omega) | (simp;omega)) _)
   with_reducible exact O0.out
  ·have:=O0.out.lt hn
   simp only [World.size_setCell]
   omega
 ·refine RowO.of_own (b:=g1) ?_ (fun hn=>⟨by have:=hgg1 hn;omega,?_⟩)
  ·repeat (with_reducible refine Own.setOther ?_ (fun hn=>by have:=hgg1 hn;first | (show g1 ≠ w.heap.size+_;omega) | (simp;omega)) _)
   with_reducible exact O1.out
  ·have:=O1.out.lt hn
   simp only [World.size_setCell]
   omega
def WMx (W:Wrl):Prop:=(∀ i,i < W.ch.rg.length → (nspAt W.ch.rg i).nm.size ≤ 9223372036854775807)∧(∀ i,i < W.pp.ps.length → (nspAt W.pp.ps i).nm.size ≤ 9223372036854775807)∧(∀ i,i < W.pp.tm.length → (trmAt W.pp.tm i).of.size ≤ 9223372036854775807∧(trmAt W.pp.tm i).pe.size ≤ 9223372036854775807)∧(∀ i,i < W.ld.pl.length → (strAt W.ld.pl i).size ≤ 9223372036854775807)∧(∀ i,i < W.se.length → (nspAt W.se i).nm.size ≤ 9223372036854775807)∧(∀ i,i < W.ha.length → (nspAt W.ha i).nm.size ≤ 9223372036854775807)
def WLn (W:Wrl):Prop:=W.ch.rg.length ≤ 1048576∧W.pp.ps.length ≤ 1048576∧W.pp.tm.length ≤ 1048576∧W.ld.pl.length ≤ 1048576∧W.ld.wy.length ≤ 1048576∧W.st.length ≤ 1048576∧W.se.length ≤ 1048576∧W.ha.length ≤ 1048576
set_option maxRecDepth 100000 in
set_option maxHeartbeats 8000000 in
theorem laws_szWorld (v0 v3 v4 v5 v6 v7 v8 v9:Value) (W:Wrl) (left:Int) (w:World) (hl:left ≤ 1048576) (h0:0 ≤ left) (h:WrlAt w 0 w.heap.size v0 v3 v4 v5 v6 v7 v8 v9 W) (hz:WMx W):Calls Tryz.prog 8 #[.agg #[v0,.int .i64 W.ch.fr,.int .i64 W.ch.to,v3,v4,v5,v6,v7,v8,v9],.int .i64 left] w (SzPost left (WLn W∧WSm W) w):=by
 have H:=qh h
 have Hz:=qh hz
 clear h hz
 have Hb:=qh (Boxed.new w [v0,.int .i64 W.ch.fr,.int .i64 W.ch.to,v3,v4,v5,v6,v7,v8,v9] 36)
 go_enter Tryz.func8,Tryz.ntmps8
 go_wp2_with fail
 refine Calls.mono (laws_szChancery v0 W.ch.rg W.ch.fr W.ch.to left _ (by omega) (by omega) (H.out.up exts).rg Hz.out.1) ?_
 rintro e w1 ⟨r0,rfl,hx1,ra0,rb0,rc0⟩
 have Rc0:=qh rc0
 clear rc0
 have HB1:=qh (Hb.out.ext hx1)
 have b0:=HB1.out.cell 0 rfl
 have b1:=HB1.out.cell 1 rfl
 have b2:=HB1.out.cell 2 rfl
 have b3:=HB1.out.cell 3 rfl
 have b4:=HB1.out.cell 4 rfl
 have b5:=HB1.out.cell 5 rfl
 have b6:=HB1.out.cell 6 rfl
 have b7:=HB1.out.cell 7 rfl
 have b8:=HB1.out.cell 8 rfl
 have b9:=HB1.out.cell 9 rfl
 have bg:=HB1.out.1
 by_cases ng0:r0 < 0
 case pos =>
  have d0:decide (r0 < 0)=true:=decide_eq_true ng0
  go_wp2_with fail
  go_ret
  exact ⟨-1,rfl,exts,by omega,by omega,fun h=>absurd h (by omega)⟩
 have d0:decide (r0 < 0)=false:=decide_eq_false ng0
 go_wp2_with fail
 refine Calls.mono (laws_szPeople v3 W.pp.ps v4 W.pp.tm r0 _ (by omega) (by omega) (H.out.up exts).ps (H.out.up exts).tm Hz.out.2.1 Hz.out.2.2.1) ?_
 rintro e w2 ⟨r1,rfl,hx2,ra1,rb1,rc1⟩
 have Rc1:=qh rc1
 clear rc1
 clear b0 b1 b2 b3 b4 b5 b6 b7 b8 b9 bg
 have HB2:=qh (HB1.out.ext hx2)
 have b0:=HB2.out.cell 0 rfl
 have b1:=HB2.out.cell 1 rfl
 have b2:=HB2.out.cell 2 rfl
 have b3:=HB2.out.cell 3 rfl
 have b4:=HB2.out.cell 4 rfl
 have b5:=HB2.out.cell 5 rfl
 have b6:=HB2.out.cell 6 rfl
 have b7:=HB2.out.cell 7 rfl
 have b8:=HB2.out.cell 8 rfl
 have b9:=HB2.out.cell 9 rfl
 have bg:=HB2.out.1
 by_cases ng1:r1 < 0
 case pos =>
  have d1:decide (r1 < 0)=true:=decide_eq_true ng1
  go_wp2_with fail
  go_ret
  exact ⟨-1,rfl,exts,by omega,by omega,fun h=>absurd h (by omega)⟩
 have d1:decide (r1 < 0)=false:=decide_eq_false ng1
 go_wp2_with fail
 refine Calls.mono (laws_szLand v5 W.ld.pl v6 W.ld.wy r1 _ (by omega) (by omega) (H.out.up exts).pl (H.out.up exts).wy Hz.out.2.2.2.1) ?_
 rintro e w3 ⟨r2,rfl,hx3,ra2,rb2,rc2⟩
 have Rc2:=qh rc2
 clear rc2
 clear b0 b1 b2 b3 b4 b5 b6 b7 b8 b9 bg
 have HB3:=qh (HB2.out.ext hx3)
 have b0:=HB3.out.cell 0 rfl
 have b1:=HB3.out.cell 1 rfl
 have b2:=HB3.out.cell 2 rfl
 have b3:=HB3.out.cell 3 rfl
 have b4:=HB3.out.cell 4 rfl
 have b5:=HB3.out.cell 5 rfl
 have b6:=HB3.out.cell 6 rfl
 have b7:=HB3.out.cell 7 rfl
 have b8:=HB3.out.cell 8 rfl
 have b9:=HB3.out.cell 9 rfl
 have bg:=HB3.out.1
 by_cases ng2:r2 < 0
 case pos =>
  have d2:decide (r2 < 0)=true:=decide_eq_true ng2
  go_wp2_with fail
  go_ret
  exact ⟨-1,rfl,exts,by omega,by omega,fun h=>absurd h (by omega)⟩
 have d2:decide (r2 < 0)=false:=decide_eq_false ng2
 go_wp2_with fail
 refine Calls.mono (laws_szStayS v7 W.st r2 _ (by omega) (by omega) (H.out.up exts).st) ?_
 rintro e w4 ⟨r3,rfl,hx4,ra3,rb3,rc3⟩
 have Rc3:=qh rc3
 clear rc3
 clear b0 b1 b2 b3 b4 b5 b6 b7 b8 b9 bg
 have HB4:=qh (HB3.out.ext hx4)
 have b0:=HB4.out.cell 0 rfl
 have b1:=HB4.out.cell 1 rfl
 have b2:=HB4.out.cell 2 rfl
 have b3:=HB4.out.cell 3 rfl
 have b4:=HB4.out.cell 4 rfl
 have b5:=HB4.out.cell 5 rfl
 have b6:=HB4.out.cell 6 rfl
 have b7:=HB4.out.cell 7 rfl
 have b8:=HB4.out.cell 8 rfl
 have b9:=HB4.out.cell 9 rfl
 have bg:=HB4.out.1
 by_cases ng3:r3 < 0
 case pos =>
  have d3:decide (r3 < 0)=true:=decide_eq_true ng3
  go_wp2_with fail
  go_ret
  exact ⟨-1,rfl,exts,by omega,by omega,fun h=>absurd h (by omega)⟩
 have d3:decide (r3 < 0)=false:=decide_eq_false ng3
 go_wp2_with fail
 refine Calls.mono (laws_szMarkS v8 W.se r3 _ (by omega) (by omega) (H.out.up exts).se Hz.out.2.2.2.2.1) ?_
 rintro e w5 ⟨r4,rfl,hx5,ra4,rb4,rc4⟩
 have Rc4:=qh rc4
 clear rc4
 clear b0 b1 b2 b3 b4 b5 b6 b7 b8 b9 bg
 have HB5:=qh (HB4.out.ext hx5)
 have b0:=HB5.out.cell 0 rfl
 have b1:=HB5.out.cell 1 rfl
 have b2:=HB5.out.cell 2 rfl
 have b3:=HB5.out.cell 3 rfl
 have b4:=HB5.out.cell 4 rfl
 have b5:=HB5.out.cell 5 rfl
 have b6:=HB5.out.cell 6 rfl
 have b7:=HB5.out.cell 7 rfl
 have b8:=HB5.out.cell 8 rfl
 have b9:=HB5.out.cell 9 rfl
 have bg:=HB5.out.1
 by_cases ng4:r4 < 0
 case pos =>
  have d4:decide (r4 < 0)=true:=decide_eq_true ng4
  go_wp2_with fail
  go_ret
  exact ⟨-1,rfl,exts,by omega,by omega,fun h=>absurd h (by omega)⟩
 have d4:decide (r4 < 0)=false:=decide_eq_false ng4
 go_wp2_with fail
 refine Calls.mono (laws_szMarkS v9 W.ha r4 _ (by omega) (by omega) (H.out.up exts).ha Hz.out.2.2.2.2.2) ?_
 rintro e w6 ⟨r5,rfl,hx6,ra5,rb5,rc5⟩
 have Rc5:=qh rc5
 clear rc5
 clear b0 b1 b2 b3 b4 b5 b6 b7 b8 b9 bg
 have HB6:=qh (HB5.out.ext hx6)
 by_cases ng5:r5 < 0
 case pos =>
  have d5:decide (r5 < 0)=true:=decide_eq_true ng5
  go_wp2_with fail
  go_ret
  exact ⟨-1,rfl,exts,by omega,by omega,fun h=>absurd h (by omega)⟩
 have d5:decide (r5 < 0)=false:=decide_eq_false ng5
 go_wp2_with fail
 go_ret
 refine ⟨r5,rfl,exts,by omega,by omega,fun _=>?_⟩
 obtain ⟨p1,p2⟩:=Rc0.out (by omega)
 obtain ⟨⟨p3,p4⟩,p5,p6⟩:=Rc1.out (by omega)
 obtain ⟨⟨p7,p8⟩,p9⟩:=Rc2.out (by omega)
 have p10:=Rc3.out (by omega)
 obtain ⟨p11,p12⟩:=Rc4.out (by omega)
 obtain ⟨p13,p14⟩:=Rc5.out (by omega)
 exact ⟨⟨p1,p3,p5,p7,p9,by omega,by omega,by omega⟩,p2,p4,p6,p8,fun i hi=>by have:=p12 i hi;omega,fun i hi=>by have:=p14 i hi;omega⟩
set_option maxRecDepth 100000 in
set_option maxHeartbeats 8000000 in
theorem laws_eqWorld (v0 v3 v4 v5 v6 v7 v8 v9 u0 u3 u4 u5 u6 u7 u8 u9:Value) (W:Wrl) (w:World) (h:WrlAt w 0 w.heap.size v0 v3 v4 v5 v6 v7 v8 v9 W) (k:WrlAt w 0 w.heap.size u0 u3 u4 u5 u6 u7 u8 u9 W):Calls Tryz.prog 15 #[.agg #[v0,.int .i64 W.ch.fr,.int .i64 W.ch.to,v3,v4,v5,v6,v7,v8,v9],.agg #[u0,.int .i64 W.ch.fr,.int .i64 W.ch.to,u3,u4,u5,u6,u7,u8,u9]] w (RetX (.bool true) w):=by
 have H:=qh h
 have K:=qh k
 clear h k
 have Ha:=qh (Boxed.new w [v0,.int .i64 W.ch.fr,.int .i64 W.ch.to,v3,v4,v5,v6,v7,v8,v9] 56)
 have Hb:=qh (Boxed.new (w.alloc (.cells #[v0,.int .i64 W.ch.fr,.int .i64 W.ch.to,v3,v4,v5,v6,v7,v8,v9] 56)) [u0,.int .i64 W.ch.fr,.int .i64 W.ch.to,u3,u4,u5,u6,u7,u8,u9] 56)
 go_enter Tryz.func15,Tryz.ntmps15
 go_wp2_with fail
 refine Calls.mono (laws_eqChancery v0 W.ch.rg W.ch.fr W.ch.to u0 _ (H.out.up exts).rg (K.out.up exts).rg) ?_
 rintro e w1 ⟨rfl,hx1⟩
 have hb' := Hb.out.ext hx1
 rw [World.size_alloc] at hb'
 have HA1:=qh ((Ha.out.ext ((Ext.refl _).alloc _)).ext hx1)
 have HB1:=qh hb'
 clear hb'
 have a0:=HA1.out.cell 0 rfl
 have b0:=HB1.out.cell 0 rfl
 have a1:=HA1.out.cell 1 rfl
 have b1:=HB1.out.cell 1 rfl
 have a2:=HA1.out.cell 2 rfl
 have b2:=HB1.out.cell 2 rfl
 have a3:=HA1.out.cell 3 rfl
 have b3:=HB1.out.cell 3 rfl
 have a4:=HA1.out.cell 4 rfl
 have b4:=HB1.out.cell 4 rfl
 have a5:=HA1.out.cell 5 rfl
 have b5:=HB1.out.cell 5 rfl
 have a6:=HA1.out.cell 6 rfl
 have b6:=HB1.out.cell 6 rfl
 have a7:=HA1.out.cell 7 rfl
 have b7:=HB1.out.cell 7 rfl
 have a8:=HA1.out.cell 8 rfl
 have b8:=HB1.out.cell 8 rfl
 have a9:=HA1.out.cell 9 rfl
 have b9:=HB1.out.cell 9 rfl
 have ag:=HA1.out.1
 have bg:=HB1.out.1
 go_wp2_with fail
 refine Calls.mono (laws_eqPeople v3 W.pp.ps v4 W.pp.tm u3 u4 _ (H.out.up exts).ps (K.out.up exts).ps (H.out.up exts).tm (K.out.up exts).tm) ?_
 rintro e w2 ⟨rfl,hx2⟩
 clear a0 b0 a1 b1 a2 b2 a3 b3 a4 b4 a5 b5 a6 b6 a7 b7 a8 b8 a9 b9 ag bg
 have HA2:=qh (HA1.out.ext hx2)
 have HB2:=qh (HB1.out.ext hx2)
 have a0:=HA2.out.cell 0 rfl
 have b0:=HB2.out.cell 0 rfl
 have a1:=HA2.out.cell 1 rfl
 have b1:=HB2.out.cell 1 rfl
 have a2:=HA2.out.cell 2 rfl
 have b2:=HB2.out.cell 2 rfl
 have a3:=HA2.out.cell 3 rfl
 have b3:=HB2.out.cell 3 rfl
 have a4:=HA2.out.cell 4 rfl
 have b4:=HB2.out.cell 4 rfl
 have a5:=HA2.out.cell 5 rfl
 have b5:=HB2.out.cell 5 rfl
 have a6:=HA2.out.cell 6 rfl
 have b6:=HB2.out.cell 6 rfl
 have a7:=HA2.out.cell 7 rfl
 have b7:=HB2.out.cell 7 rfl
 have a8:=HA2.out.cell 8 rfl
 have b8:=HB2.out.cell 8 rfl
 have a9:=HA2.out.cell 9 rfl
 have b9:=HB2.out.cell 9 rfl
 have ag:=HA2.out.1
 have bg:=HB2.out.1
 go_wp2_with fail
 refine Calls.mono (laws_eqLand v5 W.ld.pl v6 W.ld.wy u5 u6 _ (H.out.up exts).pl (K.out.up exts).pl (H.out.up exts).wy (K.out.up exts).wy) ?_
 rintro e w3 ⟨rfl,hx3⟩
 clear a0 b0 a1 b1 a2 b2 a3 b3 a4 b4 a5 b5 a6 b6 a7 b7 a8 b8 a9 b9 ag bg
 have HA3:=qh (HA2.out.ext hx3)
 have HB3:=qh (HB2.out.ext hx3)
 have a0:=HA3.out.cell 0 rfl
 have b0:=HB3.out.cell 0 rfl
 have a1:=HA3.out.cell 1 rfl
 have b1:=HB3.out.cell 1 rfl
 have a2:=HA3.out.cell 2 rfl
 have b2:=HB3.out.cell 2 rfl
 have a3:=HA3.out.cell 3 rfl
 have b3:=HB3.out.cell 3 rfl
 have a4:=HA3.out.cell 4 rfl
 have b4:=HB3.out.cell 4 rfl
 have a5:=HA3.out.cell 5 rfl
 have b5:=HB3.out.cell 5 rfl
 have a6:=HA3.out.cell 6 rfl
 have b6:=HB3.out.cell 6 rfl
 have a7:=HA3.out.cell 7 rfl
 have b7:=HB3.out.cell 7 rfl
 have a8:=HA3.out.cell 8 rfl
 have b8:=HB3.out.cell 8 rfl
 have a9:=HA3.out.cell 9 rfl
 have b9:=HB3.out.cell 9 rfl
 have ag:=HA3.out.1
 have bg:=HB3.out.1
 go_wp2_with fail
 refine Calls.mono (laws_eqStayS v7 u7 W.st _ (H.out.up exts).st (K.out.up exts).st) ?_
 rintro e w4 ⟨rfl,hx4⟩
 clear a0 b0 a1 b1 a2 b2 a3 b3 a4 b4 a5 b5 a6 b6 a7 b7 a8 b8 a9 b9 ag bg
 have HA4:=qh (HA3.out.ext hx4)
 have HB4:=qh (HB3.out.ext hx4)
 have a0:=HA4.out.cell 0 rfl
 have b0:=HB4.out.cell 0 rfl
 have a1:=HA4.out.cell 1 rfl
 have b1:=HB4.out.cell 1 rfl
 have a2:=HA4.out.cell 2 rfl
 have b2:=HB4.out.cell 2 rfl
 have a3:=HA4.out.cell 3 rfl
 have b3:=HB4.out.cell 3 rfl
 have a4:=HA4.out.cell 4 rfl
 have b4:=HB4.out.cell 4 rfl
 have a5:=HA4.out.cell 5 rfl
 have b5:=HB4.out.cell 5 rfl
 have a6:=HA4.out.cell 6 rfl
 have b6:=HB4.out.cell 6 rfl
 have a7:=HA4.out.cell 7 rfl
 have b7:=HB4.out.cell 7 rfl
 have a8:=HA4.out.cell 8 rfl
 have b8:=HB4.out.cell 8 rfl
 have a9:=HA4.out.cell 9 rfl
 have b9:=HB4.out.cell 9 rfl
 have ag:=HA4.out.1
 have bg:=HB4.out.1
 go_wp2_with fail
 refine Calls.mono (laws_eqMarkS v8 u8 W.se _ (H.out.up exts).se (K.out.up exts).se) ?_
 rintro e w5 ⟨rfl,hx5⟩
 clear a0 b0 a1 b1 a2 b2 a3 b3 a4 b4 a5 b5 a6 b6 a7 b7 a8 b8 a9 b9 ag bg
 have HA5:=qh (HA4.out.ext hx5)
 have HB5:=qh (HB4.out.ext hx5)
 have a0:=HA5.out.cell 0 rfl
 have b0:=HB5.out.cell 0 rfl
 have a1:=HA5.out.cell 1 rfl
 have b1:=HB5.out.cell 1 rfl
 have a2:=HA5.out.cell 2 rfl
 have b2:=HB5.out.cell 2 rfl
 have a3:=HA5.out.cell 3 rfl
 have b3:=HB5.out.cell 3 rfl
 have a4:=HA5.out.cell 4 rfl
 have b4:=HB5.out.cell 4 rfl
 have a5:=HA5.out.cell 5 rfl
 have b5:=HB5.out.cell 5 rfl
 have a6:=HA5.out.cell 6 rfl
 have b6:=HB5.out.cell 6 rfl
 have a7:=HA5.out.cell 7 rfl
 have b7:=HB5.out.cell 7 rfl
 have a8:=HA5.out.cell 8 rfl
 have b8:=HB5.out.cell 8 rfl
 have a9:=HA5.out.cell 9 rfl
 have b9:=HB5.out.cell 9 rfl
 have ag:=HA5.out.1
 have bg:=HB5.out.1
 go_wp2_with fail
 refine Calls.mono (laws_eqMarkS v9 u9 W.ha _ (H.out.up exts).ha (K.out.up exts).ha) ?_
 rintro e w6 ⟨rfl,hx6⟩
 clear a0 b0 a1 b1 a2 b2 a3 b3 a4 b4 a5 b5 a6 b6 a7 b7 a8 b8 a9 b9 ag bg
 have HA6:=qh (HA5.out.ext hx6)
 have HB6:=qh (HB5.out.ext hx6)
 go_wp2_with fail
 go_ret
 exact ⟨rfl,exts⟩
def Low (k:Nat) (w w' : World):Prop:=w'.heap.size=w.heap.size∧∀ (lo hi sz n:Nat) (v:Value) (f:Nat → Value),k ≤ lo → RowO w lo hi sz v n f → RowO w' lo hi sz v n f
theorem Low.refl (k:Nat) (w:World):Low k w w:=⟨rfl,fun _ _ _ _ _ _ _ h=>h⟩
theorem Low.setCell {k:Nat} {a w:World} (h:Low k a w) {p:Addr} (hp:p.block < k) (u:Value):Low k a (w.setCell p u):=⟨by rw [World.size_setCell];exact h.1,fun lo hi sz n v f hk hr=>RowO.setLow (h.2 lo hi sz n v f hk hr) (by omega) u⟩
theorem Low.row {k m sz n:Nat} {a w:World} {v:Value} {f:Nat → Value} (h:Low k a w) (hr:RowO a k a.heap.size sz v n f) (hm:m ≤ k):RowO w m w.heap.size sz v n f:=by
 have:=h.2 _ _ _ _ _ _ (Nat.le_refl _) hr
 rw [h.1]
 exact this.mono hm (Nat.le_refl _)
structure WrlC (w:World) (lo hi:Nat) (vr vp vt vl vw vs vse vha:Value) (W:Wrl):Prop where
 rg:Cel w lo hi 3 vr W.ch.rg.length
 ps:Cel w lo hi 3 vp W.pp.ps.length
 tm:Cel w lo hi 4 vt W.pp.tm.length
 pl:Cel w lo hi 1 vl W.ld.pl.length
 wy:Cel w lo hi 3 vw W.ld.wy.length
 st:Cel w lo hi 3 vs W.st.length
 se:Cel w lo hi 3 vse W.se.length
 ha:Cel w lo hi 3 vha W.ha.length
def NewWorld (W:Wrl) (w:World) (e:Ending) (w' : World):Prop:=∃ u0 u3 u4 u5 u6 u7 u8 u9,e=.returned (.agg #[u0,.int .i64 W.ch.fr,.int .i64 W.ch.to,u3,u4,u5,u6,u7,u8,u9])∧Ext w w' ∧ WrlAt w' w.heap.size w'.heap.size u0 u3 u4 u5 u6 u7 u8 u9 W∧WrlC w' w.heap.size w'.heap.size u0 u3 u4 u5 u6 u7 u8 u9 W
theorem NewWorld.mk {W:Wrl} {w w6 w' : World} {u0 u3 u4 u5 u6 u7 u8 u9:Value} (L:Low (w.heap.size+3) w6 w') (hx:Ext w w') (q0:RowO w6 (w.heap.size+3) w6.heap.size 3 u0 W.ch.rg.length (nspCell W.ch.rg)) (q3:RowO w6 (w.heap.size+3) w6.heap.size 3 u3 W.pp.ps.length (nspCell W.pp.ps)) (q4:RowO w6 (w.heap.size+3) w6.heap.size 4 u4 W.pp.tm.length (trmCell W.pp.tm)) (q5:RowO w6 (w.heap.size+3) w6.heap.size 1 u5 W.ld.pl.length (strCell W.ld.pl)) (q6:RowO w6 (w.heap.size+3) w6.heap.size 3 u6 W.ld.wy.length (wyCell W.ld.wy)) (q7:RowO w6 (w.heap.size+3) w6.heap.size 3 u7 W.st.length (wyCell W.st)) (q8:RowO w6 (w.heap.size+3) w6.heap.size 3 u8 W.se.length (nspCell W.se)) (q9:RowO w6 (w.heap.size+3) w6.heap.size 3 u9 W.ha.length (nspCell W.ha)) :
  NewWorld W w (.returned (.agg #[u0,.int .i64 W.ch.fr,.int .i64 W.ch.to,u3,u4,u5,u6,u7,u8,u9])) w' :=
 ⟨u0,u3,u4,u5,u6,u7,u8,u9,rfl,hx,⟨(L.row q0 (by omega)).1,(L.row q3 (by omega)).1,(L.row q4 (by omega)).1,(L.row q5 (by omega)).1,(L.row q6 (by omega)).1,(L.row q7 (by omega)).1,(L.row q8 (by omega)).1,(L.row q9 (by omega)).1⟩,
  (L.row q0 (by omega)).2,(L.row q3 (by omega)).2,(L.row q4 (by omega)).2,(L.row q5 (by omega)).2,(L.row q6 (by omega)).2,(L.row q7 (by omega)).2,(L.row q8 (by omega)).2,(L.row q9 (by omega)).2⟩
set_option maxRecDepth 100000 in
set_option maxHeartbeats 8000000 in
theorem laws_toWorld (v0 v3 v4 v5 v6 v7 v8 v9:Value) (W:Wrl) (w:World) (h:WrlAt w 0 w.heap.size v0 v3 v4 v5 v6 v7 v8 v9 W) (hl:WLn W):Calls Tryz.prog 11 #[.agg #[v0,.int .i64 W.ch.fr,.int .i64 W.ch.to,v3,v4,v5,v6,v7,v8,v9]] w (NewWorld W w):=by
 have H:=qh h
 have Hl:=qh hl
 clear h hl
 have Ha:=qh (Boxed.new w [v0,.int .i64 W.ch.fr,.int .i64 W.ch.to,v3,v4,v5,v6,v7,v8,v9] 36)
 have Hr:=qh (Boxed.new (w.alloc (.cells #[v0,.int .i64 W.ch.fr,.int .i64 W.ch.to,v3,v4,v5,v6,v7,v8,v9] 36)) [.slice none 0 0,.int .i64 0,.int .i64 0,.slice none 0 0,.slice none 0 0,.slice none 0 0,.slice none 0 0,.slice none 0 0,.slice none 0 0,.slice none 0 0] 56)
 have Ho:=qh (Boxed.new ((w.alloc (.cells #[v0,.int .i64 W.ch.fr,.int .i64 W.ch.to,v3,v4,v5,v6,v7,v8,v9] 36)).alloc (.cells #[.slice none 0 0,.int .i64 0,.int .i64 0,.slice none 0 0,.slice none 0 0,.slice none 0 0,.slice none 0 0,.slice none 0 0,.slice none 0 0,.slice none 0 0] 56)) [.slice none 0 0,.int .i64 0,.int .i64 0,.slice none 0 0,.slice none 0 0,.slice none 0 0,.slice none 0 0,.slice none 0 0,.slice none 0 0,.slice none 0 0] 56)
 go_enter Tryz.func11,Tryz.ntmps11
 go_wp2_with fail
 refine Calls.mono (laws_toChancery v0 W.ch.rg W.ch.fr W.ch.to _ (H.out.up exts).rg Hl.out.1) ?_
 rintro e w1 ⟨y0,rfl,hx1,q0⟩
 have ha' := (Ha.out.ext (((Ext.refl _).alloc _).alloc _)).ext hx1
 have hr' := (Hr.out.ext ((Ext.refl _).alloc _)).ext hx1
 have ho' := Ho.out.ext hx1
 simp only [World.size_alloc] at ha' hr' ho' q0
 have HA1:=qh ha'
 have HR1:=qh hr'
 have HO1:=qh ho'
 clear ha' hr' ho'
 have hxw1:Ext w w1:=exts
 have sl0:∃ A c,y0=.slice A W.ch.rg.length c:=RowO.sl q0
 obtain ⟨Y0,C0,rfl⟩:=sl0
 have Q0:=qh q0
 clear q0
 clear hx1
 have a0:=HA1.out.cell 0 rfl
 have r0:=HR1.out.cell 0 rfl
 have o0:=HO1.out.cell 0 rfl
 have rf0:=HR1.out.fz 0 (by simp)
 have of0:=HO1.out.fz 0 (by simp)
 have a1:=HA1.out.cell 1 rfl
 have r1:=HR1.out.cell 1 rfl
 have o1:=HO1.out.cell 1 rfl
 have rf1:=HR1.out.fz 1 (by simp)
 have of1:=HO1.out.fz 1 (by simp)
 have a2:=HA1.out.cell 2 rfl
 have r2:=HR1.out.cell 2 rfl
 have o2:=HO1.out.cell 2 rfl
 have rf2:=HR1.out.fz 2 (by simp)
 have of2:=HO1.out.fz 2 (by simp)
 have a3:=HA1.out.cell 3 rfl
 have r3:=HR1.out.cell 3 rfl
 have o3:=HO1.out.cell 3 rfl
 have rf3:=HR1.out.fz 3 (by simp)
 have of3:=HO1.out.fz 3 (by simp)
 have a4:=HA1.out.cell 4 rfl
 have r4:=HR1.out.cell 4 rfl
 have o4:=HO1.out.cell 4 rfl
 have rf4:=HR1.out.fz 4 (by simp)
 have of4:=HO1.out.fz 4 (by simp)
 have a5:=HA1.out.cell 5 rfl
 have r5:=HR1.out.cell 5 rfl
 have o5:=HO1.out.cell 5 rfl
 have rf5:=HR1.out.fz 5 (by simp)
 have of5:=HO1.out.fz 5 (by simp)
 have a6:=HA1.out.cell 6 rfl
 have r6:=HR1.out.cell 6 rfl
 have o6:=HO1.out.cell 6 rfl
 have rf6:=HR1.out.fz 6 (by simp)
 have of6:=HO1.out.fz 6 (by simp)
 have a7:=HA1.out.cell 7 rfl
 have r7:=HR1.out.cell 7 rfl
 have o7:=HO1.out.cell 7 rfl
 have rf7:=HR1.out.fz 7 (by simp)
 have of7:=HO1.out.fz 7 (by simp)
 have a8:=HA1.out.cell 8 rfl
 have r8:=HR1.out.cell 8 rfl
 have o8:=HO1.out.cell 8 rfl
 have rf8:=HR1.out.fz 8 (by simp)
 have of8:=HO1.out.fz 8 (by simp)
 have a9:=HA1.out.cell 9 rfl
 have r9:=HR1.out.cell 9 rfl
 have o9:=HO1.out.cell 9 rfl
 have rf9:=HR1.out.fz 9 (by simp)
 have of9:=HO1.out.fz 9 (by simp)
 have ag:=HA1.out.1
 have rg:=HR1.out.1
 have og:=HO1.out.1
 go_wp2_with fail
 have HAs1:=qh (((HA1.out.setOther (p:=⟨w.heap.size+2,0,none⟩) (by show w.heap.size ≠ w.heap.size+2;omega) (.slice Y0 W.ch.rg.length C0)).setOther (p:=⟨w.heap.size+2,1,none⟩) (by show w.heap.size ≠ w.heap.size+2;omega) (.int .i64 W.ch.fr)).setOther (p:=⟨w.heap.size+2,2,none⟩) (by show w.heap.size ≠ w.heap.size+2;omega) (.int .i64 W.ch.to))
 have HRs1:=qh (((HR1.out.setOther (p:=⟨w.heap.size+2,0,none⟩) (by show w.heap.size+1 ≠ w.heap.size+2;omega) (.slice Y0 W.ch.rg.length C0)).setOther (p:=⟨w.heap.size+2,1,none⟩) (by show w.heap.size+1 ≠ w.heap.size+2;omega) (.int .i64 W.ch.fr)).setOther (p:=⟨w.heap.size+2,2,none⟩) (by show w.heap.size+1 ≠ w.heap.size+2;omega) (.int .i64 W.ch.to))
 have HOs1:=qh (((HO1.out.set 0 (.slice Y0 W.ch.rg.length C0) (by simp)).set 1 (.int .i64 W.ch.fr) (by simp)).set 2 (.int .i64 W.ch.to) (by simp))
 have hxs1:Ext w (((w1.setCell ⟨w.heap.size+2,0,none⟩ (.slice Y0 W.ch.rg.length C0)).setCell ⟨w.heap.size+2,1,none⟩ (.int .i64 W.ch.fr)).setCell ⟨w.heap.size+2,2,none⟩ (.int .i64 W.ch.to)):=(Ext.setCell (Ext.setCell (Ext.setCell hxw1 (p:=⟨w.heap.size+2,0,none⟩) (by show w.heap.size ≤ w.heap.size+2;omega) (.slice Y0 W.ch.rg.length C0)) (p:=⟨w.heap.size+2,1,none⟩) (by show w.heap.size ≤ w.heap.size+2;omega) (.int .i64 W.ch.fr)) (p:=⟨w.heap.size+2,2,none⟩) (by show w.heap.size ≤ w.heap.size+2;omega) (.int .i64 W.ch.to))
 have s0:=qh (RowO.setLow (p:=⟨w.heap.size+2,2,none⟩) (RowO.setLow (p:=⟨w.heap.size+2,1,none⟩) (RowO.setLow (p:=⟨w.heap.size+2,0,none⟩) Q0.out (by show w.heap.size+2 < w.heap.size+3;omega) (.slice Y0 W.ch.rg.length C0)) (by show w.heap.size+2 < w.heap.size+3;omega) (.int .i64 W.ch.fr)) (by show w.heap.size+2 < w.heap.size+3;omega) (.int .i64 W.ch.to))
 clear Q0
 have Q0:=s0
 clear s0
 have hz1:(((w1.setCell ⟨w.heap.size+2,0,none⟩ (.slice Y0 W.ch.rg.length C0)).setCell ⟨w.heap.size+2,1,none⟩ (.int .i64 W.ch.fr)).setCell ⟨w.heap.size+2,2,none⟩ (.int .i64 W.ch.to)).heap.size=w1.heap.size:=by simp only [World.size_setCell]
 clear a0 r0 o0 rf0 of0 a1 r1 o1 rf1 of1 a2 r2 o2 rf2 of2 a3 r3 o3 rf3 of3 a4 r4 o4 rf4 of4 a5 r5 o5 rf5 of5 a6 r6 o6 rf6 of6 a7 r7 o7 rf7 of7 a8 r8 o8 rf8 of8 a9 r9 o9 rf9 of9 ag rg og
 generalize (((w1.setCell ⟨w.heap.size+2,0,none⟩ (.slice Y0 W.ch.rg.length C0)).setCell ⟨w.heap.size+2,1,none⟩ (.int .i64 W.ch.fr)).setCell ⟨w.heap.size+2,2,none⟩ (.int .i64 W.ch.to))=w1s at *
 rw [← hz1] at Q0
 clear hz1
 refine Calls.mono (laws_toPeople v3 W.pp.ps v4 W.pp.tm _ (H.out.up hxs1).ps Hl.out.2.1 (H.out.up hxs1).tm Hl.out.2.2.1) ?_
 rintro e w2 ⟨y3,y4,rfl,hx2,q3,q4⟩
 have HA2:=qh (HAs1.out.ext hx2)
 have HR2:=qh (HRs1.out.ext hx2)
 have HO2:=qh (HOs1.out.ext hx2)
 have hxw2:Ext w w2:=hxs1.trans hx2
 have t0:=qh (RowO.wid Q0.out hx2)
 clear Q0
 have Q0:=t0
 clear t0
 have hsz2:=HOs1.out.1
 have sl3:∃ A c,y3=.slice A W.pp.ps.length c:=RowO.sl q3
 obtain ⟨Y3,C3,rfl⟩:=sl3
 have q3' : RowO w2 (w.heap.size+3) w2.heap.size _ (.slice Y3 W.pp.ps.length C3) W.pp.ps.length _:=RowO.mono q3 (by omega) (Nat.le_refl _)
 have Q3:=qh q3'
 clear q3 q3'
 have sl4:∃ A c,y4=.slice A W.pp.tm.length c:=RowO.sl q4
 obtain ⟨Y4,C4,rfl⟩:=sl4
 have q4' : RowO w2 (w.heap.size+3) w2.heap.size _ (.slice Y4 W.pp.tm.length C4) W.pp.tm.length _:=RowO.mono q4 (by omega) (Nat.le_refl _)
 have Q4:=qh q4'
 clear q4 q4'
 clear hx2
 clear hsz2
 have a0:=HA2.out.cell 0 rfl
 have r0:=HR2.out.cell 0 rfl
 have o0:=HO2.out.cell 0 rfl
 have rf0:=HR2.out.fz 0 (by simp)
 have of0:=HO2.out.fz 0 (by simp)
 have a1:=HA2.out.cell 1 rfl
 have r1:=HR2.out.cell 1 rfl
 have o1:=HO2.out.cell 1 rfl
 have rf1:=HR2.out.fz 1 (by simp)
 have of1:=HO2.out.fz 1 (by simp)
 have a2:=HA2.out.cell 2 rfl
 have r2:=HR2.out.cell 2 rfl
 have o2:=HO2.out.cell 2 rfl
 have rf2:=HR2.out.fz 2 (by simp)
 have of2:=HO2.out.fz 2 (by simp)
 have a3:=HA2.out.cell 3 rfl
 have r3:=HR2.out.cell 3 rfl
 have o3:=HO2.out.cell 3 rfl
 have rf3:=HR2.out.fz 3 (by simp)
 have of3:=HO2.out.fz 3 (by simp)
 have a4:=HA2.out.cell 4 rfl
 have r4:=HR2.out.cell 4 rfl
 have o4:=HO2.out.cell 4 rfl
 have rf4:=HR2.out.fz 4 (by simp)
 have of4:=HO2.out.fz 4 (by simp)
 have a5:=HA2.out.cell 5 rfl
 have r5:=HR2.out.cell 5 rfl
 have o5:=HO2.out.cell 5 rfl
 have rf5:=HR2.out.fz 5 (by simp)
 have of5:=HO2.out.fz 5 (by simp)
 have a6:=HA2.out.cell 6 rfl
 have r6:=HR2.out.cell 6 rfl
 have o6:=HO2.out.cell 6 rfl
 have rf6:=HR2.out.fz 6 (by simp)
 have of6:=HO2.out.fz 6 (by simp)
 have a7:=HA2.out.cell 7 rfl
 have r7:=HR2.out.cell 7 rfl
 have o7:=HO2.out.cell 7 rfl
 have rf7:=HR2.out.fz 7 (by simp)
 have of7:=HO2.out.fz 7 (by simp)
 have a8:=HA2.out.cell 8 rfl
 have r8:=HR2.out.cell 8 rfl
 have o8:=HO2.out.cell 8 rfl
 have rf8:=HR2.out.fz 8 (by simp)
 have of8:=HO2.out.fz 8 (by simp)
 have a9:=HA2.out.cell 9 rfl
 have r9:=HR2.out.cell 9 rfl
 have o9:=HO2.out.cell 9 rfl
 have rf9:=HR2.out.fz 9 (by simp)
 have of9:=HO2.out.fz 9 (by simp)
 have ag:=HA2.out.1
 have rg:=HR2.out.1
 have og:=HO2.out.1
 go_wp2_with fail
 have HAs2:=qh ((HA2.out.setOther (p:=⟨w.heap.size+2,3,none⟩) (by show w.heap.size ≠ w.heap.size+2;omega) (.slice Y3 W.pp.ps.length C3)).setOther (p:=⟨w.heap.size+2,4,none⟩) (by show w.heap.size ≠ w.heap.size+2;omega) (.slice Y4 W.pp.tm.length C4))
 have HRs2:=qh ((HR2.out.setOther (p:=⟨w.heap.size+2,3,none⟩) (by show w.heap.size+1 ≠ w.heap.size+2;omega) (.slice Y3 W.pp.ps.length C3)).setOther (p:=⟨w.heap.size+2,4,none⟩) (by show w.heap.size+1 ≠ w.heap.size+2;omega) (.slice Y4 W.pp.tm.length C4))
 have HOs2:=qh ((HO2.out.set 3 (.slice Y3 W.pp.ps.length C3) (by simp)).set 4 (.slice Y4 W.pp.tm.length C4) (by simp))
 have hxs2:Ext w ((w2.setCell ⟨w.heap.size+2,3,none⟩ (.slice Y3 W.pp.ps.length C3)).setCell ⟨w.heap.size+2,4,none⟩ (.slice Y4 W.pp.tm.length C4)):=(Ext.setCell (Ext.setCell hxw2 (p:=⟨w.heap.size+2,3,none⟩) (by show w.heap.size ≤ w.heap.size+2;omega) (.slice Y3 W.pp.ps.length C3)) (p:=⟨w.heap.size+2,4,none⟩) (by show w.heap.size ≤ w.heap.size+2;omega) (.slice Y4 W.pp.tm.length C4))
 have s0:=qh (RowO.setLow (p:=⟨w.heap.size+2,4,none⟩) (RowO.setLow (p:=⟨w.heap.size+2,3,none⟩) Q0.out (by show w.heap.size+2 < w.heap.size+3;omega) (.slice Y3 W.pp.ps.length C3)) (by show w.heap.size+2 < w.heap.size+3;omega) (.slice Y4 W.pp.tm.length C4))
 clear Q0
 have Q0:=s0
 clear s0
 have s3:=qh (RowO.setLow (p:=⟨w.heap.size+2,4,none⟩) (RowO.setLow (p:=⟨w.heap.size+2,3,none⟩) Q3.out (by show w.heap.size+2 < w.heap.size+3;omega) (.slice Y3 W.pp.ps.length C3)) (by show w.heap.size+2 < w.heap.size+3;omega) (.slice Y4 W.pp.tm.length C4))
 clear Q3
 have Q3:=s3
 clear s3
 have s4:=qh (RowO.setLow (p:=⟨w.heap.size+2,4,none⟩) (RowO.setLow (p:=⟨w.heap.size+2,3,none⟩) Q4.out (by show w.heap.size+2 < w.heap.size+3;omega) (.slice Y3 W.pp.ps.length C3)) (by show w.heap.size+2 < w.heap.size+3;omega) (.slice Y4 W.pp.tm.length C4))
 clear Q4
 have Q4:=s4
 clear s4
 have hz2:((w2.setCell ⟨w.heap.size+2,3,none⟩ (.slice Y3 W.pp.ps.length C3)).setCell ⟨w.heap.size+2,4,none⟩ (.slice Y4 W.pp.tm.length C4)).heap.size=w2.heap.size:=by simp only [World.size_setCell]
 clear a0 r0 o0 rf0 of0 a1 r1 o1 rf1 of1 a2 r2 o2 rf2 of2 a3 r3 o3 rf3 of3 a4 r4 o4 rf4 of4 a5 r5 o5 rf5 of5 a6 r6 o6 rf6 of6 a7 r7 o7 rf7 of7 a8 r8 o8 rf8 of8 a9 r9 o9 rf9 of9 ag rg og
 generalize ((w2.setCell ⟨w.heap.size+2,3,none⟩ (.slice Y3 W.pp.ps.length C3)).setCell ⟨w.heap.size+2,4,none⟩ (.slice Y4 W.pp.tm.length C4))=w2s at *
 rw [← hz2] at Q0
 rw [← hz2] at Q3
 rw [← hz2] at Q4
 clear hz2
 refine Calls.mono (laws_toLand v5 W.ld.pl v6 W.ld.wy _ (H.out.up hxs2).pl Hl.out.2.2.2.1 (H.out.up hxs2).wy Hl.out.2.2.2.2.1) ?_
 rintro e w3 ⟨y5,y6,rfl,hx3,q5,q6⟩
 have HA3:=qh (HAs2.out.ext hx3)
 have HR3:=qh (HRs2.out.ext hx3)
 have HO3:=qh (HOs2.out.ext hx3)
 have hxw3:Ext w w3:=hxs2.trans hx3
 have t0:=qh (RowO.wid Q0.out hx3)
 clear Q0
 have Q0:=t0
 clear t0
 have t3:=qh (RowO.wid Q3.out hx3)
 clear Q3
 have Q3:=t3
 clear t3
 have t4:=qh (RowO.wid Q4.out hx3)
 clear Q4
 have Q4:=t4
 clear t4
 have hsz3:=HOs2.out.1
 have sl5:∃ A c,y5=.slice A W.ld.pl.length c:=RowO.sl q5
 obtain ⟨Y5,C5,rfl⟩:=sl5
 have q5' : RowO w3 (w.heap.size+3) w3.heap.size _ (.slice Y5 W.ld.pl.length C5) W.ld.pl.length _:=RowO.mono q5 (by omega) (Nat.le_refl _)
 have Q5:=qh q5'
 clear q5 q5'
 have sl6:∃ A c,y6=.slice A W.ld.wy.length c:=RowO.sl q6
 obtain ⟨Y6,C6,rfl⟩:=sl6
 have q6' : RowO w3 (w.heap.size+3) w3.heap.size _ (.slice Y6 W.ld.wy.length C6) W.ld.wy.length _:=RowO.mono q6 (by omega) (Nat.le_refl _)
 have Q6:=qh q6'
 clear q6 q6'
 clear hx3
 clear hsz3
 have a0:=HA3.out.cell 0 rfl
 have r0:=HR3.out.cell 0 rfl
 have o0:=HO3.out.cell 0 rfl
 have rf0:=HR3.out.fz 0 (by simp)
 have of0:=HO3.out.fz 0 (by simp)
 have a1:=HA3.out.cell 1 rfl
 have r1:=HR3.out.cell 1 rfl
 have o1:=HO3.out.cell 1 rfl
 have rf1:=HR3.out.fz 1 (by simp)
 have of1:=HO3.out.fz 1 (by simp)
 have a2:=HA3.out.cell 2 rfl
 have r2:=HR3.out.cell 2 rfl
 have o2:=HO3.out.cell 2 rfl
 have rf2:=HR3.out.fz 2 (by simp)
 have of2:=HO3.out.fz 2 (by simp)
 have a3:=HA3.out.cell 3 rfl
 have r3:=HR3.out.cell 3 rfl
 have o3:=HO3.out.cell 3 rfl
 have rf3:=HR3.out.fz 3 (by simp)
 have of3:=HO3.out.fz 3 (by simp)
 have a4:=HA3.out.cell 4 rfl
 have r4:=HR3.out.cell 4 rfl
 have o4:=HO3.out.cell 4 rfl
 have rf4:=HR3.out.fz 4 (by simp)
 have of4:=HO3.out.fz 4 (by simp)
 have a5:=HA3.out.cell 5 rfl
 have r5:=HR3.out.cell 5 rfl
 have o5:=HO3.out.cell 5 rfl
 have rf5:=HR3.out.fz 5 (by simp)
 have of5:=HO3.out.fz 5 (by simp)
 have a6:=HA3.out.cell 6 rfl
 have r6:=HR3.out.cell 6 rfl
 have o6:=HO3.out.cell 6 rfl
 have rf6:=HR3.out.fz 6 (by simp)
 have of6:=HO3.out.fz 6 (by simp)
 have a7:=HA3.out.cell 7 rfl
 have r7:=HR3.out.cell 7 rfl
 have o7:=HO3.out.cell 7 rfl
 have rf7:=HR3.out.fz 7 (by simp)
 have of7:=HO3.out.fz 7 (by simp)
 have a8:=HA3.out.cell 8 rfl
 have r8:=HR3.out.cell 8 rfl
 have o8:=HO3.out.cell 8 rfl
 have rf8:=HR3.out.fz 8 (by simp)
 have of8:=HO3.out.fz 8 (by simp)
 have a9:=HA3.out.cell 9 rfl
 have r9:=HR3.out.cell 9 rfl
 have o9:=HO3.out.cell 9 rfl
 have rf9:=HR3.out.fz 9 (by simp)
 have of9:=HO3.out.fz 9 (by simp)
 have ag:=HA3.out.1
 have rg:=HR3.out.1
 have og:=HO3.out.1
 go_wp2_with fail
 have HAs3:=qh ((HA3.out.setOther (p:=⟨w.heap.size+2,5,none⟩) (by show w.heap.size ≠ w.heap.size+2;omega) (.slice Y5 W.ld.pl.length C5)).setOther (p:=⟨w.heap.size+2,6,none⟩) (by show w.heap.size ≠ w.heap.size+2;omega) (.slice Y6 W.ld.wy.length C6))
 have HRs3:=qh ((HR3.out.setOther (p:=⟨w.heap.size+2,5,none⟩) (by show w.heap.size+1 ≠ w.heap.size+2;omega) (.slice Y5 W.ld.pl.length C5)).setOther (p:=⟨w.heap.size+2,6,none⟩) (by show w.heap.size+1 ≠ w.heap.size+2;omega) (.slice Y6 W.ld.wy.length C6))
 have HOs3:=qh ((HO3.out.set 5 (.slice Y5 W.ld.pl.length C5) (by simp)).set 6 (.slice Y6 W.ld.wy.length C6) (by simp))
 have hxs3:Ext w ((w3.setCell ⟨w.heap.size+2,5,none⟩ (.slice Y5 W.ld.pl.length C5)).setCell ⟨w.heap.size+2,6,none⟩ (.slice Y6 W.ld.wy.length C6)):=(Ext.setCell (Ext.setCell hxw3 (p:=⟨w.heap.size+2,5,none⟩) (by show w.heap.size ≤ w.heap.size+2;omega) (.slice Y5 W.ld.pl.length C5)) (p:=⟨w.heap.size+2,6,none⟩) (by show w.heap.size ≤ w.heap.size+2;omega) (.slice Y6 W.ld.wy.length C6))
 have s0:=qh (RowO.setLow (p:=⟨w.heap.size+2,6,none⟩) (RowO.setLow (p:=⟨w.heap.size+2,5,none⟩) Q0.out (by show w.heap.size+2 < w.heap.size+3;omega) (.slice Y5 W.ld.pl.length C5)) (by show w.heap.size+2 < w.heap.size+3;omega) (.slice Y6 W.ld.wy.length C6))
 clear Q0
 have Q0:=s0
 clear s0
 have s3:=qh (RowO.setLow (p:=⟨w.heap.size+2,6,none⟩) (RowO.setLow (p:=⟨w.heap.size+2,5,none⟩) Q3.out (by show w.heap.size+2 < w.heap.size+3;omega) (.slice Y5 W.ld.pl.length C5)) (by show w.heap.size+2 < w.heap.size+3;omega) (.slice Y6 W.ld.wy.length C6))
 clear Q3
 have Q3:=s3
 clear s3
 have s4:=qh (RowO.setLow (p:=⟨w.heap.size+2,6,none⟩) (RowO.setLow (p:=⟨w.heap.size+2,5,none⟩) Q4.out (by show w.heap.size+2 < w.heap.size+3;omega) (.slice Y5 W.ld.pl.length C5)) (by show w.heap.size+2 < w.heap.size+3;omega) (.slice Y6 W.ld.wy.length C6))
 clear Q4
 have Q4:=s4
 clear s4
 have s5:=qh (RowO.setLow (p:=⟨w.heap.size+2,6,none⟩) (RowO.setLow (p:=⟨w.heap.size+2,5,none⟩) Q5.out (by show w.heap.size+2 < w.heap.size+3;omega) (.slice Y5 W.ld.pl.length C5)) (by show w.heap.size+2 < w.heap.size+3;omega) (.slice Y6 W.ld.wy.length C6))
 clear Q5
 have Q5:=s5
 clear s5
 have s6:=qh (RowO.setLow (p:=⟨w.heap.size+2,6,none⟩) (RowO.setLow (p:=⟨w.heap.size+2,5,none⟩) Q6.out (by show w.heap.size+2 < w.heap.size+3;omega) (.slice Y5 W.ld.pl.length C5)) (by show w.heap.size+2 < w.heap.size+3;omega) (.slice Y6 W.ld.wy.length C6))
 clear Q6
 have Q6:=s6
 clear s6
 have hz3:((w3.setCell ⟨w.heap.size+2,5,none⟩ (.slice Y5 W.ld.pl.length C5)).setCell ⟨w.heap.size+2,6,none⟩ (.slice Y6 W.ld.wy.length C6)).heap.size=w3.heap.size:=by simp only [World.size_setCell]
 clear a0 r0 o0 rf0 of0 a1 r1 o1 rf1 of1 a2 r2 o2 rf2 of2 a3 r3 o3 rf3 of3 a4 r4 o4 rf4 of4 a5 r5 o5 rf5 of5 a6 r6 o6 rf6 of6 a7 r7 o7 rf7 of7 a8 r8 o8 rf8 of8 a9 r9 o9 rf9 of9 ag rg og
 generalize ((w3.setCell ⟨w.heap.size+2,5,none⟩ (.slice Y5 W.ld.pl.length C5)).setCell ⟨w.heap.size+2,6,none⟩ (.slice Y6 W.ld.wy.length C6))=w3s at *
 rw [← hz3] at Q0
 rw [← hz3] at Q3
 rw [← hz3] at Q4
 rw [← hz3] at Q5
 rw [← hz3] at Q6
 clear hz3
 refine Calls.mono (laws_toStayS v7 W.st 0 _ _ (H.out.up hxs3).st (Nat.le_refl _) Hl.out.2.2.2.2.2.1) ?_
 rintro e w4 ⟨y7,g7,rfl,hx4,hg7,ho7⟩
 have HA4:=qh (HAs3.out.ext hx4)
 have HR4:=qh (HRs3.out.ext hx4)
 have HO4:=qh (HOs3.out.ext hx4)
 have hxw4:Ext w w4:=hxs3.trans hx4
 have t0:=qh (RowO.wid Q0.out hx4)
 clear Q0
 have Q0:=t0
 clear t0
 have t3:=qh (RowO.wid Q3.out hx4)
 clear Q3
 have Q3:=t3
 clear t3
 have t4:=qh (RowO.wid Q4.out hx4)
 clear Q4
 have Q4:=t4
 clear t4
 have t5:=qh (RowO.wid Q5.out hx4)
 clear Q5
 have Q5:=t5
 clear t5
 have t6:=qh (RowO.wid Q6.out hx4)
 clear Q6
 have Q6:=t6
 clear t6
 have hsz4:=HOs3.out.1
 have q7:RowO w4 (w.heap.size+3) w4.heap.size 3 y7 W.st.length _:=RowO.of_own ho7 (fun hn=>⟨by have:=hg7 hn;omega,ho7.lt hn⟩)
 clear ho7 hg7
 have sl7:∃ A c,y7=.slice A W.st.length c:=RowO.sl q7
 obtain ⟨Y7,C7,rfl⟩:=sl7
 have Q7:=qh q7
 clear q7
 clear hx4
 clear hsz4
 have a0:=HA4.out.cell 0 rfl
 have r0:=HR4.out.cell 0 rfl
 have o0:=HO4.out.cell 0 rfl
 have rf0:=HR4.out.fz 0 (by simp)
 have of0:=HO4.out.fz 0 (by simp)
 have a1:=HA4.out.cell 1 rfl
 have r1:=HR4.out.cell 1 rfl
 have o1:=HO4.out.cell 1 rfl
 have rf1:=HR4.out.fz 1 (by simp)
 have of1:=HO4.out.fz 1 (by simp)
 have a2:=HA4.out.cell 2 rfl
 have r2:=HR4.out.cell 2 rfl
 have o2:=HO4.out.cell 2 rfl
 have rf2:=HR4.out.fz 2 (by simp)
 have of2:=HO4.out.fz 2 (by simp)
 have a3:=HA4.out.cell 3 rfl
 have r3:=HR4.out.cell 3 rfl
 have o3:=HO4.out.cell 3 rfl
 have rf3:=HR4.out.fz 3 (by simp)
 have of3:=HO4.out.fz 3 (by simp)
 have a4:=HA4.out.cell 4 rfl
 have r4:=HR4.out.cell 4 rfl
 have o4:=HO4.out.cell 4 rfl
 have rf4:=HR4.out.fz 4 (by simp)
 have of4:=HO4.out.fz 4 (by simp)
 have a5:=HA4.out.cell 5 rfl
 have r5:=HR4.out.cell 5 rfl
 have o5:=HO4.out.cell 5 rfl
 have rf5:=HR4.out.fz 5 (by simp)
 have of5:=HO4.out.fz 5 (by simp)
 have a6:=HA4.out.cell 6 rfl
 have r6:=HR4.out.cell 6 rfl
 have o6:=HO4.out.cell 6 rfl
 have rf6:=HR4.out.fz 6 (by simp)
 have of6:=HO4.out.fz 6 (by simp)
 have a7:=HA4.out.cell 7 rfl
 have r7:=HR4.out.cell 7 rfl
 have o7:=HO4.out.cell 7 rfl
 have rf7:=HR4.out.fz 7 (by simp)
 have of7:=HO4.out.fz 7 (by simp)
 have a8:=HA4.out.cell 8 rfl
 have r8:=HR4.out.cell 8 rfl
 have o8:=HO4.out.cell 8 rfl
 have rf8:=HR4.out.fz 8 (by simp)
 have of8:=HO4.out.fz 8 (by simp)
 have a9:=HA4.out.cell 9 rfl
 have r9:=HR4.out.cell 9 rfl
 have o9:=HO4.out.cell 9 rfl
 have rf9:=HR4.out.fz 9 (by simp)
 have of9:=HO4.out.fz 9 (by simp)
 have ag:=HA4.out.1
 have rg:=HR4.out.1
 have og:=HO4.out.1
 go_wp2_with fail
 have HAs4:=qh (HA4.out.setOther (p:=⟨w.heap.size+2,7,none⟩) (by show w.heap.size ≠ w.heap.size+2;omega) (.slice Y7 W.st.length C7))
 have HRs4:=qh (HR4.out.setOther (p:=⟨w.heap.size+2,7,none⟩) (by show w.heap.size+1 ≠ w.heap.size+2;omega) (.slice Y7 W.st.length C7))
 have HOs4:=qh (HO4.out.set 7 (.slice Y7 W.st.length C7) (by simp))
 have hxs4:Ext w (w4.setCell ⟨w.heap.size+2,7,none⟩ (.slice Y7 W.st.length C7)):=(Ext.setCell hxw4 (p:=⟨w.heap.size+2,7,none⟩) (by show w.heap.size ≤ w.heap.size+2;omega) (.slice Y7 W.st.length C7))
 have s0:=qh (RowO.setLow (p:=⟨w.heap.size+2,7,none⟩) Q0.out (by show w.heap.size+2 < w.heap.size+3;omega) (.slice Y7 W.st.length C7))
 clear Q0
 have Q0:=s0
 clear s0
 have s3:=qh (RowO.setLow (p:=⟨w.heap.size+2,7,none⟩) Q3.out (by show w.heap.size+2 < w.heap.size+3;omega) (.slice Y7 W.st.length C7))
 clear Q3
 have Q3:=s3
 clear s3
 have s4:=qh (RowO.setLow (p:=⟨w.heap.size+2,7,none⟩) Q4.out (by show w.heap.size+2 < w.heap.size+3;omega) (.slice Y7 W.st.length C7))
 clear Q4
 have Q4:=s4
 clear s4
 have s5:=qh (RowO.setLow (p:=⟨w.heap.size+2,7,none⟩) Q5.out (by show w.heap.size+2 < w.heap.size+3;omega) (.slice Y7 W.st.length C7))
 clear Q5
 have Q5:=s5
 clear s5
 have s6:=qh (RowO.setLow (p:=⟨w.heap.size+2,7,none⟩) Q6.out (by show w.heap.size+2 < w.heap.size+3;omega) (.slice Y7 W.st.length C7))
 clear Q6
 have Q6:=s6
 clear s6
 have s7:=qh (RowO.setLow (p:=⟨w.heap.size+2,7,none⟩) Q7.out (by show w.heap.size+2 < w.heap.size+3;omega) (.slice Y7 W.st.length C7))
 clear Q7
 have Q7:=s7
 clear s7
 have hz4:(w4.setCell ⟨w.heap.size+2,7,none⟩ (.slice Y7 W.st.length C7)).heap.size=w4.heap.size:=by simp only [World.size_setCell]
 clear a0 r0 o0 rf0 of0 a1 r1 o1 rf1 of1 a2 r2 o2 rf2 of2 a3 r3 o3 rf3 of3 a4 r4 o4 rf4 of4 a5 r5 o5 rf5 of5 a6 r6 o6 rf6 of6 a7 r7 o7 rf7 of7 a8 r8 o8 rf8 of8 a9 r9 o9 rf9 of9 ag rg og
 generalize (w4.setCell ⟨w.heap.size+2,7,none⟩ (.slice Y7 W.st.length C7))=w4s at *
 rw [← hz4] at Q0
 rw [← hz4] at Q3
 rw [← hz4] at Q4
 rw [← hz4] at Q5
 rw [← hz4] at Q6
 rw [← hz4] at Q7
 clear hz4
 refine Calls.mono (laws_toMarkS v8 W.se 0 _ _ (H.out.up hxs4).se (Nat.le_refl _) Hl.out.2.2.2.2.2.2.1) ?_
 rintro e w5 ⟨y8,g8,rfl,hx5,hg8,ho8⟩
 have HA5:=qh (HAs4.out.ext hx5)
 have HR5:=qh (HRs4.out.ext hx5)
 have HO5:=qh (HOs4.out.ext hx5)
 have hxw5:Ext w w5:=hxs4.trans hx5
 have t0:=qh (RowO.wid Q0.out hx5)
 clear Q0
 have Q0:=t0
 clear t0
 have t3:=qh (RowO.wid Q3.out hx5)
 clear Q3
 have Q3:=t3
 clear t3
 have t4:=qh (RowO.wid Q4.out hx5)
 clear Q4
 have Q4:=t4
 clear t4
 have t5:=qh (RowO.wid Q5.out hx5)
 clear Q5
 have Q5:=t5
 clear t5
 have t6:=qh (RowO.wid Q6.out hx5)
 clear Q6
 have Q6:=t6
 clear t6
 have t7:=qh (RowO.wid Q7.out hx5)
 clear Q7
 have Q7:=t7
 clear t7
 have hsz5:=HOs4.out.1
 have q8:RowO w5 (w.heap.size+3) w5.heap.size 3 y8 W.se.length _:=RowO.of_own ho8 (fun hn=>⟨by have:=hg8 hn;omega,ho8.lt hn⟩)
 clear ho8 hg8
 have sl8:∃ A c,y8=.slice A W.se.length c:=RowO.sl q8
 obtain ⟨Y8,C8,rfl⟩:=sl8
 have Q8:=qh q8
 clear q8
 clear hx5
 clear hsz5
 have a0:=HA5.out.cell 0 rfl
 have r0:=HR5.out.cell 0 rfl
 have o0:=HO5.out.cell 0 rfl
 have rf0:=HR5.out.fz 0 (by simp)
 have of0:=HO5.out.fz 0 (by simp)
 have a1:=HA5.out.cell 1 rfl
 have r1:=HR5.out.cell 1 rfl
 have o1:=HO5.out.cell 1 rfl
 have rf1:=HR5.out.fz 1 (by simp)
 have of1:=HO5.out.fz 1 (by simp)
 have a2:=HA5.out.cell 2 rfl
 have r2:=HR5.out.cell 2 rfl
 have o2:=HO5.out.cell 2 rfl
 have rf2:=HR5.out.fz 2 (by simp)
 have of2:=HO5.out.fz 2 (by simp)
 have a3:=HA5.out.cell 3 rfl
 have r3:=HR5.out.cell 3 rfl
 have o3:=HO5.out.cell 3 rfl
 have rf3:=HR5.out.fz 3 (by simp)
 have of3:=HO5.out.fz 3 (by simp)
 have a4:=HA5.out.cell 4 rfl
 have r4:=HR5.out.cell 4 rfl
 have o4:=HO5.out.cell 4 rfl
 have rf4:=HR5.out.fz 4 (by simp)
 have of4:=HO5.out.fz 4 (by simp)
 have a5:=HA5.out.cell 5 rfl
 have r5:=HR5.out.cell 5 rfl
 have o5:=HO5.out.cell 5 rfl
 have rf5:=HR5.out.fz 5 (by simp)
 have of5:=HO5.out.fz 5 (by simp)
 have a6:=HA5.out.cell 6 rfl
 have r6:=HR5.out.cell 6 rfl
 have o6:=HO5.out.cell 6 rfl
 have rf6:=HR5.out.fz 6 (by simp)
 have of6:=HO5.out.fz 6 (by simp)
 have a7:=HA5.out.cell 7 rfl
 have r7:=HR5.out.cell 7 rfl
 have o7:=HO5.out.cell 7 rfl
 have rf7:=HR5.out.fz 7 (by simp)
 have of7:=HO5.out.fz 7 (by simp)
 have a8:=HA5.out.cell 8 rfl
 have r8:=HR5.out.cell 8 rfl
 have o8:=HO5.out.cell 8 rfl
 have rf8:=HR5.out.fz 8 (by simp)
 have of8:=HO5.out.fz 8 (by simp)
 have a9:=HA5.out.cell 9 rfl
 have r9:=HR5.out.cell 9 rfl
 have o9:=HO5.out.cell 9 rfl
 have rf9:=HR5.out.fz 9 (by simp)
 have of9:=HO5.out.fz 9 (by simp)
 have ag:=HA5.out.1
 have rg:=HR5.out.1
 have og:=HO5.out.1
 go_wp2_with fail
 have HAs5:=qh (HA5.out.setOther (p:=⟨w.heap.size+2,8,none⟩) (by show w.heap.size ≠ w.heap.size+2;omega) (.slice Y8 W.se.length C8))
 have HRs5:=qh (HR5.out.setOther (p:=⟨w.heap.size+2,8,none⟩) (by show w.heap.size+1 ≠ w.heap.size+2;omega) (.slice Y8 W.se.length C8))
 have HOs5:=qh (HO5.out.set 8 (.slice Y8 W.se.length C8) (by simp))
 have hxs5:Ext w (w5.setCell ⟨w.heap.size+2,8,none⟩ (.slice Y8 W.se.length C8)):=(Ext.setCell hxw5 (p:=⟨w.heap.size+2,8,none⟩) (by show w.heap.size ≤ w.heap.size+2;omega) (.slice Y8 W.se.length C8))
 have s0:=qh (RowO.setLow (p:=⟨w.heap.size+2,8,none⟩) Q0.out (by show w.heap.size+2 < w.heap.size+3;omega) (.slice Y8 W.se.length C8))
 clear Q0
 have Q0:=s0
 clear s0
 have s3:=qh (RowO.setLow (p:=⟨w.heap.size+2,8,none⟩) Q3.out (by show w.heap.size+2 < w.heap.size+3;omega) (.slice Y8 W.se.length C8))
 clear Q3
 have Q3:=s3
 clear s3
 have s4:=qh (RowO.setLow (p:=⟨w.heap.size+2,8,none⟩) Q4.out (by show w.heap.size+2 < w.heap.size+3;omega) (.slice Y8 W.se.length C8))
 clear Q4
 have Q4:=s4
 clear s4
 have s5:=qh (RowO.setLow (p:=⟨w.heap.size+2,8,none⟩) Q5.out (by show w.heap.size+2 < w.heap.size+3;omega) (.slice Y8 W.se.length C8))
 clear Q5
 have Q5:=s5
 clear s5
 have s6:=qh (RowO.setLow (p:=⟨w.heap.size+2,8,none⟩) Q6.out (by show w.heap.size+2 < w.heap.size+3;omega) (.slice Y8 W.se.length C8))
 clear Q6
 have Q6:=s6
 clear s6
 have s7:=qh (RowO.setLow (p:=⟨w.heap.size+2,8,none⟩) Q7.out (by show w.heap.size+2 < w.heap.size+3;omega) (.slice Y8 W.se.length C8))
 clear Q7
 have Q7:=s7
 clear s7
 have s8:=qh (RowO.setLow (p:=⟨w.heap.size+2,8,none⟩) Q8.out (by show w.heap.size+2 < w.heap.size+3;omega) (.slice Y8 W.se.length C8))
 clear Q8
 have Q8:=s8
 clear s8
 have hz5:(w5.setCell ⟨w.heap.size+2,8,none⟩ (.slice Y8 W.se.length C8)).heap.size=w5.heap.size:=by simp only [World.size_setCell]
 clear a0 r0 o0 rf0 of0 a1 r1 o1 rf1 of1 a2 r2 o2 rf2 of2 a3 r3 o3 rf3 of3 a4 r4 o4 rf4 of4 a5 r5 o5 rf5 of5 a6 r6 o6 rf6 of6 a7 r7 o7 rf7 of7 a8 r8 o8 rf8 of8 a9 r9 o9 rf9 of9 ag rg og
 generalize (w5.setCell ⟨w.heap.size+2,8,none⟩ (.slice Y8 W.se.length C8))=w5s at *
 rw [← hz5] at Q0
 rw [← hz5] at Q3
 rw [← hz5] at Q4
 rw [← hz5] at Q5
 rw [← hz5] at Q6
 rw [← hz5] at Q7
 rw [← hz5] at Q8
 clear hz5
 refine Calls.mono (laws_toMarkS v9 W.ha 0 _ _ (H.out.up hxs5).ha (Nat.le_refl _) Hl.out.2.2.2.2.2.2.2) ?_
 rintro e w6 ⟨y9,g9,rfl,hx6,hg9,ho9⟩
 have HA6:=qh (HAs5.out.ext hx6)
 have HR6:=qh (HRs5.out.ext hx6)
 have HO6:=qh (HOs5.out.ext hx6)
 have hxw6:Ext w w6:=hxs5.trans hx6
 have t0:=qh (RowO.wid Q0.out hx6)
 clear Q0
 have Q0:=t0
 clear t0
 have t3:=qh (RowO.wid Q3.out hx6)
 clear Q3
 have Q3:=t3
 clear t3
 have t4:=qh (RowO.wid Q4.out hx6)
 clear Q4
 have Q4:=t4
 clear t4
 have t5:=qh (RowO.wid Q5.out hx6)
 clear Q5
 have Q5:=t5
 clear t5
 have t6:=qh (RowO.wid Q6.out hx6)
 clear Q6
 have Q6:=t6
 clear t6
 have t7:=qh (RowO.wid Q7.out hx6)
 clear Q7
 have Q7:=t7
 clear t7
 have t8:=qh (RowO.wid Q8.out hx6)
 clear Q8
 have Q8:=t8
 clear t8
 have hsz6:=HOs5.out.1
 have q9:RowO w6 (w.heap.size+3) w6.heap.size 3 y9 W.ha.length _:=RowO.of_own ho9 (fun hn=>⟨by have:=hg9 hn;omega,ho9.lt hn⟩)
 clear ho9 hg9
 have sl9:∃ A c,y9=.slice A W.ha.length c:=RowO.sl q9
 obtain ⟨Y9,C9,rfl⟩:=sl9
 have Q9:=qh q9
 clear q9
 clear hx6
 clear hsz6
 have a0:=HA6.out.cell 0 rfl
 have r0:=HR6.out.cell 0 rfl
 have o0:=HO6.out.cell 0 rfl
 have rf0:=HR6.out.fz 0 (by simp)
 have of0:=HO6.out.fz 0 (by simp)
 have a1:=HA6.out.cell 1 rfl
 have r1:=HR6.out.cell 1 rfl
 have o1:=HO6.out.cell 1 rfl
 have rf1:=HR6.out.fz 1 (by simp)
 have of1:=HO6.out.fz 1 (by simp)
 have a2:=HA6.out.cell 2 rfl
 have r2:=HR6.out.cell 2 rfl
 have o2:=HO6.out.cell 2 rfl
 have rf2:=HR6.out.fz 2 (by simp)
 have of2:=HO6.out.fz 2 (by simp)
 have a3:=HA6.out.cell 3 rfl
 have r3:=HR6.out.cell 3 rfl
 have o3:=HO6.out.cell 3 rfl
 have rf3:=HR6.out.fz 3 (by simp)
 have of3:=HO6.out.fz 3 (by simp)
 have a4:=HA6.out.cell 4 rfl
 have r4:=HR6.out.cell 4 rfl
 have o4:=HO6.out.cell 4 rfl
 have rf4:=HR6.out.fz 4 (by simp)
 have of4:=HO6.out.fz 4 (by simp)
 have a5:=HA6.out.cell 5 rfl
 have r5:=HR6.out.cell 5 rfl
 have o5:=HO6.out.cell 5 rfl
 have rf5:=HR6.out.fz 5 (by simp)
 have of5:=HO6.out.fz 5 (by simp)
 have a6:=HA6.out.cell 6 rfl
 have r6:=HR6.out.cell 6 rfl
 have o6:=HO6.out.cell 6 rfl
 have rf6:=HR6.out.fz 6 (by simp)
 have of6:=HO6.out.fz 6 (by simp)
 have a7:=HA6.out.cell 7 rfl
 have r7:=HR6.out.cell 7 rfl
 have o7:=HO6.out.cell 7 rfl
 have rf7:=HR6.out.fz 7 (by simp)
 have of7:=HO6.out.fz 7 (by simp)
 have a8:=HA6.out.cell 8 rfl
 have r8:=HR6.out.cell 8 rfl
 have o8:=HO6.out.cell 8 rfl
 have rf8:=HR6.out.fz 8 (by simp)
 have of8:=HO6.out.fz 8 (by simp)
 have a9:=HA6.out.cell 9 rfl
 have r9:=HR6.out.cell 9 rfl
 have o9:=HO6.out.cell 9 rfl
 have rf9:=HR6.out.fz 9 (by simp)
 have of9:=HO6.out.fz 9 (by simp)
 have ag:=HA6.out.1
 have rg:=HR6.out.1
 have og:=HO6.out.1
 go_wp2_with fail
 refine bodyPost_ret (v:=.agg #[.slice Y0 W.ch.rg.length C0,.int .i64 W.ch.fr,.int .i64 W.ch.to,.slice Y3 W.pp.ps.length C3,.slice Y4 W.pp.tm.length C4,.slice Y5 W.ld.pl.length C5,.slice Y6 W.ld.wy.length C6,.slice Y7 W.st.length C7,.slice Y8 W.se.length C8,.slice Y9 W.ha.length C9]) (by simp [results,Tryz.results11,go_sem, *]) rfl (?_:NewWorld W w _ _)
 refine NewWorld.mk (w6:=w6) ?_ ?_ Q0.out Q3.out Q4.out Q5.out Q6.out Q7.out Q8.out Q9.out
 ·repeat (with_reducible refine Low.setCell ?_ (by first | (show w.heap.size+1 < w.heap.size+3;omega) | (show w.heap.size+1+1 < w.heap.size+3;omega)) _)
  with_reducible exact Low.refl _ _
 ·repeat (with_reducible refine Ext.setCell ?_ (by first | (show w.heap.size ≤ w.heap.size+_;omega) | (simp;omega)) _)
  with_reducible exact hxw6
def DedM (w:World) (lo hi:Nat) (vd vw vc:Value) (d:Ded):Prop:=Clss w lo hi vd d.dt∧Wits w lo hi vw d.wi∧Strs w lo hi vc d.ci
theorem DedM.up {w w' : World} {vd vw vc:Value} {d:Ded} (h:DedM w 0 w.heap.size vd vw vc d) (hx:Ext w w'):DedM w' 0 w'.heap.size vd vw vc d:=⟨h.1.up hx,h.2.1.up hx,h.2.2.up hx⟩
def DMx (d:Ded):Prop:=d.nm.size ≤ 9223372036854775807∧(∀ i,i < d.dt.length → (clsAt d.dt i).kg.size ≤ 9223372036854775807)∧(∀ i,i < d.wi.length → (witAt d.wi i).pe.size ≤ 9223372036854775807∧(witAt d.wi i).of.size ≤ 9223372036854775807)∧d.pl.size ≤ 9223372036854775807∧d.se.size ≤ 9223372036854775807∧d.ha.size ≤ 9223372036854775807∧∀ i,i < d.ci.length → (strAt d.ci i).size ≤ 9223372036854775807
def DLn (d:Ded):Prop:=d.dt.length ≤ 1048576∧d.wi.length ≤ 1048576∧d.ci.length ≤ 1048576
def DsMx (l:List Ded):Prop:=∀ i,i < l.length → DMx (dedAt l i)
def DsLn (l:List Ded):Prop:=l.length ≤ 1048576∧∀ i,i < l.length → DLn (dedAt l i)
set_option maxRecDepth 100000 in
set_option maxHeartbeats 4000000 in
theorem laws_szDeed (vd vw vc:Value) (d:Ded) (left:Int) (w:World) (hl:left ≤ 1048576) (h0:0 ≤ left) (h:DedM w 0 w.heap.size vd vw vc d) (hz:DMx d):Calls Tryz.prog 40 #[.agg #[.string d.nm,vd,vw,.string d.pl,.string d.se,.string d.ha,vc],.int .i64 left] w (SzPost left (DLn d) w):=by
 have H:=qh h
 have hz0:=hz.1
 have hz3:=hz.2.2.2.1
 have hz4:=hz.2.2.2.2.1
 have hz5:=hz.2.2.2.2.2.1
 have Hz:=qh hz
 clear h hz
 have Hb:=qh (Boxed.new w [.string d.nm,vd,vw,.string d.pl,.string d.se,.string d.ha,vc] 93)
 have V0:IntKind.i64.wrap (left - (d.nm.size:Int))=left - (d.nm.size:Int):=IntWalk.i64_in _ (by omega)
 by_cases c0:left - (d.nm.size:Int) < 0
 case pos =>
  have e0:decide (left - (d.nm.size:Int) < 0)=true:=decide_eq_true c0
  go_enter Tryz.func40,Tryz.ntmps40
  go_wp2_with fail
  go_ret
  exact ⟨-1,rfl,exts,by omega,by omega,fun h=>absurd h (by omega)⟩
 have e0:decide (left - (d.nm.size:Int) < 0)=false:=decide_eq_false c0
 go_enter Tryz.func40,Tryz.ntmps40
 go_wp2_with fail
 refine Calls.mono (laws_szClauseS vd d.dt (left - (d.nm.size:Int)) _ (by omega) (by omega) (H.out.up exts).1 Hz.out.2.1) ?_
 rintro e w1 ⟨r1,rfl,hx1,ra1,rb1,rc1⟩
 have Rc1:=qh rc1
 clear rc1
 have HB1:=qh (Hb.out.ext hx1)
 have b0:=HB1.out.cell 0 rfl
 have b1:=HB1.out.cell 1 rfl
 have b2:=HB1.out.cell 2 rfl
 have b3:=HB1.out.cell 3 rfl
 have b4:=HB1.out.cell 4 rfl
 have b5:=HB1.out.cell 5 rfl
 have b6:=HB1.out.cell 6 rfl
 have bg:=HB1.out.1
 by_cases c1:r1 < 0
 case pos =>
  have e1:decide (r1 < 0)=true:=decide_eq_true c1
  go_wp2_with fail
  go_ret
  exact ⟨-1,rfl,exts,by omega,by omega,fun h=>absurd h (by omega)⟩
 have e1:decide (r1 < 0)=false:=decide_eq_false c1
 go_wp2_with fail
 refine Calls.mono (laws_szWitnessS vw d.wi (r1) _ (by omega) (by omega) (H.out.up exts).2.1 Hz.out.2.2.1) ?_
 rintro e w2 ⟨r2,rfl,hx2,ra2,rb2,rc2⟩
 have Rc2:=qh rc2
 clear rc2
 clear b0 b1 b2 b3 b4 b5 b6 bg
 have HB2:=qh (HB1.out.ext hx2)
 have b0:=HB2.out.cell 0 rfl
 have b1:=HB2.out.cell 1 rfl
 have b2:=HB2.out.cell 2 rfl
 have b3:=HB2.out.cell 3 rfl
 have b4:=HB2.out.cell 4 rfl
 have b5:=HB2.out.cell 5 rfl
 have b6:=HB2.out.cell 6 rfl
 have bg:=HB2.out.1
 by_cases c2:r2 < 0
 case pos =>
  have e2:decide (r2 < 0)=true:=decide_eq_true c2
  go_wp2_with fail
  go_ret
  exact ⟨-1,rfl,exts,by omega,by omega,fun h=>absurd h (by omega)⟩
 have e2:decide (r2 < 0)=false:=decide_eq_false c2
 have V3:IntKind.i64.wrap (r2 - (d.pl.size:Int))=r2 - (d.pl.size:Int):=IntWalk.i64_in _ (by omega)
 by_cases c3:r2 - (d.pl.size:Int) < 0
 case pos =>
  have e3:decide (r2 - (d.pl.size:Int) < 0)=true:=decide_eq_true c3
  go_wp2_with fail
  go_ret
  exact ⟨-1,rfl,exts,by omega,by omega,fun h=>absurd h (by omega)⟩
 have e3:decide (r2 - (d.pl.size:Int) < 0)=false:=decide_eq_false c3
 have V4:IntKind.i64.wrap (r2 - (d.pl.size:Int) - (d.se.size:Int))=r2 - (d.pl.size:Int) - (d.se.size:Int):=IntWalk.i64_in _ (by omega)
 by_cases c4:r2 - (d.pl.size:Int) - (d.se.size:Int) < 0
 case pos =>
  have e4:decide (r2 - (d.pl.size:Int) - (d.se.size:Int) < 0)=true:=decide_eq_true c4
  go_wp2_with fail
  go_ret
  exact ⟨-1,rfl,exts,by omega,by omega,fun h=>absurd h (by omega)⟩
 have e4:decide (r2 - (d.pl.size:Int) - (d.se.size:Int) < 0)=false:=decide_eq_false c4
 have V5:IntKind.i64.wrap (r2 - (d.pl.size:Int) - (d.se.size:Int) - (d.ha.size:Int))=r2 - (d.pl.size:Int) - (d.se.size:Int) - (d.ha.size:Int):=IntWalk.i64_in _ (by omega)
 by_cases c5:r2 - (d.pl.size:Int) - (d.se.size:Int) - (d.ha.size:Int) < 0
 case pos =>
  have e5:decide (r2 - (d.pl.size:Int) - (d.se.size:Int) - (d.ha.size:Int) < 0)=true:=decide_eq_true c5
  go_wp2_with fail
  go_ret
  exact ⟨-1,rfl,exts,by omega,by omega,fun h=>absurd h (by omega)⟩
 have e5:decide (r2 - (d.pl.size:Int) - (d.se.size:Int) - (d.ha.size:Int) < 0)=false:=decide_eq_false c5
 go_wp2_with fail
 refine Calls.mono (laws_szStringS vc d.ci (r2 - (d.pl.size:Int) - (d.se.size:Int) - (d.ha.size:Int)) _ (by omega) (by omega) (H.out.up exts).2.2 Hz.out.2.2.2.2.2.2) ?_
 rintro e w3 ⟨r3,rfl,hx3,ra3,rb3,rc3⟩
 have Rc3:=qh rc3
 clear rc3
 by_cases c6:r3 < 0
 case pos =>
  have e6:decide (r3 < 0)=true:=decide_eq_true c6
  go_wp2_with fail
  go_ret
  exact ⟨-1,rfl,exts,by omega,by omega,fun h=>absurd h (by omega)⟩
 have e6:decide (r3 < 0)=false:=decide_eq_false c6
 go_wp2_with fail
 go_ret
 refine ⟨r3,rfl,exts,by omega,by omega,fun _=>?_⟩
 have p1:=(Rc1.out (by omega)).1
 have p2:=(Rc2.out (by omega)).1
 have p3:=(Rc3.out (by omega)).1
 exact ⟨by omega,by omega,by omega⟩
set_option maxRecDepth 100000 in
set_option maxHeartbeats 4000000 in
theorem laws_szDeedS (v:Value) (l:List Ded) (left:Int) (w:World) (hl:left ≤ 1048576) (h0:0 ≤ left) (h:Deds w 0 w.heap.size v l) (hz:DsMx l):Calls Tryz.prog 9 #[v,.int .i64 left] w (SzPost left (DsLn l) w):=by
 obtain ⟨A,c,rfl,hn,hc⟩:=h.len
 have H:=qh h
 have Hz:=qh hz
 clear h hz
 have W0:IntKind.i64.wrap (left - (l.length:Int))=left - (l.length:Int):=IntWalk.i64_in _ (by omega)
 go_enter Tryz.func9,Tryz.ntmps9
 by_cases c0:left - (l.length:Int) < 0
 case pos =>
  have d0:decide (left - (l.length:Int) < 0)=true:=decide_eq_true c0
  go_wp2_with fail
  go_ret
  exact ⟨-1,rfl,exts,by omega,by omega,fun h=>absurd h (by omega)⟩
 have d0:decide (left - (l.length:Int) < 0)=false:=decide_eq_false c0
 go_wp2_with fail
 go_loopg [1,5] l.length (fun q t i wr=>∃ (j:Nat) (r:Int),j+q=l.length∧i=.int .i64 j∧t=.int .i64 r∧0 ≤ r∧r ≤ left - (l.length:Int)∧Ext w wr∧∀ i,i < j → DLn (dedAt l i))
 case atStart=>exact ⟨0,_,by omega,rfl,rfl,by omega,by omega,exts,fun i hi=>absurd hi (by omega)⟩
 case round =>
  obtain ⟨j,r,hj,rfl,rfl,hr0,hr1,hx,hok⟩:=hrel
  have Hok:=qh hok
  clear hok
  by_cases hlt:j < l.length
  ·obtain ⟨b,off,vd,vw,vc,rfl,_,hb,h1,h2,h3,h4,h5,h6,h7,kd,kw,kc⟩:=(H.out.up hx).at_ hlt
   have K:=qh (show DedM wr 0 wr.heap.size vd vw vc (dedAt l j) from ⟨kd,kw,kc⟩)
   clear kd kw kc
   go_wp2_with fail
   refine Calls.mono (laws_szDeed vd vw vc (dedAt l j) r wr (by omega) hr0 K.out (Hz.out j hlt)) ?_
   rintro e w1 ⟨r1,rfl,hx1,ra,rb,rc⟩
   have Rc:=qh rc
   clear rc
   by_cases cj:r1 < 0
   ·have dj:decide (r1 < 0)=true:=decide_eq_true cj
    go_wp2_with fail
    go_ret
    exact ⟨-1,rfl,exts,by omega,by omega,fun h=>absurd h (by omega)⟩
   ·have dj:decide (r1 < 0)=false:=decide_eq_false cj
    go_wp2_with fail
    go_roundg (l.length - (j+1))
    case measure=>omega
    case rel =>
     refine ⟨j+1,r1,by omega,by go_num,rfl,by omega,by omega,exts,fun i hi=>?_⟩
     by_cases e:i=j
     ·subst e;exact Rc.out (by omega)
     ·exact Hok.out i (by omega)
  ·obtain rfl:j=l.length:=by omega
   go_wp2_with fail
   go_ret
   exact ⟨r,rfl,exts,by omega,by omega,fun _=>⟨by omega,Hok.out⟩⟩
set_option maxRecDepth 100000 in
set_option maxHeartbeats 4000000 in
theorem laws_eqDeed (vd vw vc ud uw uc:Value) (d:Ded) (w:World) (h:DedM w 0 w.heap.size vd vw vc d) (k:DedM w 0 w.heap.size ud uw uc d):Calls Tryz.prog 61 #[.agg #[.string d.nm,vd,vw,.string d.pl,.string d.se,.string d.ha,vc],.agg #[.string d.nm,ud,uw,.string d.pl,.string d.se,.string d.ha,uc]] w (RetX (.bool true) w):=by
 have H:=qh h
 have K:=qh k
 clear h k
 have s0:=str_same d.nm
 have s3:=str_same d.pl
 have s4:=str_same d.se
 have s5:=str_same d.ha
 have Ha:=qh (Boxed.new w [.string d.nm,vd,vw,.string d.pl,.string d.se,.string d.ha,vc] 101)
 have Hb:=qh (Boxed.new (w.alloc (.cells #[.string d.nm,vd,vw,.string d.pl,.string d.se,.string d.ha,vc] 101)) [.string d.nm,ud,uw,.string d.pl,.string d.se,.string d.ha,uc] 101)
 go_enter Tryz.func61,Tryz.ntmps61
 go_wp2_with fail
 refine Calls.mono (laws_eqClauseS vd ud d.dt _ (H.out.up exts).1 (K.out.up exts).1) ?_
 rintro e w1 ⟨rfl,hx1⟩
 have hb' := Hb.out.ext hx1
 rw [World.size_alloc] at hb'
 have HA1:=qh ((Ha.out.ext ((Ext.refl _).alloc _)).ext hx1)
 have HB1:=qh hb'
 clear hb'
 have a0:=HA1.out.cell 0 rfl
 have b0:=HB1.out.cell 0 rfl
 have a1:=HA1.out.cell 1 rfl
 have b1:=HB1.out.cell 1 rfl
 have a2:=HA1.out.cell 2 rfl
 have b2:=HB1.out.cell 2 rfl
 have a3:=HA1.out.cell 3 rfl
 have b3:=HB1.out.cell 3 rfl
 have a4:=HA1.out.cell 4 rfl
 have b4:=HB1.out.cell 4 rfl
 have a5:=HA1.out.cell 5 rfl
 have b5:=HB1.out.cell 5 rfl
 have a6:=HA1.out.cell 6 rfl
 have b6:=HB1.out.cell 6 rfl
 have ag:=HA1.out.1
 have bg:=HB1.out.1
 go_wp2_with fail
 refine Calls.mono (laws_eqWitnessS vw uw d.wi _ (H.out.up exts).2.1 (K.out.up exts).2.1) ?_
 rintro e w2 ⟨rfl,hx2⟩
 clear a0 b0 a1 b1 a2 b2 a3 b3 a4 b4 a5 b5 a6 b6 ag bg
 have HA2:=qh (HA1.out.ext hx2)
 have HB2:=qh (HB1.out.ext hx2)
 have a0:=HA2.out.cell 0 rfl
 have b0:=HB2.out.cell 0 rfl
 have a1:=HA2.out.cell 1 rfl
 have b1:=HB2.out.cell 1 rfl
 have a2:=HA2.out.cell 2 rfl
 have b2:=HB2.out.cell 2 rfl
 have a3:=HA2.out.cell 3 rfl
 have b3:=HB2.out.cell 3 rfl
 have a4:=HA2.out.cell 4 rfl
 have b4:=HB2.out.cell 4 rfl
 have a5:=HA2.out.cell 5 rfl
 have b5:=HB2.out.cell 5 rfl
 have a6:=HA2.out.cell 6 rfl
 have b6:=HB2.out.cell 6 rfl
 have ag:=HA2.out.1
 have bg:=HB2.out.1
 go_wp2_with fail
 refine Calls.mono (laws_eqStringS vc uc d.ci _ (H.out.up exts).2.2 (K.out.up exts).2.2) ?_
 rintro e w3 ⟨rfl,hx3⟩
 clear a0 b0 a1 b1 a2 b2 a3 b3 a4 b4 a5 b5 a6 b6 ag bg
 have HA3:=qh (HA2.out.ext hx3)
 have HB3:=qh (HB2.out.ext hx3)
 have a0:=HA3.out.cell 0 rfl
 have b0:=HB3.out.cell 0 rfl
 have a1:=HA3.out.cell 1 rfl
 have b1:=HB3.out.cell 1 rfl
 have a2:=HA3.out.cell 2 rfl
 have b2:=HB3.out.cell 2 rfl
 have a3:=HA3.out.cell 3 rfl
 have b3:=HB3.out.cell 3 rfl
 have a4:=HA3.out.cell 4 rfl
 have b4:=HB3.out.cell 4 rfl
 have a5:=HA3.out.cell 5 rfl
 have b5:=HB3.out.cell 5 rfl
 have a6:=HA3.out.cell 6 rfl
 have b6:=HB3.out.cell 6 rfl
 have ag:=HA3.out.1
 have bg:=HB3.out.1
 go_wp2_with fail
 go_ret
 exact ⟨rfl,exts⟩
set_option maxRecDepth 100000 in
set_option maxHeartbeats 4000000 in
theorem laws_eqDeedS (v v' : Value) (l:List Ded) (w:World) (h:Deds w 0 w.heap.size v l) (h' : Deds w 0 w.heap.size v' l):Calls Tryz.prog 16 #[v,v'] w (RetX (.bool true) w):=by
 obtain ⟨A,c,rfl,hn,hc⟩:=h.len
 obtain ⟨A', c', rfl,_,hc'⟩:=h'.len
 have H:=qh h
 have H' := qh h'
 clear h h'
 go_enter Tryz.func16,Tryz.ntmps16
 go_wp2_with fail
 go_loopg [5] l.length (fun q i wr=>∃ j:Nat,j+q=l.length∧i=.int .i64 j∧Ext w wr)
 case atStart=>exact ⟨0,by omega,rfl,Ext.refl _⟩
 case round =>
  obtain ⟨j,hj,rfl,hx⟩:=hrel
  by_cases hlt:j < l.length
  ·obtain ⟨b,off,vd,vw,vc,rfl,_,hb,h1,h2,h3,h4,h5,h6,h7,kd,kw,kc⟩:=(H.out.up hx).at_ hlt
   obtain ⟨b', off', ud,uw,uc,rfl,_,hb', g1,g2,g3,g4,g5,g6,g7,md,mw,mc⟩:=(H'.out.up hx).at_ hlt
   have K:=qh (show DedM wr 0 wr.heap.size vd vw vc (dedAt l j) from ⟨kd,kw,kc⟩)
   have M:=qh (show DedM wr 0 wr.heap.size ud uw uc (dedAt l j) from ⟨md,mw,mc⟩)
   clear kd kw kc md mw mc
   have hbr:b < wr.heap.size:=hb
   have hbr' : b' < wr.heap.size:=hb'
   go_wp2_with fail
   (refine wp_region_onto prog_mixed (by kernel_rfl) ?_;(repeat (go_big_quiet_step ((go_at_call 61;exact onto_callX (laws_eqDeed vd vw vc ud uw uc (dedAt l j) _ (K.out.up (onto_ext _ _)) (M.out.up (onto_ext _ _)))))));refine onto_end ?_;intro w1 hx1)
   go_wp2_with fail
   go_roundg (l.length - (j+1))
   case measure=>omega
   case rel=>exact ⟨j+1,by omega,by go_num,exts⟩
  ·obtain rfl:j=l.length:=by omega
   go_wp2_with fail
   go_ret
   exact ⟨rfl,exts⟩
def DedC (w:World) (lo hi:Nat) (vd vw vc:Value) (d:Ded):Prop:=RowO w lo hi 8 vd d.dt.length (clsCell d.dt)∧RowO w lo hi 2 vw d.wi.length (witCell d.wi)∧RowO w lo hi 1 vc d.ci.length (strCell d.ci)
def NewDeed (d:Ded) (w:World) (e:Ending) (w' : World):Prop:=∃ yd yw yc,e=.returned (.agg #[.string d.nm,yd,yw,.string d.pl,.string d.se,.string d.ha,yc])∧Ext w w' ∧ DedC w' w.heap.size w'.heap.size yd yw yc d
set_option maxRecDepth 100000 in
set_option maxHeartbeats 4000000 in
theorem laws_toDeed (vd vw vc:Value) (d:Ded) (w:World) (h:DedM w 0 w.heap.size vd vw vc d) (hl:DLn d):Calls Tryz.prog 50 #[.agg #[.string d.nm,vd,vw,.string d.pl,.string d.se,.string d.ha,vc]] w (NewDeed d w):=by
 have H:=qh h
 have Hl:=qh hl
 clear h hl
 have HAs0:=qh (show Boxed (((w.alloc (.cells #[.string d.nm,vd,vw,.string d.pl,.string d.se,.string d.ha,vc] 93)).alloc (.cells #[.string ⟨#[]⟩,.slice none 0 0,.slice none 0 0,.string ⟨#[]⟩,.string ⟨#[]⟩,.string ⟨#[]⟩,.slice none 0 0] 101)).alloc (.cells #[.string d.nm,.slice none 0 0,.slice none 0 0,.string ⟨#[]⟩,.string ⟨#[]⟩,.string ⟨#[]⟩,.slice none 0 0] 101)) w.heap.size [.string d.nm,vd,vw,.string d.pl,.string d.se,.string d.ha,vc] from (Boxed.new w [.string d.nm,vd,vw,.string d.pl,.string d.se,.string d.ha,vc] 93).ext (((Ext.refl _).alloc _).alloc _))
 have HRs0:=qh (show Boxed (((w.alloc (.cells #[.string d.nm,vd,vw,.string d.pl,.string d.se,.string d.ha,vc] 93)).alloc (.cells #[.string ⟨#[]⟩,.slice none 0 0,.slice none 0 0,.string ⟨#[]⟩,.string ⟨#[]⟩,.string ⟨#[]⟩,.slice none 0 0] 101)).alloc (.cells #[.string d.nm,.slice none 0 0,.slice none 0 0,.string ⟨#[]⟩,.string ⟨#[]⟩,.string ⟨#[]⟩,.slice none 0 0] 101)) (w.heap.size+1) [.string ⟨#[]⟩,.slice none 0 0,.slice none 0 0,.string ⟨#[]⟩,.string ⟨#[]⟩,.string ⟨#[]⟩,.slice none 0 0] from (by have t:=(Boxed.new (w.alloc (.cells #[.string d.nm,vd,vw,.string d.pl,.string d.se,.string d.ha,vc] 93)) [.string ⟨#[]⟩,.slice none 0 0,.slice none 0 0,.string ⟨#[]⟩,.string ⟨#[]⟩,.string ⟨#[]⟩,.slice none 0 0] 101).ext ((Ext.refl _).alloc (.cells #[.string d.nm,.slice none 0 0,.slice none 0 0,.string ⟨#[]⟩,.string ⟨#[]⟩,.string ⟨#[]⟩,.slice none 0 0] 101));rw [World.size_alloc] at t;exact t))
 have HOs0:=qh (show Boxed (((w.alloc (.cells #[.string d.nm,vd,vw,.string d.pl,.string d.se,.string d.ha,vc] 93)).alloc (.cells #[.string ⟨#[]⟩,.slice none 0 0,.slice none 0 0,.string ⟨#[]⟩,.string ⟨#[]⟩,.string ⟨#[]⟩,.slice none 0 0] 101)).alloc (.cells #[.string d.nm,.slice none 0 0,.slice none 0 0,.string ⟨#[]⟩,.string ⟨#[]⟩,.string ⟨#[]⟩,.slice none 0 0] 101)) (w.heap.size+2) [.string d.nm,.slice none 0 0,.slice none 0 0,.string ⟨#[]⟩,.string ⟨#[]⟩,.string ⟨#[]⟩,.slice none 0 0] from (by have t:=Boxed.new ((w.alloc (.cells #[.string d.nm,vd,vw,.string d.pl,.string d.se,.string d.ha,vc] 93)).alloc (.cells #[.string ⟨#[]⟩,.slice none 0 0,.slice none 0 0,.string ⟨#[]⟩,.string ⟨#[]⟩,.string ⟨#[]⟩,.slice none 0 0] 101)) [.string d.nm,.slice none 0 0,.slice none 0 0,.string ⟨#[]⟩,.string ⟨#[]⟩,.string ⟨#[]⟩,.slice none 0 0] 101;rw [World.size_alloc,World.size_alloc] at t;exact t))
 have hxs0:Ext w (((w.alloc (.cells #[.string d.nm,vd,vw,.string d.pl,.string d.se,.string d.ha,vc] 93)).alloc (.cells #[.string ⟨#[]⟩,.slice none 0 0,.slice none 0 0,.string ⟨#[]⟩,.string ⟨#[]⟩,.string ⟨#[]⟩,.slice none 0 0] 101)).alloc (.cells #[.string d.nm,.slice none 0 0,.slice none 0 0,.string ⟨#[]⟩,.string ⟨#[]⟩,.string ⟨#[]⟩,.slice none 0 0] 101)):=exts
 have hzs0:(((w.alloc (.cells #[.string d.nm,vd,vw,.string d.pl,.string d.se,.string d.ha,vc] 93)).alloc (.cells #[.string ⟨#[]⟩,.slice none 0 0,.slice none 0 0,.string ⟨#[]⟩,.string ⟨#[]⟩,.string ⟨#[]⟩,.slice none 0 0] 101)).alloc (.cells #[.string d.nm,.slice none 0 0,.slice none 0 0,.string ⟨#[]⟩,.string ⟨#[]⟩,.string ⟨#[]⟩,.slice none 0 0] 101)).heap.size=w.heap.size+3:=by simp only [World.size_alloc]
 go_enter Tryz.func50,Tryz.ntmps50
 go_wp2_with fail
 generalize hW0:(((w.alloc (.cells #[.string d.nm,vd,vw,.string d.pl,.string d.se,.string d.ha,vc] 93)).alloc (.cells #[.string ⟨#[]⟩,.slice none 0 0,.slice none 0 0,.string ⟨#[]⟩,.string ⟨#[]⟩,.string ⟨#[]⟩,.slice none 0 0] 101)).alloc (.cells #[.string d.nm,.slice none 0 0,.slice none 0 0,.string ⟨#[]⟩,.string ⟨#[]⟩,.string ⟨#[]⟩,.slice none 0 0] 101))=w0s at *
 clear hW0
 refine Calls.mono (laws_toClauseS vd d.dt 0 _ _ (H.out.up hxs0).1 (Nat.le_refl _) Hl.out.1) ?_
 rintro e w1 ⟨y1,g1,rfl,hx1,hg1,ho1⟩
 have HA1:=qh (HAs0.out.ext hx1)
 have HR1:=qh (HRs0.out.ext hx1)
 have HO1:=qh (HOs0.out.ext hx1)
 have hxw1:Ext w w1:=hxs0.trans hx1
 have q1:RowO w1 (w.heap.size+3) w1.heap.size 8 y1 d.dt.length (clsCell d.dt):=RowO.of_own ho1 (fun hn=>⟨by have:=hg1 hn;omega,ho1.lt hn⟩)
 clear ho1 hg1
 have hzz1:w.heap.size+3 ≤ w1.heap.size:=by have:=hx1.size;omega
 have sl1:∃ A c,y1=.slice A d.dt.length c:=RowO.sl q1
 obtain ⟨Y1,C1,rfl⟩:=sl1
 have Q1:=qh q1
 clear q1 hx1 hzs0
 have a0:=HA1.out.cell 0 rfl
 have r0:=HR1.out.cell 0 rfl
 have o0:=HO1.out.cell 0 rfl
 have rf0:=HR1.out.fz 0 (by simp)
 have of0:=HO1.out.fz 0 (by simp)
 have a1:=HA1.out.cell 1 rfl
 have r1:=HR1.out.cell 1 rfl
 have o1:=HO1.out.cell 1 rfl
 have rf1:=HR1.out.fz 1 (by simp)
 have of1:=HO1.out.fz 1 (by simp)
 have a2:=HA1.out.cell 2 rfl
 have r2:=HR1.out.cell 2 rfl
 have o2:=HO1.out.cell 2 rfl
 have rf2:=HR1.out.fz 2 (by simp)
 have of2:=HO1.out.fz 2 (by simp)
 have a3:=HA1.out.cell 3 rfl
 have r3:=HR1.out.cell 3 rfl
 have o3:=HO1.out.cell 3 rfl
 have rf3:=HR1.out.fz 3 (by simp)
 have of3:=HO1.out.fz 3 (by simp)
 have a4:=HA1.out.cell 4 rfl
 have r4:=HR1.out.cell 4 rfl
 have o4:=HO1.out.cell 4 rfl
 have rf4:=HR1.out.fz 4 (by simp)
 have of4:=HO1.out.fz 4 (by simp)
 have a5:=HA1.out.cell 5 rfl
 have r5:=HR1.out.cell 5 rfl
 have o5:=HO1.out.cell 5 rfl
 have rf5:=HR1.out.fz 5 (by simp)
 have of5:=HO1.out.fz 5 (by simp)
 have a6:=HA1.out.cell 6 rfl
 have r6:=HR1.out.cell 6 rfl
 have o6:=HO1.out.cell 6 rfl
 have rf6:=HR1.out.fz 6 (by simp)
 have of6:=HO1.out.fz 6 (by simp)
 have ag:=HA1.out.1
 have rg:=HR1.out.1
 have og:=HO1.out.1
 go_wp2_with fail
 have HAs1:=qh (HA1.out.setOther (p:=⟨w.heap.size+2,1,none⟩) (by show w.heap.size ≠ w.heap.size+2;omega) (.slice Y1 d.dt.length C1))
 have HRs1:=qh (HR1.out.setOther (p:=⟨w.heap.size+2,1,none⟩) (by show w.heap.size+1 ≠ w.heap.size+2;omega) (.slice Y1 d.dt.length C1))
 have HOs1:=qh (HO1.out.set 1 (.slice Y1 d.dt.length C1) (by simp))
 have hxs1:Ext w (w1.setCell ⟨w.heap.size+2,1,none⟩ (.slice Y1 d.dt.length C1)):=(Ext.setCell hxw1 (p:=⟨w.heap.size+2,1,none⟩) (by show w.heap.size ≤ w.heap.size+2;omega) (.slice Y1 d.dt.length C1))
 have s1:=qh (RowO.setLow (p:=⟨w.heap.size+2,1,none⟩) Q1.out (by show w.heap.size+2 < w.heap.size+3;omega) (.slice Y1 d.dt.length C1))
 clear Q1
 have Q1:=s1
 clear s1
 have hz1:(w1.setCell ⟨w.heap.size+2,1,none⟩ (.slice Y1 d.dt.length C1)).heap.size=w1.heap.size:=by simp only [World.size_setCell]
 have hzs1:w.heap.size+3 ≤ (w1.setCell ⟨w.heap.size+2,1,none⟩ (.slice Y1 d.dt.length C1)).heap.size:=by rw [hz1];exact hzz1
 clear a0 r0 o0 rf0 of0 a1 r1 o1 rf1 of1 a2 r2 o2 rf2 of2 a3 r3 o3 rf3 of3 a4 r4 o4 rf4 of4 a5 r5 o5 rf5 of5 a6 r6 o6 rf6 of6 ag rg og
 generalize (w1.setCell ⟨w.heap.size+2,1,none⟩ (.slice Y1 d.dt.length C1))=w1s at *
 rw [← hz1] at Q1
 clear hz1 hzz1
 refine Calls.mono (laws_toWitnessS vw d.wi 0 _ _ (H.out.up hxs1).2.1 (Nat.le_refl _) Hl.out.2.1) ?_
 rintro e w2 ⟨y2,g2,rfl,hx2,hg2,ho2⟩
 have HA2:=qh (HAs1.out.ext hx2)
 have HR2:=qh (HRs1.out.ext hx2)
 have HO2:=qh (HOs1.out.ext hx2)
 have hxw2:Ext w w2:=hxs1.trans hx2
 have t1:=qh ((RowO.ext Q1.out hx2 (Nat.le_refl _)).mono (Nat.le_refl _) hx2.size)
 clear Q1
 have Q1:=t1
 clear t1
 have q2:RowO w2 (w.heap.size+3) w2.heap.size 2 y2 d.wi.length (witCell d.wi):=RowO.of_own ho2 (fun hn=>⟨by have:=hg2 hn;omega,ho2.lt hn⟩)
 clear ho2 hg2
 have hzz2:w.heap.size+3 ≤ w2.heap.size:=by have:=hx2.size;omega
 have sl2:∃ A c,y2=.slice A d.wi.length c:=RowO.sl q2
 obtain ⟨Y2,C2,rfl⟩:=sl2
 have Q2:=qh q2
 clear q2 hx2 hzs1
 have a0:=HA2.out.cell 0 rfl
 have r0:=HR2.out.cell 0 rfl
 have o0:=HO2.out.cell 0 rfl
 have rf0:=HR2.out.fz 0 (by simp)
 have of0:=HO2.out.fz 0 (by simp)
 have a1:=HA2.out.cell 1 rfl
 have r1:=HR2.out.cell 1 rfl
 have o1:=HO2.out.cell 1 rfl
 have rf1:=HR2.out.fz 1 (by simp)
 have of1:=HO2.out.fz 1 (by simp)
 have a2:=HA2.out.cell 2 rfl
 have r2:=HR2.out.cell 2 rfl
 have o2:=HO2.out.cell 2 rfl
 have rf2:=HR2.out.fz 2 (by simp)
 have of2:=HO2.out.fz 2 (by simp)
 have a3:=HA2.out.cell 3 rfl
 have r3:=HR2.out.cell 3 rfl
 have o3:=HO2.out.cell 3 rfl
 have rf3:=HR2.out.fz 3 (by simp)
 have of3:=HO2.out.fz 3 (by simp)
 have a4:=HA2.out.cell 4 rfl
 have r4:=HR2.out.cell 4 rfl
 have o4:=HO2.out.cell 4 rfl
 have rf4:=HR2.out.fz 4 (by simp)
 have of4:=HO2.out.fz 4 (by simp)
 have a5:=HA2.out.cell 5 rfl
 have r5:=HR2.out.cell 5 rfl
 have o5:=HO2.out.cell 5 rfl
 have rf5:=HR2.out.fz 5 (by simp)
 have of5:=HO2.out.fz 5 (by simp)
 have a6:=HA2.out.cell 6 rfl
 have r6:=HR2.out.cell 6 rfl
 have o6:=HO2.out.cell 6 rfl
 have rf6:=HR2.out.fz 6 (by simp)
 have of6:=HO2.out.fz 6 (by simp)
 have ag:=HA2.out.1
 have rg:=HR2.out.1
 have og:=HO2.out.1
 go_wp2_with fail
 have HAs2:=qh ((((HA2.out.setOther (p:=⟨w.heap.size+2,2,none⟩) (by show w.heap.size ≠ w.heap.size+2;omega) (.slice Y2 d.wi.length C2)).setOther (p:=⟨w.heap.size+2,3,none⟩) (by show w.heap.size ≠ w.heap.size+2;omega) (.string d.pl)).setOther (p:=⟨w.heap.size+2,4,none⟩) (by show w.heap.size ≠ w.heap.size+2;omega) (.string d.se)).setOther (p:=⟨w.heap.size+2,5,none⟩) (by show w.heap.size ≠ w.heap.size+2;omega) (.string d.ha))
 have HRs2:=qh ((((HR2.out.setOther (p:=⟨w.heap.size+2,2,none⟩) (by show w.heap.size+1 ≠ w.heap.size+2;omega) (.slice Y2 d.wi.length C2)).setOther (p:=⟨w.heap.size+2,3,none⟩) (by show w.heap.size+1 ≠ w.heap.size+2;omega) (.string d.pl)).setOther (p:=⟨w.heap.size+2,4,none⟩) (by show w.heap.size+1 ≠ w.heap.size+2;omega) (.string d.se)).setOther (p:=⟨w.heap.size+2,5,none⟩) (by show w.heap.size+1 ≠ w.heap.size+2;omega) (.string d.ha))
 have HOs2:=qh ((((HO2.out.set 2 (.slice Y2 d.wi.length C2) (by simp)).set 3 (.string d.pl) (by simp)).set 4 (.string d.se) (by simp)).set 5 (.string d.ha) (by simp))
 have hxs2:Ext w ((((w2.setCell ⟨w.heap.size+2,2,none⟩ (.slice Y2 d.wi.length C2)).setCell ⟨w.heap.size+2,3,none⟩ (.string d.pl)).setCell ⟨w.heap.size+2,4,none⟩ (.string d.se)).setCell ⟨w.heap.size+2,5,none⟩ (.string d.ha)):=(Ext.setCell (Ext.setCell (Ext.setCell (Ext.setCell hxw2 (p:=⟨w.heap.size+2,2,none⟩) (by show w.heap.size ≤ w.heap.size+2;omega) (.slice Y2 d.wi.length C2)) (p:=⟨w.heap.size+2,3,none⟩) (by show w.heap.size ≤ w.heap.size+2;omega) (.string d.pl)) (p:=⟨w.heap.size+2,4,none⟩) (by show w.heap.size ≤ w.heap.size+2;omega) (.string d.se)) (p:=⟨w.heap.size+2,5,none⟩) (by show w.heap.size ≤ w.heap.size+2;omega) (.string d.ha))
 have s1:=qh (RowO.setLow (p:=⟨w.heap.size+2,5,none⟩) (RowO.setLow (p:=⟨w.heap.size+2,4,none⟩) (RowO.setLow (p:=⟨w.heap.size+2,3,none⟩) (RowO.setLow (p:=⟨w.heap.size+2,2,none⟩) Q1.out (by show w.heap.size+2 < w.heap.size+3;omega) (.slice Y2 d.wi.length C2)) (by show w.heap.size+2 < w.heap.size+3;omega) (.string d.pl)) (by show w.heap.size+2 < w.heap.size+3;omega) (.string d.se)) (by show w.heap.size+2 < w.heap.size+3;omega) (.string d.ha))
 clear Q1
 have Q1:=s1
 clear s1
 have s2:=qh (RowO.setLow (p:=⟨w.heap.size+2,5,none⟩) (RowO.setLow (p:=⟨w.heap.size+2,4,none⟩) (RowO.setLow (p:=⟨w.heap.size+2,3,none⟩) (RowO.setLow (p:=⟨w.heap.size+2,2,none⟩) Q2.out (by show w.heap.size+2 < w.heap.size+3;omega) (.slice Y2 d.wi.length C2)) (by show w.heap.size+2 < w.heap.size+3;omega) (.string d.pl)) (by show w.heap.size+2 < w.heap.size+3;omega) (.string d.se)) (by show w.heap.size+2 < w.heap.size+3;omega) (.string d.ha))
 clear Q2
 have Q2:=s2
 clear s2
 have hz2:((((w2.setCell ⟨w.heap.size+2,2,none⟩ (.slice Y2 d.wi.length C2)).setCell ⟨w.heap.size+2,3,none⟩ (.string d.pl)).setCell ⟨w.heap.size+2,4,none⟩ (.string d.se)).setCell ⟨w.heap.size+2,5,none⟩ (.string d.ha)).heap.size=w2.heap.size:=by simp only [World.size_setCell]
 have hzs2:w.heap.size+3 ≤ ((((w2.setCell ⟨w.heap.size+2,2,none⟩ (.slice Y2 d.wi.length C2)).setCell ⟨w.heap.size+2,3,none⟩ (.string d.pl)).setCell ⟨w.heap.size+2,4,none⟩ (.string d.se)).setCell ⟨w.heap.size+2,5,none⟩ (.string d.ha)).heap.size:=by rw [hz2];exact hzz2
 clear a0 r0 o0 rf0 of0 a1 r1 o1 rf1 of1 a2 r2 o2 rf2 of2 a3 r3 o3 rf3 of3 a4 r4 o4 rf4 of4 a5 r5 o5 rf5 of5 a6 r6 o6 rf6 of6 ag rg og
 generalize ((((w2.setCell ⟨w.heap.size+2,2,none⟩ (.slice Y2 d.wi.length C2)).setCell ⟨w.heap.size+2,3,none⟩ (.string d.pl)).setCell ⟨w.heap.size+2,4,none⟩ (.string d.se)).setCell ⟨w.heap.size+2,5,none⟩ (.string d.ha))=w2s at *
 rw [← hz2] at Q1
 rw [← hz2] at Q2
 clear hz2 hzz2
 refine Calls.mono (laws_toStringS vc d.ci 0 _ _ (H.out.up hxs2).2.2 (Nat.le_refl _) Hl.out.2.2) ?_
 rintro e w3 ⟨y6,g6,rfl,hx3,hg6,ho6⟩
 have HA3:=qh (HAs2.out.ext hx3)
 have HR3:=qh (HRs2.out.ext hx3)
 have HO3:=qh (HOs2.out.ext hx3)
 have hxw3:Ext w w3:=hxs2.trans hx3
 have t1:=qh ((RowO.ext Q1.out hx3 (Nat.le_refl _)).mono (Nat.le_refl _) hx3.size)
 clear Q1
 have Q1:=t1
 clear t1
 have t2:=qh ((RowO.ext Q2.out hx3 (Nat.le_refl _)).mono (Nat.le_refl _) hx3.size)
 clear Q2
 have Q2:=t2
 clear t2
 have q6:RowO w3 (w.heap.size+3) w3.heap.size 1 y6 d.ci.length (strCell d.ci):=RowO.of_own ho6 (fun hn=>⟨by have:=hg6 hn;omega,ho6.lt hn⟩)
 clear ho6 hg6
 have hzz3:w.heap.size+3 ≤ w3.heap.size:=by have:=hx3.size;omega
 have sl6:∃ A c,y6=.slice A d.ci.length c:=RowO.sl q6
 obtain ⟨Y6,C6,rfl⟩:=sl6
 have Q6:=qh q6
 clear q6 hx3 hzs2
 have a0:=HA3.out.cell 0 rfl
 have r0:=HR3.out.cell 0 rfl
 have o0:=HO3.out.cell 0 rfl
 have rf0:=HR3.out.fz 0 (by simp)
 have of0:=HO3.out.fz 0 (by simp)
 have a1:=HA3.out.cell 1 rfl
 have r1:=HR3.out.cell 1 rfl
 have o1:=HO3.out.cell 1 rfl
 have rf1:=HR3.out.fz 1 (by simp)
 have of1:=HO3.out.fz 1 (by simp)
 have a2:=HA3.out.cell 2 rfl
 have r2:=HR3.out.cell 2 rfl
 have o2:=HO3.out.cell 2 rfl
 have rf2:=HR3.out.fz 2 (by simp)
 have of2:=HO3.out.fz 2 (by simp)
 have a3:=HA3.out.cell 3 rfl
 have r3:=HR3.out.cell 3 rfl
 have o3:=HO3.out.cell 3 rfl
 have rf3:=HR3.out.fz 3 (by simp)
 have of3:=HO3.out.fz 3 (by simp)
 have a4:=HA3.out.cell 4 rfl
 have r4:=HR3.out.cell 4 rfl
 have o4:=HO3.out.cell 4 rfl
 have rf4:=HR3.out.fz 4 (by simp)
 have of4:=HO3.out.fz 4 (by simp)
 have a5:=HA3.out.cell 5 rfl
 have r5:=HR3.out.cell 5 rfl
 have o5:=HO3.out.cell 5 rfl
 have rf5:=HR3.out.fz 5 (by simp)
 have of5:=HO3.out.fz 5 (by simp)
 have a6:=HA3.out.cell 6 rfl
 have r6:=HR3.out.cell 6 rfl
 have o6:=HO3.out.cell 6 rfl
 have rf6:=HR3.out.fz 6 (by simp)
 have of6:=HO3.out.fz 6 (by simp)
 have ag:=HA3.out.1
 have rg:=HR3.out.1
 have og:=HO3.out.1
 go_wp2_with fail
 refine bodyPost_ret (v:=.agg #[.string d.nm,.slice Y1 d.dt.length C1,.slice Y2 d.wi.length C2,.string d.pl,.string d.se,.string d.ha,.slice Y6 d.ci.length C6]) (by simp [results,Tryz.results50,go_sem, *]) rfl ⟨_,_,_,rfl,?_,?_,?_,?_⟩
 ·repeat (with_reducible refine Ext.setCell ?_ (by first | (show w.heap.size ≤ w.heap.size+_;omega) | (simp;omega)) _)
  with_reducible exact hxw3
 ·refine RowO.mono (lo:=w.heap.size+3) (hi:=w3.heap.size) ?_ (by omega) (by simp only [World.size_setCell];omega)
  repeat (with_reducible refine RowO.setLow ?_ (by first | (show w.heap.size+1 < w.heap.size+3;omega) | (show w.heap.size+1+1 < w.heap.size+3;omega) | (show w.heap.size+2 < w.heap.size+3;omega)) _)
  with_reducible exact Q1.out
 ·refine RowO.mono (lo:=w.heap.size+3) (hi:=w3.heap.size) ?_ (by omega) (by simp only [World.size_setCell];omega)
  repeat (with_reducible refine RowO.setLow ?_ (by first | (show w.heap.size+1 < w.heap.size+3;omega) | (show w.heap.size+1+1 < w.heap.size+3;omega) | (show w.heap.size+2 < w.heap.size+3;omega)) _)
  with_reducible exact Q2.out
 ·refine RowO.mono (lo:=w.heap.size+3) (hi:=w3.heap.size) ?_ (by omega) (by simp only [World.size_setCell];omega)
  repeat (with_reducible refine RowO.setLow ?_ (by first | (show w.heap.size+1 < w.heap.size+3;omega) | (show w.heap.size+1+1 < w.heap.size+3;omega) | (show w.heap.size+2 < w.heap.size+3;omega)) _)
  with_reducible exact Q6.out
structure DedO (w:World) (lo hi:Nat) (f:Nat → Value) (i:Nat) (d:Ded):Prop where
 nm:f (i * 7)=.string d.nm
 pl:f (i * 7+3)=.string d.pl
 se:f (i * 7+4)=.string d.se
 ha:f (i * 7+5)=.string d.ha
 ls:DedC w lo hi (f (i * 7+1)) (f (i * 7+2)) (f (i * 7+6)) d
def DedsO (w:World) (lo hi:Nat) (v:Value) (l:List Ded):Prop:=∃ b f,(0 < l.length → lo ≤ b∧b < hi)∧Own w b 7 v l.length f∧∀ i,i < l.length → DedO w (b+1) hi f i (dedAt l i)
theorem DedC.setLow {w:World} {lo hi:Nat} {vd vw vc:Value} {d:Ded} (h:DedC w lo hi vd vw vc d) {p:Addr} (hp:p.block < lo) (u:Value):DedC (w.setCell p u) lo hi vd vw vc d:=⟨h.1.setLow hp u,h.2.1.setLow hp u,h.2.2.setLow hp u⟩
theorem DedC.set7 {w:World} {lo b:Nat} {vd vw vc:Value} {d:Ded} (h:DedC w lo w.heap.size vd vw vc d) (hb:b < lo) (o0 o1 o2 o3 o4 o5 o6:Nat) (u0 u1 u2 u3 u4 u5 u6:Value):DedC (((((((w.setCell ⟨b,o0,none⟩ u0).setCell ⟨b,o1,none⟩ u1).setCell ⟨b,o2,none⟩ u2).setCell ⟨b,o3,none⟩ u3).setCell ⟨b,o4,none⟩ u4).setCell ⟨b,o5,none⟩ u5).setCell ⟨b,o6,none⟩ u6) lo (((((((w.setCell ⟨b,o0,none⟩ u0).setCell ⟨b,o1,none⟩ u1).setCell ⟨b,o2,none⟩ u2).setCell ⟨b,o3,none⟩ u3).setCell ⟨b,o4,none⟩ u4).setCell ⟨b,o5,none⟩ u5).setCell ⟨b,o6,none⟩ u6).heap.size vd vw vc d:=by
 have t:=(DedC.setLow (DedC.setLow (DedC.setLow (DedC.setLow (DedC.setLow (DedC.setLow (DedC.setLow h (p:=⟨b,o0,none⟩) hb u0) (p:=⟨b,o1,none⟩) hb u1) (p:=⟨b,o2,none⟩) hb u2) (p:=⟨b,o3,none⟩) hb u3) (p:=⟨b,o4,none⟩) hb u4) (p:=⟨b,o5,none⟩) hb u5) (p:=⟨b,o6,none⟩) hb u6)
 have e:(((((((w.setCell ⟨b,o0,none⟩ u0).setCell ⟨b,o1,none⟩ u1).setCell ⟨b,o2,none⟩ u2).setCell ⟨b,o3,none⟩ u3).setCell ⟨b,o4,none⟩ u4).setCell ⟨b,o5,none⟩ u5).setCell ⟨b,o6,none⟩ u6).heap.size=w.heap.size:=by simp only [World.size_setCell]
 rw [e]
 exact t
theorem DedC.ext {w w' : World} {lo hi:Nat} {vd vw vc:Value} {d:Ded} (h:DedC w lo hi vd vw vc d) (hx:Ext w w') (hh:hi ≤ w.heap.size):DedC w' lo hi vd vw vc d:=⟨h.1.ext hx hh,h.2.1.ext hx hh,h.2.2.ext hx hh⟩
theorem DedC.mono {w:World} {lo hi lo' hi' : Nat} {vd vw vc:Value} {d:Ded} (h:DedC w lo hi vd vw vc d) (h1:lo' ≤ lo) (h2:hi ≤ hi'):DedC w lo' hi' vd vw vc d:=⟨h.1.mono h1 h2,h.2.1.mono h1 h2,h.2.2.mono h1 h2⟩
theorem DedO.ext {w w' : World} {lo hi i:Nat} {f:Nat → Value} {d:Ded} (h:DedO w lo hi f i d) (hx:Ext w w') (hh:hi ≤ w.heap.size):DedO w' lo hi f i d:=⟨h.nm,h.pl,h.se,h.ha,h.ls.ext hx hh⟩
theorem DedsO.ext {w w' : World} {lo hi:Nat} {v:Value} {l:List Ded} (h:DedsO w lo hi v l) (hx:Ext w w') (hh:hi ≤ w.heap.size):DedsO w' lo hi v l:=by
 obtain ⟨b,f,h1,h2,h3⟩:=h
 exact ⟨b,f,h1,h2.ext hx,fun i hi=>(h3 i hi).ext hx hh⟩
theorem DedsO.deds {w:World} {lo hi:Nat} {v:Value} {l:List Ded} (h:DedsO w lo hi v l):Deds w lo hi v l:=by
 obtain ⟨b,f,h1,h2,h3⟩:=h
 refine ⟨f,h2.row h1,fun i hi=>?_⟩
 have hb:=(h1 (by omega)).1
 obtain ⟨a,c,d,e,k⟩:=h3 i hi
 have k:=k.mono (show lo ≤ b+1 by omega) (Nat.le_refl _)
 exact ⟨a,k.1.1,k.2.1.1,c,d,e,k.2.2.1⟩
def NewDeeds (l:List Ded) (w:World) (e:Ending) (w' : World):Prop:=∃ v,e=.returned v∧Ext w w' ∧ DedsO w' w.heap.size w'.heap.size v l
set_option maxRecDepth 100000 in
set_option maxHeartbeats 4000000 in
theorem laws_toDeedS (v:Value) (l:List Ded) (w:World) (h:Deds w 0 w.heap.size v l) (hl:DsLn l):Calls Tryz.prog 12 #[v] w (NewDeeds l w):=by
 obtain ⟨A,c,rfl,hn,hc⟩:=h.len
 have H:=qh h
 have hsm:=hl.1
 have Hl:=qh hl
 clear h hl
 go_enter Tryz.func12,Tryz.ntmps12
 go_wp2_with (at_make;refine wpList_make_blk _ rfl _ _ 58 rfl 101 7 136 Tryz.underlying58 (by kernel_rfl) l.length rfl rfl (by omega) (by unfold maxLen;omega) ?_;intro w0 f0 hx0 hb0)
 have Hb0:=qh hb0
 clear hb0
 go_wp2_with fail
 go_loopg [4] l.length (fun m i wr=>∃ (j:Nat) (f:Nat → Value),j+m=l.length∧i=.int .i64 j∧Ext w wr∧Blk wr w.heap.size (l.length * 7) f∧∀ i,i < j → DedO wr (w.heap.size+1) wr.heap.size f i (dedAt l i))
 case atStart=>exact ⟨0,f0,by omega,rfl,exts,Hb0.out,fun i hi=>absurd hi (by omega)⟩
 case round =>
  obtain ⟨j,f,hj,rfl,hx,hbl,hok⟩:=hrel
  have Hok:=qh hok
  clear hok
  have hbgr:=hbl.1
  by_cases hlt:j < l.length
  ·obtain ⟨b,off,vd,vw,vc,rfl,_,hb,h1,h2,h3,h4,h5,h6,h7,kd,kw,kc⟩:=(H.out.up hx).at_ hlt
   have K:=qh (show DedM wr 0 wr.heap.size vd vw vc (dedAt l j) from ⟨kd,kw,kc⟩)
   clear kd kw kc
   go_wp2_with fail
   refine Calls.mono (laws_toDeed vd vw vc (dedAt l j) wr K.out (Hl.out.2 j hlt)) ?_
   rintro e w1 ⟨y1,y2,y6,rfl,hx1,q⟩
   obtain ⟨⟨Y1,C1,rfl⟩,⟨Y2,C2,rfl⟩,⟨Y6,C6,rfl⟩⟩:(∃ A c,y1=.slice A (dedAt l j).dt.length c)∧(∃ A c,y2=.slice A (dedAt l j).wi.length c)∧(∃ A c,y6=.slice A (dedAt l j).ci.length c):=⟨q.1.sl,q.2.1.sl,q.2.2.sl⟩
   have Q:=qh (DedC.mono q (show w.heap.size+1 ≤ wr.heap.size by omega) (Nat.le_refl _))
   clear q
   have Hx1:=qh hx1
   have hc0:=(hbl.ext hx1).2 (j * 7) (by omega)
   have hc0a:=hc0.1
   have hc0b:=hc0.2
   have hc1:=(hbl.ext hx1).2 (j * 7+1) (by omega)
   have hc1a:=hc1.1
   have hc1b:=hc1.2
   have hc2:=(hbl.ext hx1).2 (j * 7+2) (by omega)
   have hc2a:=hc2.1
   have hc2b:=hc2.2
   have hc3:=(hbl.ext hx1).2 (j * 7+3) (by omega)
   have hc3a:=hc3.1
   have hc3b:=hc3.2
   have hc4:=(hbl.ext hx1).2 (j * 7+4) (by omega)
   have hc4a:=hc4.1
   have hc4b:=hc4.2
   have hc5:=(hbl.ext hx1).2 (j * 7+5) (by omega)
   have hc5a:=hc5.1
   have hc5b:=hc5.2
   have hc6:=(hbl.ext hx1).2 (j * 7+6) (by omega)
   have hc6a:=hc6.1
   have hc6b:=hc6.2
   have Hbl:=qh (hbl.ext hx1)
   clear hbl
   have hbg:=Hbl.out.1
   go_wp2_with fail
   go_roundg (l.length - (j+1))
   case measure=>omega
   case rel =>
    refine ⟨j+1,_,by omega,by go_num,(by (repeat (with_reducible refine Ext.setCell ?_ (Nat.le_refl _) _));exact hx.trans Hx1.out),(((((((Hbl.out.set (j * 7) (.string (dedAt l j).nm) (by omega)).set (j * 7+1) (.slice Y1 (dedAt l j).dt.length C1) (by omega)).set (j * 7+2) (.slice Y2 (dedAt l j).wi.length C2) (by omega)).set (j * 7+3) (.string (dedAt l j).pl) (by omega)).set (j * 7+4) (.string (dedAt l j).se) (by omega)).set (j * 7+5) (.string (dedAt l j).ha) (by omega)).set (j * 7+6) (.slice Y6 (dedAt l j).ci.length C6) (by omega)),fun i hi=>?_⟩
    have hset:∀ {vd vw vc:Value} {d:Ded},DedC w1 (w.heap.size+1) w1.heap.size vd vw vc d → DedC (((((((w1.setCell ⟨w.heap.size,j * 7,none⟩ (.string (dedAt l j).nm)).setCell ⟨w.heap.size,j * 7+1,none⟩ (.slice Y1 (dedAt l j).dt.length C1)).setCell ⟨w.heap.size,j * 7+2,none⟩ (.slice Y2 (dedAt l j).wi.length C2)).setCell ⟨w.heap.size,j * 7+3,none⟩ (.string (dedAt l j).pl)).setCell ⟨w.heap.size,j * 7+4,none⟩ (.string (dedAt l j).se)).setCell ⟨w.heap.size,j * 7+5,none⟩ (.string (dedAt l j).ha)).setCell ⟨w.heap.size,j * 7+6,none⟩ (.slice Y6 (dedAt l j).ci.length C6)) (w.heap.size+1) (((((((w1.setCell ⟨w.heap.size,j * 7,none⟩ (.string (dedAt l j).nm)).setCell ⟨w.heap.size,j * 7+1,none⟩ (.slice Y1 (dedAt l j).dt.length C1)).setCell ⟨w.heap.size,j * 7+2,none⟩ (.slice Y2 (dedAt l j).wi.length C2)).setCell ⟨w.heap.size,j * 7+3,none⟩ (.string (dedAt l j).pl)).setCell ⟨w.heap.size,j * 7+4,none⟩ (.string (dedAt l j).se)).setCell ⟨w.heap.size,j * 7+5,none⟩ (.string (dedAt l j).ha)).setCell ⟨w.heap.size,j * 7+6,none⟩ (.slice Y6 (dedAt l j).ci.length C6)).heap.size vd vw vc d:=fun hq=>by
     exact DedC.set7 hq (Nat.lt_succ_self _) _ _ _ _ _ _ _ _ _ _ _ _ _ _
    by_cases e:i=j
    ·subst e
     refine ⟨?_,?_,?_,?_,?_⟩
     ·simp only [show ¬ (i * 7=i * 7+6) from by omega,show ¬ (i * 7=i * 7+5) from by omega,show ¬ (i * 7=i * 7+4) from by omega,show ¬ (i * 7=i * 7+3) from by omega,show ¬ (i * 7=i * 7+2) from by omega,show ¬ (i * 7=i * 7+1) from by omega,if_true,if_false]
     ·simp only [show ¬ (i * 7+3=i * 7+6) from by omega,show ¬ (i * 7+3=i * 7+5) from by omega,show ¬ (i * 7+3=i * 7+4) from by omega,if_true,if_false]
     ·simp only [show ¬ (i * 7+4=i * 7+6) from by omega,show ¬ (i * 7+4=i * 7+5) from by omega,if_true,if_false]
     ·simp only [show ¬ (i * 7+5=i * 7+6) from by omega,if_true,if_false]
     ·simp only [show ¬ (i * 7+1=i * 7+6) from by omega,show ¬ (i * 7+1=i * 7+5) from by omega,show ¬ (i * 7+1=i * 7+4) from by omega,show ¬ (i * 7+1=i * 7+3) from by omega,show ¬ (i * 7+1=i * 7+2) from by omega,show ¬ (i * 7+2=i * 7+6) from by omega,show ¬ (i * 7+2=i * 7+5) from by omega,show ¬ (i * 7+2=i * 7+4) from by omega,show ¬ (i * 7+2=i * 7+3) from by omega,if_true,if_false];exact hset Q.out
    ·obtain ⟨k0,k3,k4,k5,kl⟩:=Hok.out i (by omega)
     have n0:∀ a b,a < 7 → b < 7 → ¬ (i * 7+a=j * 7+b):=fun a b ha hb=>by omega
     have n1:∀ a,a < 7 → ¬ (i * 7+a=j * 7):=fun a ha=>by omega
     have n2:∀ b,b < 7 → ¬ (i * 7=j * 7+b):=fun b hb=>by omega
     have n3:¬ (i * 7=j * 7):=by omega
     refine ⟨?_,?_,?_,?_,?_⟩
     ·simp only [n2 6 (by omega),n2 5 (by omega),n2 4 (by omega),n2 3 (by omega),n2 2 (by omega),n2 1 (by omega),n3,if_false];exact k0
     ·simp only [n0 3 6 (by omega) (by omega),n0 3 5 (by omega) (by omega),n0 3 4 (by omega) (by omega),n0 3 3 (by omega) (by omega),n0 3 2 (by omega) (by omega),n0 3 1 (by omega) (by omega),n1 3 (by omega),if_false];exact k3
     ·simp only [n0 4 6 (by omega) (by omega),n0 4 5 (by omega) (by omega),n0 4 4 (by omega) (by omega),n0 4 3 (by omega) (by omega),n0 4 2 (by omega) (by omega),n0 4 1 (by omega) (by omega),n1 4 (by omega),if_false];exact k4
     ·simp only [n0 5 6 (by omega) (by omega),n0 5 5 (by omega) (by omega),n0 5 4 (by omega) (by omega),n0 5 3 (by omega) (by omega),n0 5 2 (by omega) (by omega),n0 5 1 (by omega) (by omega),n1 5 (by omega),if_false];exact k5
     ·simp only [n0 1 6 (by omega) (by omega),n0 1 5 (by omega) (by omega),n0 1 4 (by omega) (by omega),n0 1 3 (by omega) (by omega),n0 1 2 (by omega) (by omega),n0 1 1 (by omega) (by omega),n0 2 6 (by omega) (by omega),n0 2 5 (by omega) (by omega),n0 2 4 (by omega) (by omega),n0 2 3 (by omega) (by omega),n0 2 2 (by omega) (by omega),n0 2 1 (by omega) (by omega),n0 6 6 (by omega) (by omega),n0 6 5 (by omega) (by omega),n0 6 4 (by omega) (by omega),n0 6 3 (by omega) (by omega),n0 6 2 (by omega) (by omega),n0 6 1 (by omega) (by omega),n1 1 (by omega),n1 2 (by omega),n1 6 (by omega),if_false];exact hset ((kl.ext Hx1.out (Nat.le_refl _)).mono (Nat.le_refl _) Hx1.out.size)
  ·obtain rfl:j=l.length:=by omega
   have Hbl:=qh hbl
   clear hbl
   go_wp2_with fail
   go_ret
   exact ⟨_,rfl,exts,w.heap.size,f,fun _=>⟨Nat.le_refl _,hbgr⟩,Hbl.out.own (Nat.le_refl _) (by unfold maxLen;omega) (Nat.le_refl _) (fun i _=>rfl),Hok.out⟩
def MkB (lo hi:Nat) (k B:Int) (w:World) (e:Ending) (w' : World):Prop:=∃ k' : Int,e=.returned (.int .i64 k')∧k ≤ k' ∧ k' ≤ k+B∧Mrk lo hi w w'
theorem MkPost.b {lo hi n sz:Nat} {k B:Int} {w w' : World} {e:Ending} (h:MkPost lo hi (k+n * sz) w e w') (hn:(n:Int) * sz ≤ B):MkB lo hi k B w e w' :=
 ⟨_,h.1,by have:(0:Int) ≤ (n:Int) * (sz:Int):=Int.mul_nonneg (by omega) (by omega);omega,by omega,h.2⟩
theorem Boxed.mrk {w w' : World} {g lo hi:Nat} {cs:List Value} (h:Boxed w g cs) (hm:Mrk lo hi w w') (hg:hi ≤ g):Boxed w' g cs:=h.off hm.off (fun hh=>by have:=hh.2;omega)
theorem laws_markReignS_b (v:Value) (lo hi n:Nat) (k:Int) (w:World) (h:Cel w lo hi 3 v n) (hn:n ≤ 1048576) (hk0:0 < k) (hk:k ≤ 1125899906842624):Calls Tryz.prog 130 #[v,.int .i64 k] w (MkB lo hi k 8388608 w):=by
 refine Calls.mono (laws_markReignS_c v lo hi n k w h hn hk0 hk) ?_
 rintro e w1 ⟨rfl,hm⟩
 exact ⟨_,rfl,by omega,by omega,hm⟩
theorem laws_markPersonS_b (v:Value) (lo hi n:Nat) (k:Int) (w:World) (h:Cel w lo hi 3 v n) (hn:n ≤ 1048576) (hk0:0 < k) (hk:k ≤ 1125899906842624):Calls Tryz.prog 131 #[v,.int .i64 k] w (MkB lo hi k 8388608 w):=by
 refine Calls.mono (laws_markPersonS_c v lo hi n k w h hn hk0 hk) ?_
 rintro e w1 ⟨rfl,hm⟩
 exact ⟨_,rfl,by omega,by omega,hm⟩
theorem laws_markTermS_b (v:Value) (lo hi n:Nat) (k:Int) (w:World) (h:Cel w lo hi 4 v n) (hn:n ≤ 1048576) (hk0:0 < k) (hk:k ≤ 1125899906842624):Calls Tryz.prog 132 #[v,.int .i64 k] w (MkB lo hi k 8388608 w):=by
 refine Calls.mono (laws_markTermS_c v lo hi n k w h hn hk0 hk) ?_
 rintro e w1 ⟨rfl,hm⟩
 exact ⟨_,rfl,by omega,by omega,hm⟩
theorem laws_markStringS_b (v:Value) (lo hi n:Nat) (k:Int) (w:World) (h:Cel w lo hi 1 v n) (hn:n ≤ 1048576) (hk0:0 < k) (hk:k ≤ 1125899906842624):Calls Tryz.prog 70 #[v,.int .i64 k] w (MkB lo hi k 8388608 w):=by
 refine Calls.mono (laws_markStringS_c v lo hi n k w h hn hk0 hk) ?_
 rintro e w1 ⟨rfl,hm⟩
 exact ⟨_,rfl,by omega,by omega,hm⟩
theorem laws_markWayS_b (v:Value) (lo hi n:Nat) (k:Int) (w:World) (h:Cel w lo hi 3 v n) (hn:n ≤ 1048576) (hk0:0 < k) (hk:k ≤ 1125899906842624):Calls Tryz.prog 133 #[v,.int .i64 k] w (MkB lo hi k 8388608 w):=by
 refine Calls.mono (laws_markWayS_c v lo hi n k w h hn hk0 hk) ?_
 rintro e w1 ⟨rfl,hm⟩
 exact ⟨_,rfl,by omega,by omega,hm⟩
theorem laws_markStayS_b (v:Value) (lo hi n:Nat) (k:Int) (w:World) (h:Cel w lo hi 3 v n) (hn:n ≤ 1048576) (hk0:0 < k) (hk:k ≤ 1125899906842624):Calls Tryz.prog 65 #[v,.int .i64 k] w (MkB lo hi k 8388608 w):=by
 refine Calls.mono (laws_markStayS_c v lo hi n k w h hn hk0 hk) ?_
 rintro e w1 ⟨rfl,hm⟩
 exact ⟨_,rfl,by omega,by omega,hm⟩
theorem laws_markMarkS_b (v:Value) (lo hi n:Nat) (k:Int) (w:World) (h:Cel w lo hi 3 v n) (hn:n ≤ 1048576) (hk0:0 < k) (hk:k ≤ 1125899906842624):Calls Tryz.prog 66 #[v,.int .i64 k] w (MkB lo hi k 8388608 w):=by
 refine Calls.mono (laws_markMarkS_c v lo hi n k w h hn hk0 hk) ?_
 rintro e w1 ⟨rfl,hm⟩
 exact ⟨_,rfl,by omega,by omega,hm⟩
theorem laws_markClauseS_b (v:Value) (lo hi n:Nat) (k:Int) (w:World) (h:Cel w lo hi 8 v n) (hn:n ≤ 1048576) (hk0:0 < k) (hk:k ≤ 1125899906842624):Calls Tryz.prog 68 #[v,.int .i64 k] w (MkB lo hi k 8388608 w):=by
 refine Calls.mono (laws_markClauseS_c v lo hi n k w h hn hk0 hk) ?_
 rintro e w1 ⟨rfl,hm⟩
 exact ⟨_,rfl,by omega,by omega,hm⟩
theorem laws_markWitnessS_b (v:Value) (lo hi n:Nat) (k:Int) (w:World) (h:Cel w lo hi 2 v n) (hn:n ≤ 1048576) (hk0:0 < k) (hk:k ≤ 1125899906842624):Calls Tryz.prog 69 #[v,.int .i64 k] w (MkB lo hi k 8388608 w):=by
 refine Calls.mono (laws_markWitnessS_c v lo hi n k w h hn hk0 hk) ?_
 rintro e w1 ⟨rfl,hm⟩
 exact ⟨_,rfl,by omega,by omega,hm⟩
set_option maxRecDepth 100000 in
set_option maxHeartbeats 4000000 in
theorem laws_markChancery_b (lo hi:Nat) (v0:Value) (x1 x2:Int) (n:Nat) (k:Int) (w:World) (h:Cel w lo hi 3 v0 n) (hn:n ≤ 1048576) (hk0:0 < k) (hk:k ≤ 1099511627776) (hh:hi ≤ w.heap.size):Calls Tryz.prog 62 #[.agg #[v0,.int .i64 x1,.int .i64 x2],.int .i64 k] w (MkB lo hi k 8388608 w):=by
 have H:=qh h
 clear h
 have HB0:=qh (Boxed.new w [v0,.int .i64 x1,.int .i64 x2] 45)
 go_enter Tryz.func62,Tryz.ntmps62
 go_wp2_with fail
 refine Calls.mono (laws_markReignS_b v0 lo hi n k _ (H.out.mrk (Mrk.of_ext (lo:=lo) (hi:=hi) (show Ext w _ from exts))) hn (by omega) (by omega)) ?_
 rintro e w1 ⟨k1,rfl,ka1,kb1,hm1⟩
 have hM1:=(Mrk.of_ext (lo:=lo) (hi:=hi) (show Ext w _ from exts)).trans hm1
 have HB1:=qh (Boxed.mrk HB0.out hm1 hh)
 have b0:=HB1.out.cell 0 rfl
 have b1:=HB1.out.cell 1 rfl
 have b2:=HB1.out.cell 2 rfl
 have bg:=HB1.out.1
 clear hm1
 go_wp2_with fail
 go_ret
 exact ⟨k1,rfl,by omega,by omega,hM1⟩
set_option maxRecDepth 100000 in
set_option maxHeartbeats 4000000 in
theorem laws_markPeople_b (lo hi:Nat) (v0 v1:Value) (n m:Nat) (k:Int) (w:World) (h:Cel w lo hi 3 v0 n) (hn:n ≤ 1048576) (h' : Cel w lo hi 4 v1 m) (hn' : m ≤ 1048576) (hk0:0 < k) (hk:k ≤ 1099511627776) (hh:hi ≤ w.heap.size):Calls Tryz.prog 63 #[.agg #[v0,v1],.int .i64 k] w (MkB lo hi k 16777216 w):=by
 have H:=qh h
 have H' := qh h'
 clear h h'
 have HB0:=qh (Boxed.new w [v0,v1] 49)
 go_enter Tryz.func63,Tryz.ntmps63
 go_wp2_with fail
 refine Calls.mono (laws_markPersonS_b v0 lo hi n k _ (H.out.mrk (Mrk.of_ext (lo:=lo) (hi:=hi) (show Ext w _ from exts))) hn (by omega) (by omega)) ?_
 rintro e w1 ⟨k1,rfl,ka1,kb1,hm1⟩
 have hM1:=(Mrk.of_ext (lo:=lo) (hi:=hi) (show Ext w _ from exts)).trans hm1
 have HB1:=qh (Boxed.mrk HB0.out hm1 hh)
 have b0:=HB1.out.cell 0 rfl
 have b1:=HB1.out.cell 1 rfl
 have bg:=HB1.out.1
 clear hm1
 go_wp2_with fail
 refine Calls.mono (laws_markTermS_b v1 lo hi m k1 _ (H'.out.mrk hM1) hn' (by omega) (by omega)) ?_
 rintro e w2 ⟨k2,rfl,ka2,kb2,hm2⟩
 have hM2:=hM1.trans hm2
 have HB2:=qh (Boxed.mrk HB1.out hm2 hh)
 clear b0 b1 bg
 have b0:=HB2.out.cell 0 rfl
 have b1:=HB2.out.cell 1 rfl
 have bg:=HB2.out.1
 clear hm2
 go_wp2_with fail
 go_ret
 exact ⟨k2,rfl,by omega,by omega,hM2⟩
set_option maxRecDepth 100000 in
set_option maxHeartbeats 4000000 in
theorem laws_markLand_b (lo hi:Nat) (v0 v1:Value) (n m:Nat) (k:Int) (w:World) (h:Cel w lo hi 1 v0 n) (hn:n ≤ 1048576) (h' : Cel w lo hi 3 v1 m) (hn' : m ≤ 1048576) (hk0:0 < k) (hk:k ≤ 1099511627776) (hh:hi ≤ w.heap.size):Calls Tryz.prog 64 #[.agg #[v0,v1],.int .i64 k] w (MkB lo hi k 16777216 w):=by
 have H:=qh h
 have H' := qh h'
 clear h h'
 have HB0:=qh (Boxed.new w [v0,v1] 52)
 go_enter Tryz.func64,Tryz.ntmps64
 go_wp2_with fail
 refine Calls.mono (laws_markStringS_b v0 lo hi n k _ (H.out.mrk (Mrk.of_ext (lo:=lo) (hi:=hi) (show Ext w _ from exts))) hn (by omega) (by omega)) ?_
 rintro e w1 ⟨k1,rfl,ka1,kb1,hm1⟩
 have hM1:=(Mrk.of_ext (lo:=lo) (hi:=hi) (show Ext w _ from exts)).trans hm1
 have HB1:=qh (Boxed.mrk HB0.out hm1 hh)
 have b0:=HB1.out.cell 0 rfl
 have b1:=HB1.out.cell 1 rfl
 have bg:=HB1.out.1
 clear hm1
 go_wp2_with fail
 refine Calls.mono (laws_markWayS_b v1 lo hi m k1 _ (H'.out.mrk hM1) hn' (by omega) (by omega)) ?_
 rintro e w2 ⟨k2,rfl,ka2,kb2,hm2⟩
 have hM2:=hM1.trans hm2
 have HB2:=qh (Boxed.mrk HB1.out hm2 hh)
 clear b0 b1 bg
 have b0:=HB2.out.cell 0 rfl
 have b1:=HB2.out.cell 1 rfl
 have bg:=HB2.out.1
 clear hm2
 go_wp2_with fail
 go_ret
 exact ⟨k2,rfl,by omega,by omega,hM2⟩
set_option maxRecDepth 100000 in
set_option maxHeartbeats 4000000 in
theorem laws_markWorld_b (lo hi:Nat) (v0 v3 v4 v5 v6 v7 v8 v9:Value) (W:Wrl) (k:Int) (w:World) (h:WrlC w lo hi v0 v3 v4 v5 v6 v7 v8 v9 W) (hl:WLn W) (hk0:0 < k) (hk:k ≤ 1073741824) (hh:hi ≤ w.heap.size):Calls Tryz.prog 17 #[.agg #[v0,.int .i64 W.ch.fr,.int .i64 W.ch.to,v3,v4,v5,v6,v7,v8,v9],.int .i64 k] w (MkB lo hi k 134217728 w):=by
 have H:=qh h
 obtain ⟨l0,l3,l4,l5,l6,l7,l8,l9⟩:=hl
 clear h
 have HB0:=qh (Boxed.new w [v0,.int .i64 W.ch.fr,.int .i64 W.ch.to,v3,v4,v5,v6,v7,v8,v9] 56)
 go_enter Tryz.func17,Tryz.ntmps17
 go_wp2_with fail
 refine Calls.mono (laws_markChancery_b lo hi v0 W.ch.fr W.ch.to W.ch.rg.length k _ (H.out.rg.mrk (Mrk.of_ext (lo:=lo) (hi:=hi) (show Ext w _ from exts))) l0 (by omega) (by omega) (by simp;omega)) ?_
 rintro e w1 ⟨k1,rfl,ka1,kb1,hm1⟩
 have hM1:=(Mrk.of_ext (lo:=lo) (hi:=hi) (show Ext w _ from exts)).trans hm1
 have HB1:=qh (Boxed.mrk HB0.out hm1 hh)
 have b0:=HB1.out.cell 0 rfl
 have b1:=HB1.out.cell 1 rfl
 have b2:=HB1.out.cell 2 rfl
 have b3:=HB1.out.cell 3 rfl
 have b4:=HB1.out.cell 4 rfl
 have b5:=HB1.out.cell 5 rfl
 have b6:=HB1.out.cell 6 rfl
 have b7:=HB1.out.cell 7 rfl
 have b8:=HB1.out.cell 8 rfl
 have b9:=HB1.out.cell 9 rfl
 have bg:=HB1.out.1
 clear hm1
 go_wp2_with fail
 refine Calls.mono (laws_markPeople_b lo hi v3 v4 W.pp.ps.length W.pp.tm.length k1 _ (H.out.ps.mrk hM1) l3 (H.out.tm.mrk hM1) l4 (by omega) (by omega) (by first | (simp;omega) | (have:=hM1.off.size;omega))) ?_
 rintro e w2 ⟨k2,rfl,ka2,kb2,hm2⟩
 have hM2:=hM1.trans hm2
 have HB2:=qh (Boxed.mrk HB1.out hm2 hh)
 clear b0 b1 b2 b3 b4 b5 b6 b7 b8 b9 bg
 have b0:=HB2.out.cell 0 rfl
 have b1:=HB2.out.cell 1 rfl
 have b2:=HB2.out.cell 2 rfl
 have b3:=HB2.out.cell 3 rfl
 have b4:=HB2.out.cell 4 rfl
 have b5:=HB2.out.cell 5 rfl
 have b6:=HB2.out.cell 6 rfl
 have b7:=HB2.out.cell 7 rfl
 have b8:=HB2.out.cell 8 rfl
 have b9:=HB2.out.cell 9 rfl
 have bg:=HB2.out.1
 clear hm2
 go_wp2_with fail
 refine Calls.mono (laws_markLand_b lo hi v5 v6 W.ld.pl.length W.ld.wy.length k2 _ (H.out.pl.mrk hM2) l5 (H.out.wy.mrk hM2) l6 (by omega) (by omega) (by first | (simp;omega) | (have:=hM2.off.size;omega))) ?_
 rintro e w3 ⟨k3,rfl,ka3,kb3,hm3⟩
 have hM3:=hM2.trans hm3
 have HB3:=qh (Boxed.mrk HB2.out hm3 hh)
 clear b0 b1 b2 b3 b4 b5 b6 b7 b8 b9 bg
 have b0:=HB3.out.cell 0 rfl
 have b1:=HB3.out.cell 1 rfl
 have b2:=HB3.out.cell 2 rfl
 have b3:=HB3.out.cell 3 rfl
 have b4:=HB3.out.cell 4 rfl
 have b5:=HB3.out.cell 5 rfl
 have b6:=HB3.out.cell 6 rfl
 have b7:=HB3.out.cell 7 rfl
 have b8:=HB3.out.cell 8 rfl
 have b9:=HB3.out.cell 9 rfl
 have bg:=HB3.out.1
 clear hm3
 go_wp2_with fail
 refine Calls.mono (laws_markStayS_b v7 lo hi W.st.length k3 _ (H.out.st.mrk hM3) l7 (by omega) (by omega)) ?_
 rintro e w4 ⟨k4,rfl,ka4,kb4,hm4⟩
 have hM4:=hM3.trans hm4
 have HB4:=qh (Boxed.mrk HB3.out hm4 hh)
 clear b0 b1 b2 b3 b4 b5 b6 b7 b8 b9 bg
 have b0:=HB4.out.cell 0 rfl
 have b1:=HB4.out.cell 1 rfl
 have b2:=HB4.out.cell 2 rfl
 have b3:=HB4.out.cell 3 rfl
 have b4:=HB4.out.cell 4 rfl
 have b5:=HB4.out.cell 5 rfl
 have b6:=HB4.out.cell 6 rfl
 have b7:=HB4.out.cell 7 rfl
 have b8:=HB4.out.cell 8 rfl
 have b9:=HB4.out.cell 9 rfl
 have bg:=HB4.out.1
 clear hm4
 go_wp2_with fail
 refine Calls.mono (laws_markMarkS_b v8 lo hi W.se.length k4 _ (H.out.se.mrk hM4) l8 (by omega) (by omega)) ?_
 rintro e w5 ⟨k5,rfl,ka5,kb5,hm5⟩
 have hM5:=hM4.trans hm5
 have HB5:=qh (Boxed.mrk HB4.out hm5 hh)
 clear b0 b1 b2 b3 b4 b5 b6 b7 b8 b9 bg
 have b0:=HB5.out.cell 0 rfl
 have b1:=HB5.out.cell 1 rfl
 have b2:=HB5.out.cell 2 rfl
 have b3:=HB5.out.cell 3 rfl
 have b4:=HB5.out.cell 4 rfl
 have b5:=HB5.out.cell 5 rfl
 have b6:=HB5.out.cell 6 rfl
 have b7:=HB5.out.cell 7 rfl
 have b8:=HB5.out.cell 8 rfl
 have b9:=HB5.out.cell 9 rfl
 have bg:=HB5.out.1
 clear hm5
 go_wp2_with fail
 refine Calls.mono (laws_markMarkS_b v9 lo hi W.ha.length k5 _ (H.out.ha.mrk hM5) l9 (by omega) (by omega)) ?_
 rintro e w6 ⟨k6,rfl,ka6,kb6,hm6⟩
 have hM6:=hM5.trans hm6
 have HB6:=qh (Boxed.mrk HB5.out hm6 hh)
 clear b0 b1 b2 b3 b4 b5 b6 b7 b8 b9 bg
 have b0:=HB6.out.cell 0 rfl
 have b1:=HB6.out.cell 1 rfl
 have b2:=HB6.out.cell 2 rfl
 have b3:=HB6.out.cell 3 rfl
 have b4:=HB6.out.cell 4 rfl
 have b5:=HB6.out.cell 5 rfl
 have b6:=HB6.out.cell 6 rfl
 have b7:=HB6.out.cell 7 rfl
 have b8:=HB6.out.cell 8 rfl
 have b9:=HB6.out.cell 9 rfl
 have bg:=HB6.out.1
 clear hm6
 go_wp2_with fail
 go_ret
 exact ⟨k6,rfl,by omega,by omega,hM6⟩
theorem WrlC.mrk {w w' : World} {lo hi k m:Nat} {v0 v3 v4 v5 v6 v7 v8 v9:Value} {W:Wrl} (h:WrlC w lo hi v0 v3 v4 v5 v6 v7 v8 v9 W) (hx:Mrk k m w w'):WrlC w' lo hi v0 v3 v4 v5 v6 v7 v8 v9 W :=
 ⟨h.rg.mrk hx,h.ps.mrk hx,h.tm.mrk hx,h.pl.mrk hx,h.wy.mrk hx,h.st.mrk hx,h.se.mrk hx,h.ha.mrk hx⟩
theorem RowO.mrk {w w' : World} {lo hi k m sz n:Nat} {v:Value} {f:Nat → Value} (h:RowO w lo hi sz v n f) (hx:Mrk k m w w') (h1:m ≤ lo) (h2:hi ≤ w.heap.size):RowO w' lo hi sz v n f:=by
 refine ⟨?_,h.2.mrk hx⟩
 obtain ⟨hm,A,c,hv,hc,hr⟩:=h.1
 refine ⟨hm,A,c,hv,hc,fun hn=>?_⟩
 obtain ⟨b,off,hA,k1,k2,k3⟩:=hr hn
 exact ⟨b,off,hA,k1,k2,fun i hi=>(hx.off.cell (p:=⟨b,off+i,none⟩) (Nat.lt_of_lt_of_le k2 h2) (fun hh=>by have:=hh.2;dsimp only at this;omega)).trans (k3 i hi)⟩
theorem DedsO.mrk {w w' : World} {lo hi k m:Nat} {v:Value} {l:List Ded} (h:DedsO w lo hi v l) (hx:Mrk k m w w') (h1:m ≤ lo) (h2:hi ≤ w.heap.size):DedsO w' lo hi v l:=by
 obtain ⟨b,f,k1,k2,k3⟩:=h
 refine ⟨b,f,k1,?_,fun i hi=>?_⟩
 ·exact k2.off hx.off (fun hn hh=>by have:=(k1 hn).1;have:=hh.2;omega)
 ·obtain ⟨a,c,d,e,ls⟩:=k3 i hi
  have hb:=k1 (by omega)
  exact ⟨a,c,d,e,ls.1.mrk hx (by omega) h2,ls.2.1.mrk hx (by omega) h2,ls.2.2.mrk hx (by omega) h2⟩
structure DSl (w:World) (b off n:Nat) (f:Nat → Value):Prop where
 lt:b < w.heap.size
 c:∀ i,i < n → w.cell? ⟨b,off+(i * 7+1),none⟩=some (f (i * 7+1))∧w.cell? ⟨b,off+(i * 7+2),none⟩=some (f (i * 7+2))∧w.cell? ⟨b,off+(i * 7+6),none⟩=some (f (i * 7+6))
theorem DSl.mrk {w w' : World} {b off n lo hi:Nat} {f:Nat → Value} (h:DSl w b off n f) (hm:Mrk lo hi w w') (hb:b < lo):DSl w' b off n f :=
 ⟨Nat.lt_of_lt_of_le h.lt hm.off.size,fun i hi=>by
  obtain ⟨c1,c2,c6⟩:=h.c i hi
  exact ⟨(hm.off.cell (p:=⟨b,_,none⟩) h.lt (fun hh=>by have:=hh.1;dsimp only at this;omega)).trans c1,(hm.off.cell (p:=⟨b,_,none⟩) h.lt (fun hh=>by have:=hh.1;dsimp only at this;omega)).trans c2,(hm.off.cell (p:=⟨b,_,none⟩) h.lt (fun hh=>by have:=hh.1;dsimp only at this;omega)).trans c6⟩⟩
theorem DSl.ext {w w' : World} {b off n:Nat} {f:Nat → Value} (h:DSl w b off n f) (hx:Ext w w'):DSl w' b off n f:=h.mrk (Mrk.of_ext (lo:=b+1) (hi:=0) hx) (Nat.lt_succ_self _)
theorem DSl.put {w:World} {b off n o:Nat} {f:Nat → Value} (h:DSl w b off n f) (u:Value) (ho:∀ i,o ≠ off+(i * 7+1)∧o ≠ off+(i * 7+2)∧o ≠ off+(i * 7+6)):DSl (w.setCell ⟨b,o,none⟩ u) b off n f :=
 ⟨by rw [World.size_setCell];exact h.lt,fun i hi=>by
  obtain ⟨c1,c2,c6⟩:=h.c i hi
  obtain ⟨o1,o2,o6⟩:=ho i
  exact ⟨(World.cell?_setCell_other w ⟨b,o,none⟩ ⟨b,_,none⟩ u (fun hh=>o1 (by injection hh))).trans c1,(World.cell?_setCell_other w ⟨b,o,none⟩ ⟨b,_,none⟩ u (fun hh=>o2 (by injection hh))).trans c2,(World.cell?_setCell_other w ⟨b,o,none⟩ ⟨b,_,none⟩ u (fun hh=>o6 (by injection hh))).trans c6⟩⟩
set_option maxRecDepth 100000 in
set_option maxHeartbeats 8000000 in
theorem laws_markDeedS_b (v:Value) (lo hi:Nat) (l:List Ded) (k:Int) (w:World) (h:DedsO w lo hi v l) (hh:hi ≤ w.heap.size) (hl:DsLn l) (h8:l.length ≤ 1048576) (hk0:0 < k) (hk:k ≤ 1099511627776) :
  Calls Tryz.prog 18 #[v,.int .i64 k] w (MkB lo hi k (l.length * 33554432) w):=by
 obtain ⟨b,f,hb,hown,hin⟩:=h
 obtain ⟨A,c,rfl⟩:=hown.len
 obtain ⟨off,hoff⟩:∃ off,0 < l.length → A=some ⟨b,off,none⟩∧b < w.heap.size∧∀ i,i < l.length * 7 → w.cell? ⟨b,off+i,none⟩=some (f i)∧w.frozen? ⟨b,off+i,none⟩=false:=by
  by_cases hn:0 < l.length
  ·obtain ⟨off,e,hlt,hc⟩:=hown.at_ hn
   exact ⟨off,fun _=>⟨e,hlt,hc⟩⟩
  ·exact ⟨0,fun hh=>absurd hh hn⟩
 have Hoff:=qh hoff
 have Hin:=qh hin
 have Hb:=qh hb
 have Hl:=qh hl
 clear hoff hown hin hb hl
 go_enter Tryz.func18,Tryz.ntmps18
 go_wp2_with fail
 go_loopg [1,5] l.length (fun q t i wr=>∃ (j:Nat) (kk:Int),j+q=l.length∧i=.int .i64 j∧t=.int .i64 kk∧k ≤ kk∧kk ≤ k+(j:Int) * 33554432∧Mrk lo hi w wr∧(0 < l.length → DSl wr b off l.length f))
 case atStart=>exact ⟨0,k,by omega,rfl,rfl,by omega,by omega,Mrk.refl _ _ _,fun hn=>⟨(Hoff.out hn).2.1,fun i hi=>⟨((Hoff.out hn).2.2 _ (by omega)).1,((Hoff.out hn).2.2 _ (by omega)).1,((Hoff.out hn).2.2 _ (by omega)).1⟩⟩⟩
 case round =>
  obtain ⟨j,kk,hj,rfl,rfl,hk1,hk2,hM,hD⟩:=hrel
  by_cases hlt:j < l.length
  case neg =>
   obtain rfl:j=l.length:=by omega
   clear hD
   have HM:=qh hM
   clear hM
   go_wp2_with fail
   go_ret
   exact ⟨kk,rfl,hk1,by omega,HM.out⟩
  obtain ⟨eA,hbw,hcs⟩:=Hoff.out (by omega)
  subst eA
  have HD0:=qh (hD (by omega))
  have hlo:=(Hb.out (by omega)).1
  have hhi:=(Hb.out (by omega)).2
  have HM0:=qh hM
  have Hcs:=qh hcs
  obtain ⟨_,_,_,_,ls⟩:=Hin.out j hlt
  obtain ⟨y1,e1⟩:∃ y,f (j * 7+1)=y:=⟨_,rfl⟩
  obtain ⟨y2,e2⟩:∃ y,f (j * 7+2)=y:=⟨_,rfl⟩
  obtain ⟨y6,e6⟩:∃ y,f (j * 7+6)=y:=⟨_,rfl⟩
  rw [e1,e2,e6] at ls
  obtain ⟨Y1,C1,rfl⟩:=ls.1.sl
  obtain ⟨Y2,C2,rfl⟩:=ls.2.1.sl
  obtain ⟨Y6,C6,rfl⟩:=ls.2.2.sl
  have E1:=qh e1
  have E2:=qh e2
  have E6:=qh e6
  have Ls:=qh ls
  obtain ⟨n1,n2,n6⟩:=Hl.out.2 j hlt
  have hjj:(j:Int)+1 ≤ 1048576:=by omega
  clear hD hM hcs ls e1 e2 e6
  have hw0:b < wr.heap.size:=HD0.out.lt
  go_wp2_with fail
  refine Calls.mono (laws_markText (kk) _ (by omega) (by omega)) ?_
  rintro e a1 ⟨rfl,hx1⟩
  have HMa1:=qh (HM0.out.trans (Mrk.of_ext hx1))
  have HDa1:=qh (HD0.out.ext hx1)
  have hwa1:b < a1.heap.size:=HDa1.out.lt
  clear hx1
  generalize mkT (kk)=mt1 at *
  obtain ⟨⟨x1,cx1⟩,fx1⟩:(∃ u,a1.cell? ⟨b,off+j * 7,none⟩=some u)∧a1.frozen? ⟨b,off+j * 7,none⟩=false:=by have t:=Hcs.out (j * 7) (by omega);exact ⟨HMa1.out.has b _ hbw ⟨_,t.1⟩,HMa1.out.fz b _ hbw t.2⟩
  have HMs1:=qh (HMa1.out.setCell (p:=⟨b,off+j * 7,none⟩) ⟨hlo,hhi⟩ (.string mt1))
  have HDs1:=qh (HDa1.out.put (o:=off+j * 7) (.string mt1) (fun i=>by omega))
  go_upto_region 6 with fail
  clear cx1 fx1
  generalize hW1:(a1.setCell ⟨b,off+j * 7,none⟩ (.string mt1))=s1 at *
  clear hW1 HMa1 HDa1 hwa1
  have hws1:b < s1.heap.size:=HDs1.out.lt
  have lx:s1.cell? ⟨b,off+j * 7+1,none⟩=some (.slice Y1 (dedAt l j).dt.length C1):=by have t:=(HDs1.out.c j hlt).1;rw [E1.out,← Nat.add_assoc] at t;exact t
  go_wp2_with fail
  refine Calls.mono (laws_markClauseS_b _ (b+1) hi _ (kk+1) _ ((Ls.out.1.2).mrk HMs1.out) n1 (by omega) (by omega)) ?_
  rintro e s2 ⟨k2,rfl,ka2,kb2,hm2⟩
  have HMs2:=qh (HMs1.out.trans (hm2.mono (show lo ≤ b+1 by omega) (Nat.le_refl _)))
  have HDs2:=qh (HDs1.out.mrk hm2 (Nat.lt_succ_self _))
  have hws2:b < s2.heap.size:=HDs2.out.lt
  clear hm2 lx
  have lx:s2.cell? ⟨b,off+j * 7+2,none⟩=some (.slice Y2 (dedAt l j).wi.length C2):=by have t:=(HDs2.out.c j hlt).2.1;rw [E2.out,← Nat.add_assoc] at t;exact t
  go_wp2_with fail
  refine Calls.mono (laws_markWitnessS_b _ (b+1) hi _ (k2) _ ((Ls.out.2.1.2).mrk HMs2.out) n2 (by omega) (by omega)) ?_
  rintro e s3 ⟨k3,rfl,ka3,kb3,hm3⟩
  have HMs3:=qh (HMs2.out.trans (hm3.mono (show lo ≤ b+1 by omega) (Nat.le_refl _)))
  have HDs3:=qh (HDs2.out.mrk hm3 (Nat.lt_succ_self _))
  have hws3:b < s3.heap.size:=HDs3.out.lt
  clear hm3 lx
  go_wp2_with fail
  refine Calls.mono (laws_markText (k3) _ (by omega) (by omega)) ?_
  rintro e a4 ⟨rfl,hx4⟩
  have HMa4:=qh (HMs3.out.trans (Mrk.of_ext hx4))
  have HDa4:=qh (HDs3.out.ext hx4)
  have hwa4:b < a4.heap.size:=HDa4.out.lt
  clear hx4
  generalize mkT (k3)=mt4 at *
  obtain ⟨⟨x4,cx4⟩,fx4⟩:(∃ u,a4.cell? ⟨b,off+j * 7+3,none⟩=some u)∧a4.frozen? ⟨b,off+j * 7+3,none⟩=false:=by have t:=Hcs.out (j * 7+3) (by omega);rw [← Nat.add_assoc] at t;exact ⟨HMa4.out.has b _ hbw ⟨_,t.1⟩,HMa4.out.fz b _ hbw t.2⟩
  have HMs4:=qh (HMa4.out.setCell (p:=⟨b,off+j * 7+3,none⟩) ⟨hlo,hhi⟩ (.string mt4))
  have HDs4:=qh (HDa4.out.put (o:=off+j * 7+3) (.string mt4) (fun i=>by omega))
  go_upto_region 10 with fail
  clear cx4 fx4
  generalize hW4:(a4.setCell ⟨b,off+j * 7+3,none⟩ (.string mt4))=s4 at *
  clear hW4 HMa4 HDa4 hwa4
  have hws4:b < s4.heap.size:=HDs4.out.lt
  go_wp2_with fail
  refine Calls.mono (laws_markText (k3+1) _ (by omega) (by omega)) ?_
  rintro e a5 ⟨rfl,hx5⟩
  have HMa5:=qh (HMs4.out.trans (Mrk.of_ext hx5))
  have HDa5:=qh (HDs4.out.ext hx5)
  have hwa5:b < a5.heap.size:=HDa5.out.lt
  clear hx5
  generalize mkT (k3+1)=mt5 at *
  obtain ⟨⟨x5,cx5⟩,fx5⟩:(∃ u,a5.cell? ⟨b,off+j * 7+4,none⟩=some u)∧a5.frozen? ⟨b,off+j * 7+4,none⟩=false:=by have t:=Hcs.out (j * 7+4) (by omega);rw [← Nat.add_assoc] at t;exact ⟨HMa5.out.has b _ hbw ⟨_,t.1⟩,HMa5.out.fz b _ hbw t.2⟩
  have HMs5:=qh (HMa5.out.setCell (p:=⟨b,off+j * 7+4,none⟩) ⟨hlo,hhi⟩ (.string mt5))
  have HDs5:=qh (HDa5.out.put (o:=off+j * 7+4) (.string mt5) (fun i=>by omega))
  go_upto_region 12 with fail
  clear cx5 fx5
  generalize hW5:(a5.setCell ⟨b,off+j * 7+4,none⟩ (.string mt5))=s5 at *
  clear hW5 HMa5 HDa5 hwa5
  have hws5:b < s5.heap.size:=HDs5.out.lt
  go_wp2_with fail
  refine Calls.mono (laws_markText (k3+1+1) _ (by omega) (by omega)) ?_
  rintro e a6 ⟨rfl,hx6⟩
  have HMa6:=qh (HMs5.out.trans (Mrk.of_ext hx6))
  have HDa6:=qh (HDs5.out.ext hx6)
  have hwa6:b < a6.heap.size:=HDa6.out.lt
  clear hx6
  generalize mkT (k3+1+1)=mt6 at *
  obtain ⟨⟨x6,cx6⟩,fx6⟩:(∃ u,a6.cell? ⟨b,off+j * 7+5,none⟩=some u)∧a6.frozen? ⟨b,off+j * 7+5,none⟩=false:=by have t:=Hcs.out (j * 7+5) (by omega);rw [← Nat.add_assoc] at t;exact ⟨HMa6.out.has b _ hbw ⟨_,t.1⟩,HMa6.out.fz b _ hbw t.2⟩
  have HMs6:=qh (HMa6.out.setCell (p:=⟨b,off+j * 7+5,none⟩) ⟨hlo,hhi⟩ (.string mt6))
  have HDs6:=qh (HDa6.out.put (o:=off+j * 7+5) (.string mt6) (fun i=>by omega))
  go_upto_region 14 with fail
  clear cx6 fx6
  generalize hW6:(a6.setCell ⟨b,off+j * 7+5,none⟩ (.string mt6))=s6 at *
  clear hW6 HMa6 HDa6 hwa6
  have hws6:b < s6.heap.size:=HDs6.out.lt
  have lx:s6.cell? ⟨b,off+j * 7+6,none⟩=some (.slice Y6 (dedAt l j).ci.length C6):=by have t:=(HDs6.out.c j hlt).2.2;rw [E6.out,← Nat.add_assoc] at t;exact t
  go_wp2_with fail
  refine Calls.mono (laws_markStringS_b _ (b+1) hi _ (k3+1+1+1) _ ((Ls.out.2.2.2).mrk HMs6.out) n6 (by omega) (by omega)) ?_
  rintro e s7 ⟨k7,rfl,ka7,kb7,hm7⟩
  have HMs7:=qh (HMs6.out.trans (hm7.mono (show lo ≤ b+1 by omega) (Nat.le_refl _)))
  have HDs7:=qh (HDs6.out.mrk hm7 (Nat.lt_succ_self _))
  have hws7:b < s7.heap.size:=HDs7.out.lt
  clear hm7 lx
  go_wp2_with fail
  go_roundg (l.length - (j+1))
  case measure=>omega
  case rel=>exact ⟨j+1,k7,by omega,by go_num,rfl,by omega,by push_cast;omega,HMs7.out,fun _=>HDs7.out⟩
end Go.Proofs.YtechbeegbhlppaaGreatDoor
