/- The law FnExactNetworkOf, walked out of the contracts of the program's NetworkOf and the reference's. (Printed by genQy.py.) -/
import Derived.Test.YtechbeegbhlppaaGreatDoorS2Wm
import Derived.Test.YtechbeegbhlppaaGreatDoorS2Ko
import Derived.Test.YtechbeegbhlppaaGreatDoorS2LawAreDeeds
import Derived.Test.YtechbeegbhlppaaGreatDoorS2A
import Derived.Deep.RegionHeld3
namespace Go.Proofs.YtechbeegbhlppaaGreatDoor
set_option linter.unusedVariables false
set_option linter.unusedSimpArgs false
open Go.RowKit
attribute [local go_sem] cell_onto
theorem nwR_small (W:Wrl) (l:List Ded):Small (nwR W l):=by
 have h0:Small noNet:=⟨by simp [noNet],by simp [noNet],fun i hi=>absurd hi (by simp [noNet])⟩
 by_cases h:DedsOk W l
 ·by_cases h2:NetOk (nwN W l)
  ·rw [(nw_ok h h2).2]
   refine ⟨by have:=h2.1;omega,by have:=h2.2.1;omega,fun i hi=>?_⟩
   have:=(h2.2.2.1 i hi).1
   omega
  ·rw [(nw_lim h h2).2];exact h0
 ·rw [(nw_no h).2];exact h0
set_option maxRecDepth 100000 in
set_option maxHeartbeats 16000000 in
theorem law_NetworkOf (v0 v3 v4 v5 v6 v7 v8 v9:Value) (W:Wrl) (vD:Value) (l:List Ded) (w:World) (h:WrlAt w 0 w.heap.size v0 v3 v4 v5 v6 v7 v8 v9 W) (hz:WMx W) (hd:Deds w 0 w.heap.size vD l) (hdz:DsMx l):Calls Tryz.prog 7 #[.agg #[v0,.int .i64 W.ch.fr,.int .i64 W.ch.to,v3,v4,v5,v6,v7,v8,v9],vD] w (RetX (.bool true) w):=by
 obtain ⟨AD,cD,rfl,hDn,hDc⟩:=hd.len
 have H:=qh h
 have Hz:=qh hz
 have Hd:=qh hd
 have Hdz:=qh hdz
 clear h hz hd hdz
 obtain ⟨n,en⟩:∃ n,nwR W l=n:=⟨_,rfl⟩
 have En:=qh en
 have HsR:=qh (show Small n from by rw [← en];exact nwR_small W l)
 have hnc:=netCells_le n HsR.out
 clear en
 have HA:=qh (Boxed.new w [v0,.int .i64 W.ch.fr,.int .i64 W.ch.to,v3,v4,v5,v6,v7,v8,v9] 36)
 go_enter Tryz.func7,Tryz.ntmps7
 go_wp2_with fail
 refine Calls.mono (laws_szWorld v0 v3 v4 v5 v6 v7 v8 v9 W 1048576 _ (by omega) (by omega) (H.out.up exts) Hz.out) ?_
 rintro e w1 ⟨r1,rfl,hx1,hra1,hrb1,hrc1⟩
 replace HA:=qh (HA.out.ext hx1)
 have hE:Ext w w1:=exts
 have Hr1:=qh hrc1
 clear hrc1 hx1
 have hz1:w.heap.size < w1.heap.size:=HA.out.1
 have hX1:=hE
 clear hE
 obtain ⟨a0,a1,a2,a3,a4,a5,a6,a7,a8,a9,ag⟩:=HA.out.ten
 by_cases hneg1:r1 < 0
 case pos =>
  go_wp2_with fail
  go_ret
  exact ⟨rfl,hX1⟩
 have Hln:=qh (Hr1.out (by omega)).1
 have Hsm:=qh (Hr1.out (by omega)).2
 clear Hr1
 go_wp2_with fail
 refine Calls.mono (laws_szDeedS _ l r1 _ (by omega) (by omega) (Hd.out.up hX1) Hdz.out) ?_
 rintro e w2 ⟨r2,rfl,hE,hra2,hrb2,hrc2⟩
 have Hr2:=qh hrc2
 clear hrc2
 have hz2:w1.heap.size ≤ w2.heap.size:=hE.size
 have hX2:Ext w w2:=hX1.trans hE
 replace HA:=qh (show Boxed w2 w.heap.size [v0,.int .i64 W.ch.fr,.int .i64 W.ch.to,v3,v4,v5,v6,v7,v8,v9] from HA.out.ext hE)
 clear a0 a1 a2 a3 a4 a5 a6 a7 a8 a9 ag
 obtain ⟨a0,a1,a2,a3,a4,a5,a6,a7,a8,a9,ag⟩:=HA.out.ten
 clear hE
 by_cases hneg2:r2 < 0
 case pos =>
  go_wp2_with fail
  go_ret
  exact ⟨rfl,hX2⟩
 have Hdl:=qh (Hr2.out (by omega))
 clear Hr2
 go_wp2_with fail
 refine Calls.mono (laws_toWorld v0 v3 v4 v5 v6 v7 v8 v9 W _ (H.out.up hX2) Hln.out) ?_
 rintro e w3 ⟨p0,p3,p4,p5,p6,p7,p8,p9,rfl,hE,ho3,hc3⟩
 have t:∃ A c,p0=.slice A W.ch.rg.length c:=Row.sl ho3.rg
 obtain ⟨Yp0,Cp0,rfl⟩:=t
 have t:∃ A c,p3=.slice A W.pp.ps.length c:=Row.sl ho3.ps
 obtain ⟨Yp3,Cp3,rfl⟩:=t
 have t:∃ A c,p4=.slice A W.pp.tm.length c:=Row.sl ho3.tm
 obtain ⟨Yp4,Cp4,rfl⟩:=t
 have t:∃ A c,p5=.slice A W.ld.pl.length c:=Row.sl ho3.pl
 obtain ⟨Yp5,Cp5,rfl⟩:=t
 have t:∃ A c,p6=.slice A W.ld.wy.length c:=Row.sl ho3.wy
 obtain ⟨Yp6,Cp6,rfl⟩:=t
 have t:∃ A c,p7=.slice A W.st.length c:=Row.sl ho3.st
 obtain ⟨Yp7,Cp7,rfl⟩:=t
 have t:∃ A c,p8=.slice A W.se.length c:=Row.sl ho3.se
 obtain ⟨Yp8,Cp8,rfl⟩:=t
 have t:∃ A c,p9=.slice A W.ha.length c:=Row.sl ho3.ha
 obtain ⟨Yp9,Cp9,rfl⟩:=t
 have ho3' := ho3.low
 have Hp:=qh ho3'
 clear ho3 ho3' hc3
 have hz3:w2.heap.size ≤ w3.heap.size:=hE.size
 have hX3:Ext w w3:=hX2.trans hE
 replace HA:=qh (show Boxed w3 w.heap.size [v0,.int .i64 W.ch.fr,.int .i64 W.ch.to,v3,v4,v5,v6,v7,v8,v9] from HA.out.ext hE)
 clear a0 a1 a2 a3 a4 a5 a6 a7 a8 a9 ag
 obtain ⟨a0,a1,a2,a3,a4,a5,a6,a7,a8,a9,ag⟩:=HA.out.ten
 clear hE
 go_wp2_with fail
 refine Calls.mono (laws_toDeedS _ l _ (Hd.out.up hX3) Hdl.out) ?_
 rintro e w4 ⟨s,rfl,hE,ho4⟩
 obtain ⟨As,Cs,rfl,_,_⟩:=ho4.low.len
 have Hs:=qh ho4
 clear ho4
 have hz4:w3.heap.size ≤ w4.heap.size:=hE.size
 have hX4:Ext w w4:=hX3.trans hE
 replace HA:=qh (show Boxed w4 w.heap.size [v0,.int .i64 W.ch.fr,.int .i64 W.ch.to,v3,v4,v5,v6,v7,v8,v9] from HA.out.ext hE)
 replace Hp:=qh (show WrlAt w4 0 w4.heap.size (.slice Yp0 W.ch.rg.length Cp0) (.slice Yp3 W.pp.ps.length Cp3) (.slice Yp4 W.pp.tm.length Cp4) (.slice Yp5 W.ld.pl.length Cp5) (.slice Yp6 W.ld.wy.length Cp6) (.slice Yp7 W.st.length Cp7) (.slice Yp8 W.se.length Cp8) (.slice Yp9 W.ha.length Cp9) W from Hp.out.up hE)
 clear a0 a1 a2 a3 a4 a5 a6 a7 a8 a9 ag
 obtain ⟨a0,a1,a2,a3,a4,a5,a6,a7,a8,a9,ag⟩:=HA.out.ten
 clear hE
 go_wp2_with fail
 refine Calls.mono (spec_NetworkOf (.slice Yp0 W.ch.rg.length Cp0) (.slice Yp3 W.pp.ps.length Cp3) (.slice Yp4 W.pp.tm.length Cp4) (.slice Yp5 W.ld.pl.length Cp5) (.slice Yp6 W.ld.wy.length Cp6) (.slice Yp7 W.st.length Cp7) (.slice Yp8 W.se.length Cp8) (.slice Yp9 W.ha.length Cp9) _ W l _ Hp.out (show Deds w4 0 w4.heap.size (.slice As l.length Cs) l from (Hs.out.deds.mono (Nat.zero_le _) (by omega))) Hsm.out Hdz.out.nm) ?_
 rintro e w5 ⟨gsW,gkW,rfl,hE,hoW⟩
 rw [En.out] at hoW
 obtain ⟨AsW,csW,rfl,_,_⟩:=hoW.at_.1.len
 obtain ⟨AkW,ckW,rfl,_,_⟩:=hoW.at_.2.len
 have HW:=qh hoW
 clear hoW
 have hz5:w4.heap.size ≤ w5.heap.size:=hE.size
 have hX5:Ext w w5:=hX4.trans hE
 replace HA:=qh (show Boxed w5 w.heap.size [v0,.int .i64 W.ch.fr,.int .i64 W.ch.to,v3,v4,v5,v6,v7,v8,v9] from HA.out.ext hE)
 replace Hp:=qh (show WrlAt w5 0 w5.heap.size (.slice Yp0 W.ch.rg.length Cp0) (.slice Yp3 W.pp.ps.length Cp3) (.slice Yp4 W.pp.tm.length Cp4) (.slice Yp5 W.ld.pl.length Cp5) (.slice Yp6 W.ld.wy.length Cp6) (.slice Yp7 W.st.length Cp7) (.slice Yp8 W.se.length Cp8) (.slice Yp9 W.ha.length Cp9) W from Hp.out.up hE)
 replace Hs:=qh (show DedsO w5 (w3.heap.size) w4.heap.size (.slice As l.length Cs) l from Hs.out.ext hE (by omega))
 clear a0 a1 a2 a3 a4 a5 a6 a7 a8 a9 ag
 obtain ⟨a0,a1,a2,a3,a4,a5,a6,a7,a8,a9,ag⟩:=HA.out.ten
 clear hE
 clear Hp
 clear Hs
 go_wp2_with fail
 obtain ⟨w6,hw6⟩:∃ x,x=(w5.alloc (.cells #[.slice AsW n.sets.length csW,.slice AkW n.links.length ckW] 78)):=⟨_,rfl⟩
 have HC:=qh (show Boxed w6 w5.heap.size [.slice AsW n.sets.length csW,.slice AkW n.links.length ckW] from by rw [hw6];exact Boxed.new w5 [.slice AsW n.sets.length csW,.slice AkW n.links.length ckW] 78)
 have hE:Ext w5 w6:=by rw [hw6];exact (Ext.refl _).alloc _
 have hs6:w6.heap.size=w5.heap.size+1:=by rw [hw6];exact World.size_alloc _ _
 rw [← hw6]
 clear hw6
 have hz6:w5.heap.size ≤ w6.heap.size:=hE.size
 have hX6:Ext w w6:=hX5.trans hE
 replace HA:=qh (show Boxed w6 w.heap.size [v0,.int .i64 W.ch.fr,.int .i64 W.ch.to,v3,v4,v5,v6,v7,v8,v9] from HA.out.ext hE)
 replace HW:=qh (show NetX w6 w4.heap.size w5.heap.size (.agg #[.slice AsW n.sets.length csW,.slice AkW n.links.length ckW]) n from HW.out.ext' hE (by omega))
 clear a0 a1 a2 a3 a4 a5 a6 a7 a8 a9 ag
 obtain ⟨a0,a1,a2,a3,a4,a5,a6,a7,a8,a9,ag⟩:=HA.out.ten
 clear hE
 have c0:=HC.out.at0
 have c1:=HC.out.at1
 have cg:=HC.out.1
 refine Calls.mono (laws_toWorld v0 v3 v4 v5 v6 v7 v8 v9 W _ (H.out.up hX6) Hln.out) ?_
 rintro e w7 ⟨q0,q3,q4,q5,q6,q7,q8,q9,rfl,hE,ho7,hc7⟩
 have t:∃ A c,q0=.slice A W.ch.rg.length c:=Row.sl ho7.rg
 obtain ⟨Yq0,Cq0,rfl⟩:=t
 have t:∃ A c,q3=.slice A W.pp.ps.length c:=Row.sl ho7.ps
 obtain ⟨Yq3,Cq3,rfl⟩:=t
 have t:∃ A c,q4=.slice A W.pp.tm.length c:=Row.sl ho7.tm
 obtain ⟨Yq4,Cq4,rfl⟩:=t
 have t:∃ A c,q5=.slice A W.ld.pl.length c:=Row.sl ho7.pl
 obtain ⟨Yq5,Cq5,rfl⟩:=t
 have t:∃ A c,q6=.slice A W.ld.wy.length c:=Row.sl ho7.wy
 obtain ⟨Yq6,Cq6,rfl⟩:=t
 have t:∃ A c,q7=.slice A W.st.length c:=Row.sl ho7.st
 obtain ⟨Yq7,Cq7,rfl⟩:=t
 have t:∃ A c,q8=.slice A W.se.length c:=Row.sl ho7.se
 obtain ⟨Yq8,Cq8,rfl⟩:=t
 have t:∃ A c,q9=.slice A W.ha.length c:=Row.sl ho7.ha
 obtain ⟨Yq9,Cq9,rfl⟩:=t
 have ho7' := ho7.low
 have Hq:=qh ho7'
 have Hqc:=qh hc7
 clear ho7 ho7' hc7
 have hz7:w6.heap.size ≤ w7.heap.size:=hE.size
 have hX7:Ext w w7:=hX6.trans hE
 replace HA:=qh (show Boxed w7 w.heap.size [v0,.int .i64 W.ch.fr,.int .i64 W.ch.to,v3,v4,v5,v6,v7,v8,v9] from HA.out.ext hE)
 replace HW:=qh (show NetX w7 w4.heap.size w5.heap.size (.agg #[.slice AsW n.sets.length csW,.slice AkW n.links.length ckW]) n from HW.out.ext' hE (by omega))
 replace HC:=qh (show Boxed w7 w5.heap.size [.slice AsW n.sets.length csW,.slice AkW n.links.length ckW] from HC.out.ext hE)
 clear a0 a1 a2 a3 a4 a5 a6 a7 a8 a9 ag
 obtain ⟨a0,a1,a2,a3,a4,a5,a6,a7,a8,a9,ag⟩:=HA.out.ten
 clear c0 c1 cg
 have c0:=HC.out.at0
 have c1:=HC.out.at1
 have cg:=HC.out.1
 clear hE
 go_wp2_with fail
 obtain ⟨w8,hw8⟩:∃ x,x=(w7.alloc (.cells #[.slice Yq0 W.ch.rg.length Cq0,.int .i64 W.ch.fr,.int .i64 W.ch.to,.slice Yq3 W.pp.ps.length Cq3,.slice Yq4 W.pp.tm.length Cq4,.slice Yq5 W.ld.pl.length Cq5,.slice Yq6 W.ld.wy.length Cq6,.slice Yq7 W.st.length Cq7,.slice Yq8 W.se.length Cq8,.slice Yq9 W.ha.length Cq9] 56)):=⟨_,rfl⟩
 have HB:=qh (show Boxed w8 w7.heap.size [.slice Yq0 W.ch.rg.length Cq0,.int .i64 W.ch.fr,.int .i64 W.ch.to,.slice Yq3 W.pp.ps.length Cq3,.slice Yq4 W.pp.tm.length Cq4,.slice Yq5 W.ld.pl.length Cq5,.slice Yq6 W.ld.wy.length Cq6,.slice Yq7 W.st.length Cq7,.slice Yq8 W.se.length Cq8,.slice Yq9 W.ha.length Cq9] from by rw [hw8];exact Boxed.new w7 [.slice Yq0 W.ch.rg.length Cq0,.int .i64 W.ch.fr,.int .i64 W.ch.to,.slice Yq3 W.pp.ps.length Cq3,.slice Yq4 W.pp.tm.length Cq4,.slice Yq5 W.ld.pl.length Cq5,.slice Yq6 W.ld.wy.length Cq6,.slice Yq7 W.st.length Cq7,.slice Yq8 W.se.length Cq8,.slice Yq9 W.ha.length Cq9] 56)
 have hE:Ext w7 w8:=by rw [hw8];exact (Ext.refl _).alloc _
 have hs8:w8.heap.size=w7.heap.size+1:=by rw [hw8];exact World.size_alloc _ _
 rw [← hw8]
 clear hw8
 have hz8:w7.heap.size ≤ w8.heap.size:=hE.size
 have hX8:Ext w w8:=hX7.trans hE
 replace HA:=qh (show Boxed w8 w.heap.size [v0,.int .i64 W.ch.fr,.int .i64 W.ch.to,v3,v4,v5,v6,v7,v8,v9] from HA.out.ext hE)
 replace HW:=qh (show NetX w8 w4.heap.size w5.heap.size (.agg #[.slice AsW n.sets.length csW,.slice AkW n.links.length ckW]) n from HW.out.ext' hE (by omega))
 replace HC:=qh (show Boxed w8 w5.heap.size [.slice AsW n.sets.length csW,.slice AkW n.links.length ckW] from HC.out.ext hE)
 replace Hq:=qh (show WrlAt w8 0 w8.heap.size (.slice Yq0 W.ch.rg.length Cq0) (.slice Yq3 W.pp.ps.length Cq3) (.slice Yq4 W.pp.tm.length Cq4) (.slice Yq5 W.ld.pl.length Cq5) (.slice Yq6 W.ld.wy.length Cq6) (.slice Yq7 W.st.length Cq7) (.slice Yq8 W.se.length Cq8) (.slice Yq9 W.ha.length Cq9) W from Hq.out.up hE)
 replace Hqc:=qh (show WrlC w8 w6.heap.size w7.heap.size (.slice Yq0 W.ch.rg.length Cq0) (.slice Yq3 W.pp.ps.length Cq3) (.slice Yq4 W.pp.tm.length Cq4) (.slice Yq5 W.ld.pl.length Cq5) (.slice Yq6 W.ld.wy.length Cq6) (.slice Yq7 W.st.length Cq7) (.slice Yq8 W.se.length Cq8) (.slice Yq9 W.ha.length Cq9) W from Hqc.out.mrk (Mrk.of_ext (lo:=0) (hi:=0) hE))
 clear a0 a1 a2 a3 a4 a5 a6 a7 a8 a9 ag
 obtain ⟨a0,a1,a2,a3,a4,a5,a6,a7,a8,a9,ag⟩:=HA.out.ten
 clear c0 c1 cg
 have c0:=HC.out.at0
 have c1:=HC.out.at1
 have cg:=HC.out.1
 clear hE
 obtain ⟨b0,b1,b2,b3,b4,b5,b6,b7,b8,b9,bg⟩:=HB.out.ten
 refine Calls.mono (laws_toDeedS _ l _ (Hd.out.up hX8) Hdl.out) ?_
 rintro e w9 ⟨y,rfl,hE,ho9⟩
 obtain ⟨Ay,Cy,rfl,_,_⟩:=ho9.low.len
 have Hy:=qh ho9
 clear ho9
 have hz9:w8.heap.size ≤ w9.heap.size:=hE.size
 have hX9:Ext w w9:=hX8.trans hE
 replace HA:=qh (show Boxed w9 w.heap.size [v0,.int .i64 W.ch.fr,.int .i64 W.ch.to,v3,v4,v5,v6,v7,v8,v9] from HA.out.ext hE)
 replace HW:=qh (show NetX w9 w4.heap.size w5.heap.size (.agg #[.slice AsW n.sets.length csW,.slice AkW n.links.length ckW]) n from HW.out.ext' hE (by omega))
 replace HC:=qh (show Boxed w9 w5.heap.size [.slice AsW n.sets.length csW,.slice AkW n.links.length ckW] from HC.out.ext hE)
 replace Hq:=qh (show WrlAt w9 0 w9.heap.size (.slice Yq0 W.ch.rg.length Cq0) (.slice Yq3 W.pp.ps.length Cq3) (.slice Yq4 W.pp.tm.length Cq4) (.slice Yq5 W.ld.pl.length Cq5) (.slice Yq6 W.ld.wy.length Cq6) (.slice Yq7 W.st.length Cq7) (.slice Yq8 W.se.length Cq8) (.slice Yq9 W.ha.length Cq9) W from Hq.out.up hE)
 replace Hqc:=qh (show WrlC w9 w6.heap.size w7.heap.size (.slice Yq0 W.ch.rg.length Cq0) (.slice Yq3 W.pp.ps.length Cq3) (.slice Yq4 W.pp.tm.length Cq4) (.slice Yq5 W.ld.pl.length Cq5) (.slice Yq6 W.ld.wy.length Cq6) (.slice Yq7 W.st.length Cq7) (.slice Yq8 W.se.length Cq8) (.slice Yq9 W.ha.length Cq9) W from Hqc.out.mrk (Mrk.of_ext (lo:=0) (hi:=0) hE))
 replace HB:=qh (show Boxed w9 w7.heap.size [.slice Yq0 W.ch.rg.length Cq0,.int .i64 W.ch.fr,.int .i64 W.ch.to,.slice Yq3 W.pp.ps.length Cq3,.slice Yq4 W.pp.tm.length Cq4,.slice Yq5 W.ld.pl.length Cq5,.slice Yq6 W.ld.wy.length Cq6,.slice Yq7 W.st.length Cq7,.slice Yq8 W.se.length Cq8,.slice Yq9 W.ha.length Cq9] from HB.out.ext hE)
 clear a0 a1 a2 a3 a4 a5 a6 a7 a8 a9 ag
 obtain ⟨a0,a1,a2,a3,a4,a5,a6,a7,a8,a9,ag⟩:=HA.out.ten
 clear c0 c1 cg
 have c0:=HC.out.at0
 have c1:=HC.out.at1
 have cg:=HC.out.1
 clear b0 b1 b2 b3 b4 b5 b6 b7 b8 b9 bg
 obtain ⟨b0,b1,b2,b3,b4,b5,b6,b7,b8,b9,bg⟩:=HB.out.ten
 clear hE
 go_wp2_with fail
 refine Calls.mono (impl_NetworkOf (.slice Yq0 W.ch.rg.length Cq0) (.slice Yq3 W.pp.ps.length Cq3) (.slice Yq4 W.pp.tm.length Cq4) (.slice Yq5 W.ld.pl.length Cq5) (.slice Yq6 W.ld.wy.length Cq6) (.slice Yq7 W.st.length Cq7) (.slice Yq8 W.se.length Cq8) (.slice Yq9 W.ha.length Cq9) _ W l _ Hq.out (show Deds w9 0 w9.heap.size (.slice Ay l.length Cy) l from (Hy.out.deds.mono (Nat.zero_le _) (by omega)))) ?_
 rintro e w10 ⟨gsG,gkG,rfl,hE,hoG⟩
 rw [En.out] at hoG
 obtain ⟨AsG,csG,rfl,_,_⟩:=hoG.at_.1.len
 obtain ⟨AkG,ckG,rfl,_,_⟩:=hoG.at_.2.len
 have HG:=qh hoG
 clear hoG
 have hz10:w9.heap.size ≤ w10.heap.size:=hE.size
 have hX10:Ext w w10:=hX9.trans hE
 replace HA:=qh (show Boxed w10 w.heap.size [v0,.int .i64 W.ch.fr,.int .i64 W.ch.to,v3,v4,v5,v6,v7,v8,v9] from HA.out.ext hE)
 replace HW:=qh (show NetX w10 w4.heap.size w5.heap.size (.agg #[.slice AsW n.sets.length csW,.slice AkW n.links.length ckW]) n from HW.out.ext' hE (by omega))
 replace HC:=qh (show Boxed w10 w5.heap.size [.slice AsW n.sets.length csW,.slice AkW n.links.length ckW] from HC.out.ext hE)
 replace Hq:=qh (show WrlAt w10 0 w10.heap.size (.slice Yq0 W.ch.rg.length Cq0) (.slice Yq3 W.pp.ps.length Cq3) (.slice Yq4 W.pp.tm.length Cq4) (.slice Yq5 W.ld.pl.length Cq5) (.slice Yq6 W.ld.wy.length Cq6) (.slice Yq7 W.st.length Cq7) (.slice Yq8 W.se.length Cq8) (.slice Yq9 W.ha.length Cq9) W from Hq.out.up hE)
 replace Hqc:=qh (show WrlC w10 w6.heap.size w7.heap.size (.slice Yq0 W.ch.rg.length Cq0) (.slice Yq3 W.pp.ps.length Cq3) (.slice Yq4 W.pp.tm.length Cq4) (.slice Yq5 W.ld.pl.length Cq5) (.slice Yq6 W.ld.wy.length Cq6) (.slice Yq7 W.st.length Cq7) (.slice Yq8 W.se.length Cq8) (.slice Yq9 W.ha.length Cq9) W from Hqc.out.mrk (Mrk.of_ext (lo:=0) (hi:=0) hE))
 replace HB:=qh (show Boxed w10 w7.heap.size [.slice Yq0 W.ch.rg.length Cq0,.int .i64 W.ch.fr,.int .i64 W.ch.to,.slice Yq3 W.pp.ps.length Cq3,.slice Yq4 W.pp.tm.length Cq4,.slice Yq5 W.ld.pl.length Cq5,.slice Yq6 W.ld.wy.length Cq6,.slice Yq7 W.st.length Cq7,.slice Yq8 W.se.length Cq8,.slice Yq9 W.ha.length Cq9] from HB.out.ext hE)
 replace Hy:=qh (show DedsO w10 (w8.heap.size) w9.heap.size (.slice Ay l.length Cy) l from Hy.out.ext hE (by omega))
 clear a0 a1 a2 a3 a4 a5 a6 a7 a8 a9 ag
 obtain ⟨a0,a1,a2,a3,a4,a5,a6,a7,a8,a9,ag⟩:=HA.out.ten
 clear c0 c1 cg
 have c0:=HC.out.at0
 have c1:=HC.out.at1
 have cg:=HC.out.1
 clear b0 b1 b2 b3 b4 b5 b6 b7 b8 b9 bg
 obtain ⟨b0,b1,b2,b3,b4,b5,b6,b7,b8,b9,bg⟩:=HB.out.ten
 clear hE
 go_wp2_with fail
 obtain ⟨w11,hw11⟩:∃ x,x=(w10.alloc (.cells #[.slice AsG n.sets.length csG,.slice AkG n.links.length ckG] 78)):=⟨_,rfl⟩
 have HD:=qh (show Boxed w11 w10.heap.size [.slice AsG n.sets.length csG,.slice AkG n.links.length ckG] from by rw [hw11];exact Boxed.new w10 [.slice AsG n.sets.length csG,.slice AkG n.links.length ckG] 78)
 have hE:Ext w10 w11:=by rw [hw11];exact (Ext.refl _).alloc _
 have hs11:w11.heap.size=w10.heap.size+1:=by rw [hw11];exact World.size_alloc _ _
 rw [← hw11]
 clear hw11
 have hz11:w10.heap.size ≤ w11.heap.size:=hE.size
 have hX11:Ext w w11:=hX10.trans hE
 replace HA:=qh (show Boxed w11 w.heap.size [v0,.int .i64 W.ch.fr,.int .i64 W.ch.to,v3,v4,v5,v6,v7,v8,v9] from HA.out.ext hE)
 replace HW:=qh (show NetX w11 w4.heap.size w5.heap.size (.agg #[.slice AsW n.sets.length csW,.slice AkW n.links.length ckW]) n from HW.out.ext' hE (by omega))
 replace HC:=qh (show Boxed w11 w5.heap.size [.slice AsW n.sets.length csW,.slice AkW n.links.length ckW] from HC.out.ext hE)
 replace Hq:=qh (show WrlAt w11 0 w11.heap.size (.slice Yq0 W.ch.rg.length Cq0) (.slice Yq3 W.pp.ps.length Cq3) (.slice Yq4 W.pp.tm.length Cq4) (.slice Yq5 W.ld.pl.length Cq5) (.slice Yq6 W.ld.wy.length Cq6) (.slice Yq7 W.st.length Cq7) (.slice Yq8 W.se.length Cq8) (.slice Yq9 W.ha.length Cq9) W from Hq.out.up hE)
 replace Hqc:=qh (show WrlC w11 w6.heap.size w7.heap.size (.slice Yq0 W.ch.rg.length Cq0) (.slice Yq3 W.pp.ps.length Cq3) (.slice Yq4 W.pp.tm.length Cq4) (.slice Yq5 W.ld.pl.length Cq5) (.slice Yq6 W.ld.wy.length Cq6) (.slice Yq7 W.st.length Cq7) (.slice Yq8 W.se.length Cq8) (.slice Yq9 W.ha.length Cq9) W from Hqc.out.mrk (Mrk.of_ext (lo:=0) (hi:=0) hE))
 replace HB:=qh (show Boxed w11 w7.heap.size [.slice Yq0 W.ch.rg.length Cq0,.int .i64 W.ch.fr,.int .i64 W.ch.to,.slice Yq3 W.pp.ps.length Cq3,.slice Yq4 W.pp.tm.length Cq4,.slice Yq5 W.ld.pl.length Cq5,.slice Yq6 W.ld.wy.length Cq6,.slice Yq7 W.st.length Cq7,.slice Yq8 W.se.length Cq8,.slice Yq9 W.ha.length Cq9] from HB.out.ext hE)
 replace Hy:=qh (show DedsO w11 (w8.heap.size) w9.heap.size (.slice Ay l.length Cy) l from Hy.out.ext hE (by omega))
 replace HG:=qh (show NetX w11 w9.heap.size w10.heap.size (.agg #[.slice AsG n.sets.length csG,.slice AkG n.links.length ckG]) n from HG.out.ext' hE (by omega))
 clear a0 a1 a2 a3 a4 a5 a6 a7 a8 a9 ag
 obtain ⟨a0,a1,a2,a3,a4,a5,a6,a7,a8,a9,ag⟩:=HA.out.ten
 clear c0 c1 cg
 have c0:=HC.out.at0
 have c1:=HC.out.at1
 have cg:=HC.out.1
 clear b0 b1 b2 b3 b4 b5 b6 b7 b8 b9 bg
 obtain ⟨b0,b1,b2,b3,b4,b5,b6,b7,b8,b9,bg⟩:=HB.out.ten
 clear hE
 have d0:=HD.out.at0
 have d1:=HD.out.at1
 have dg:=HD.out.1
 go_wp2_with fail
 refine Calls.mono (laws_eqNetwork _ _ _ _ n _ (NetAt.up HG.out.at_ (by omega) (Ext.refl _)) (NetAt.up HW.out.at_ (by omega) (Ext.refl _))) ?_
 rintro e w12 ⟨rfl,hE⟩
 have hz12:w11.heap.size ≤ w12.heap.size:=hE.size
 have hX12:Ext w w12:=hX11.trans hE
 replace HA:=qh (show Boxed w12 w.heap.size [v0,.int .i64 W.ch.fr,.int .i64 W.ch.to,v3,v4,v5,v6,v7,v8,v9] from HA.out.ext hE)
 replace HW:=qh (show NetX w12 w4.heap.size w5.heap.size (.agg #[.slice AsW n.sets.length csW,.slice AkW n.links.length ckW]) n from HW.out.ext' hE (by omega))
 replace HC:=qh (show Boxed w12 w5.heap.size [.slice AsW n.sets.length csW,.slice AkW n.links.length ckW] from HC.out.ext hE)
 replace Hq:=qh (show WrlAt w12 0 w12.heap.size (.slice Yq0 W.ch.rg.length Cq0) (.slice Yq3 W.pp.ps.length Cq3) (.slice Yq4 W.pp.tm.length Cq4) (.slice Yq5 W.ld.pl.length Cq5) (.slice Yq6 W.ld.wy.length Cq6) (.slice Yq7 W.st.length Cq7) (.slice Yq8 W.se.length Cq8) (.slice Yq9 W.ha.length Cq9) W from Hq.out.up hE)
 replace Hqc:=qh (show WrlC w12 w6.heap.size w7.heap.size (.slice Yq0 W.ch.rg.length Cq0) (.slice Yq3 W.pp.ps.length Cq3) (.slice Yq4 W.pp.tm.length Cq4) (.slice Yq5 W.ld.pl.length Cq5) (.slice Yq6 W.ld.wy.length Cq6) (.slice Yq7 W.st.length Cq7) (.slice Yq8 W.se.length Cq8) (.slice Yq9 W.ha.length Cq9) W from Hqc.out.mrk (Mrk.of_ext (lo:=0) (hi:=0) hE))
 replace HB:=qh (show Boxed w12 w7.heap.size [.slice Yq0 W.ch.rg.length Cq0,.int .i64 W.ch.fr,.int .i64 W.ch.to,.slice Yq3 W.pp.ps.length Cq3,.slice Yq4 W.pp.tm.length Cq4,.slice Yq5 W.ld.pl.length Cq5,.slice Yq6 W.ld.wy.length Cq6,.slice Yq7 W.st.length Cq7,.slice Yq8 W.se.length Cq8,.slice Yq9 W.ha.length Cq9] from HB.out.ext hE)
 replace Hy:=qh (show DedsO w12 (w8.heap.size) w9.heap.size (.slice Ay l.length Cy) l from Hy.out.ext hE (by omega))
 replace HG:=qh (show NetX w12 w9.heap.size w10.heap.size (.agg #[.slice AsG n.sets.length csG,.slice AkG n.links.length ckG]) n from HG.out.ext' hE (by omega))
 replace HD:=qh (show Boxed w12 w10.heap.size [.slice AsG n.sets.length csG,.slice AkG n.links.length ckG] from HD.out.ext hE)
 clear a0 a1 a2 a3 a4 a5 a6 a7 a8 a9 ag
 obtain ⟨a0,a1,a2,a3,a4,a5,a6,a7,a8,a9,ag⟩:=HA.out.ten
 clear c0 c1 cg
 have c0:=HC.out.at0
 have c1:=HC.out.at1
 have cg:=HC.out.1
 clear b0 b1 b2 b3 b4 b5 b6 b7 b8 b9 bg
 obtain ⟨b0,b1,b2,b3,b4,b5,b6,b7,b8,b9,bg⟩:=HB.out.ten
 clear d0 d1 dg
 have d0:=HD.out.at0
 have d1:=HD.out.at1
 have dg:=HD.out.1
 clear hE
 go_wp2_with fail
 go_region_held3 (fun w' => w'.cell? ⟨w.heap.size,0,none⟩=some (v0)∧w'.cell? ⟨w.heap.size,1,none⟩=some (.int .i64 W.ch.fr)∧w'.cell? ⟨w.heap.size,2,none⟩=some (.int .i64 W.ch.to)∧w'.cell? ⟨w.heap.size,3,none⟩=some (v3)∧w'.cell? ⟨w.heap.size,4,none⟩=some (v4)∧w'.cell? ⟨w.heap.size,5,none⟩=some (v5)∧w'.cell? ⟨w.heap.size,6,none⟩=some (v6)∧w'.cell? ⟨w.heap.size,7,none⟩=some (v7)∧w'.cell? ⟨w.heap.size,8,none⟩=some (v8)∧w'.cell? ⟨w.heap.size,9,none⟩=some (v9)∧w'.cell? ⟨w5.heap.size,0,none⟩=some (.slice AsW n.sets.length csW)∧w'.cell? ⟨w5.heap.size,1,none⟩=some (.slice AkW n.links.length ckW)∧w'.cell? ⟨w7.heap.size,0,none⟩=some (.slice Yq0 W.ch.rg.length Cq0)∧w'.cell? ⟨w7.heap.size,1,none⟩=some (.int .i64 W.ch.fr)∧w'.cell? ⟨w7.heap.size,2,none⟩=some (.int .i64 W.ch.to)∧w'.cell? ⟨w7.heap.size,3,none⟩=some (.slice Yq3 W.pp.ps.length Cq3)∧w'.cell? ⟨w7.heap.size,4,none⟩=some (.slice Yq4 W.pp.tm.length Cq4)∧w'.cell? ⟨w7.heap.size,5,none⟩=some (.slice Yq5 W.ld.pl.length Cq5)∧w'.cell? ⟨w7.heap.size,6,none⟩=some (.slice Yq6 W.ld.wy.length Cq6)∧w'.cell? ⟨w7.heap.size,7,none⟩=some (.slice Yq7 W.st.length Cq7)∧w'.cell? ⟨w7.heap.size,8,none⟩=some (.slice Yq8 W.se.length Cq8)∧w'.cell? ⟨w7.heap.size,9,none⟩=some (.slice Yq9 W.ha.length Cq9)∧w'.cell? ⟨w10.heap.size,0,none⟩=some (.slice AsG n.sets.length csG)∧w'.cell? ⟨w10.heap.size,1,none⟩=some (.slice AkG n.links.length ckG)∧Ext w12 w')
  (exact Ext.and_cell ag a0 exts (Ext.and_cell ag a1 exts (Ext.and_cell ag a2 exts (Ext.and_cell ag a3 exts (Ext.and_cell ag a4 exts (Ext.and_cell ag a5 exts (Ext.and_cell ag a6 exts (Ext.and_cell ag a7 exts (Ext.and_cell ag a8 exts (Ext.and_cell ag a9 exts (Ext.and_cell cg c0 exts (Ext.and_cell cg c1 exts (Ext.and_cell bg b0 exts (Ext.and_cell bg b1 exts (Ext.and_cell bg b2 exts (Ext.and_cell bg b3 exts (Ext.and_cell bg b4 exts (Ext.and_cell bg b5 exts (Ext.and_cell bg b6 exts (Ext.and_cell bg b7 exts (Ext.and_cell bg b8 exts (Ext.and_cell bg b9 exts (Ext.and_cell dg d0 exts (Ext.and_cell dg d1 exts exts))))))))))))))))))))))))
  (first
   | (go_at_call 11;refine Calls.mono (laws_toWorld v0 v3 v4 v5 v6 v7 v8 v9 W _ (H.out.up (hX12.trans exts)) Hln.out) ?_;rintro e w13 ⟨s0,s3,s4,s5,s6,s7,s8,s9,rfl,hx13,ho13,_⟩)
   | (go_at_call 15;refine Calls.mono (laws_eqWorld (.slice Yq0 W.ch.rg.length Cq0) (.slice Yq3 W.pp.ps.length Cq3) (.slice Yq4 W.pp.tm.length Cq4) (.slice Yq5 W.ld.pl.length Cq5) (.slice Yq6 W.ld.wy.length Cq6) (.slice Yq7 W.st.length Cq7) (.slice Yq8 W.se.length Cq8) (.slice Yq9 W.ha.length Cq9) s0 s3 s4 s5 s6 s7 s8 s9 W _ (Hq.out.up exts) (ho13.low.up exts)) ?_;rintro e w14 ⟨rfl,hx14⟩))
 have hE:Ext w12 w14:=exts
 clear hx13 hx14 ho13
 have hz14:w12.heap.size ≤ w14.heap.size:=hE.size
 have hX14:Ext w w14:=hX12.trans hE
 replace HA:=qh (show Boxed w14 w.heap.size [v0,.int .i64 W.ch.fr,.int .i64 W.ch.to,v3,v4,v5,v6,v7,v8,v9] from HA.out.ext hE)
 replace HW:=qh (show NetX w14 w4.heap.size w5.heap.size (.agg #[.slice AsW n.sets.length csW,.slice AkW n.links.length ckW]) n from HW.out.ext' hE (by omega))
 replace HC:=qh (show Boxed w14 w5.heap.size [.slice AsW n.sets.length csW,.slice AkW n.links.length ckW] from HC.out.ext hE)
 replace Hq:=qh (show WrlAt w14 0 w14.heap.size (.slice Yq0 W.ch.rg.length Cq0) (.slice Yq3 W.pp.ps.length Cq3) (.slice Yq4 W.pp.tm.length Cq4) (.slice Yq5 W.ld.pl.length Cq5) (.slice Yq6 W.ld.wy.length Cq6) (.slice Yq7 W.st.length Cq7) (.slice Yq8 W.se.length Cq8) (.slice Yq9 W.ha.length Cq9) W from Hq.out.up hE)
 replace Hqc:=qh (show WrlC w14 w6.heap.size w7.heap.size (.slice Yq0 W.ch.rg.length Cq0) (.slice Yq3 W.pp.ps.length Cq3) (.slice Yq4 W.pp.tm.length Cq4) (.slice Yq5 W.ld.pl.length Cq5) (.slice Yq6 W.ld.wy.length Cq6) (.slice Yq7 W.st.length Cq7) (.slice Yq8 W.se.length Cq8) (.slice Yq9 W.ha.length Cq9) W from Hqc.out.mrk (Mrk.of_ext (lo:=0) (hi:=0) hE))
 replace HB:=qh (show Boxed w14 w7.heap.size [.slice Yq0 W.ch.rg.length Cq0,.int .i64 W.ch.fr,.int .i64 W.ch.to,.slice Yq3 W.pp.ps.length Cq3,.slice Yq4 W.pp.tm.length Cq4,.slice Yq5 W.ld.pl.length Cq5,.slice Yq6 W.ld.wy.length Cq6,.slice Yq7 W.st.length Cq7,.slice Yq8 W.se.length Cq8,.slice Yq9 W.ha.length Cq9] from HB.out.ext hE)
 replace Hy:=qh (show DedsO w14 (w8.heap.size) w9.heap.size (.slice Ay l.length Cy) l from Hy.out.ext hE (by omega))
 replace HG:=qh (show NetX w14 w9.heap.size w10.heap.size (.agg #[.slice AsG n.sets.length csG,.slice AkG n.links.length ckG]) n from HG.out.ext' hE (by omega))
 replace HD:=qh (show Boxed w14 w10.heap.size [.slice AsG n.sets.length csG,.slice AkG n.links.length ckG] from HD.out.ext hE)
 clear a0 a1 a2 a3 a4 a5 a6 a7 a8 a9 ag
 obtain ⟨a0,a1,a2,a3,a4,a5,a6,a7,a8,a9,ag⟩:=HA.out.ten
 clear c0 c1 cg
 have c0:=HC.out.at0
 have c1:=HC.out.at1
 have cg:=HC.out.1
 clear b0 b1 b2 b3 b4 b5 b6 b7 b8 b9 bg
 obtain ⟨b0,b1,b2,b3,b4,b5,b6,b7,b8,b9,bg⟩:=HB.out.ten
 clear d0 d1 dg
 have d0:=HD.out.at0
 have d1:=HD.out.at1
 have dg:=HD.out.1
 clear hE
 clear Hq
 go_wp2_with fail
 refine Calls.mono (laws_toDeedS _ l _ (Hd.out.up hX14) Hdl.out) ?_
 rintro e w15 ⟨z,rfl,hE,ho15⟩
 obtain ⟨Az,Cz,rfl,_,_⟩:=ho15.low.len
 have Hz:=qh ho15
 clear ho15
 have hz15:w14.heap.size ≤ w15.heap.size:=hE.size
 have hX15:Ext w w15:=hX14.trans hE
 replace HA:=qh (show Boxed w15 w.heap.size [v0,.int .i64 W.ch.fr,.int .i64 W.ch.to,v3,v4,v5,v6,v7,v8,v9] from HA.out.ext hE)
 replace HW:=qh (show NetX w15 w4.heap.size w5.heap.size (.agg #[.slice AsW n.sets.length csW,.slice AkW n.links.length ckW]) n from HW.out.ext' hE (by omega))
 replace HC:=qh (show Boxed w15 w5.heap.size [.slice AsW n.sets.length csW,.slice AkW n.links.length ckW] from HC.out.ext hE)
 replace Hqc:=qh (show WrlC w15 w6.heap.size w7.heap.size (.slice Yq0 W.ch.rg.length Cq0) (.slice Yq3 W.pp.ps.length Cq3) (.slice Yq4 W.pp.tm.length Cq4) (.slice Yq5 W.ld.pl.length Cq5) (.slice Yq6 W.ld.wy.length Cq6) (.slice Yq7 W.st.length Cq7) (.slice Yq8 W.se.length Cq8) (.slice Yq9 W.ha.length Cq9) W from Hqc.out.mrk (Mrk.of_ext (lo:=0) (hi:=0) hE))
 replace HB:=qh (show Boxed w15 w7.heap.size [.slice Yq0 W.ch.rg.length Cq0,.int .i64 W.ch.fr,.int .i64 W.ch.to,.slice Yq3 W.pp.ps.length Cq3,.slice Yq4 W.pp.tm.length Cq4,.slice Yq5 W.ld.pl.length Cq5,.slice Yq6 W.ld.wy.length Cq6,.slice Yq7 W.st.length Cq7,.slice Yq8 W.se.length Cq8,.slice Yq9 W.ha.length Cq9] from HB.out.ext hE)
 replace Hy:=qh (show DedsO w15 (w8.heap.size) w9.heap.size (.slice Ay l.length Cy) l from Hy.out.ext hE (by omega))
 replace HG:=qh (show NetX w15 w9.heap.size w10.heap.size (.agg #[.slice AsG n.sets.length csG,.slice AkG n.links.length ckG]) n from HG.out.ext' hE (by omega))
 replace HD:=qh (show Boxed w15 w10.heap.size [.slice AsG n.sets.length csG,.slice AkG n.links.length ckG] from HD.out.ext hE)
 clear a0 a1 a2 a3 a4 a5 a6 a7 a8 a9 ag
 obtain ⟨a0,a1,a2,a3,a4,a5,a6,a7,a8,a9,ag⟩:=HA.out.ten
 clear c0 c1 cg
 have c0:=HC.out.at0
 have c1:=HC.out.at1
 have cg:=HC.out.1
 clear b0 b1 b2 b3 b4 b5 b6 b7 b8 b9 bg
 obtain ⟨b0,b1,b2,b3,b4,b5,b6,b7,b8,b9,bg⟩:=HB.out.ten
 clear d0 d1 dg
 have d0:=HD.out.at0
 have d1:=HD.out.at1
 have dg:=HD.out.1
 clear hE
 go_wp2_with fail
 refine Calls.mono (laws_eqDeedS _ _ l _ (show Deds w15 0 w15.heap.size (.slice Ay l.length Cy) l from (Hy.out.deds.mono (Nat.zero_le _) (by omega))) (show Deds w15 0 w15.heap.size (.slice Az l.length Cz) l from (Hz.out.deds.mono (Nat.zero_le _) (by omega)))) ?_
 rintro e w16 ⟨rfl,hE⟩
 have hz16:w15.heap.size ≤ w16.heap.size:=hE.size
 have hX16:Ext w w16:=hX15.trans hE
 replace HA:=qh (show Boxed w16 w.heap.size [v0,.int .i64 W.ch.fr,.int .i64 W.ch.to,v3,v4,v5,v6,v7,v8,v9] from HA.out.ext hE)
 replace HW:=qh (show NetX w16 w4.heap.size w5.heap.size (.agg #[.slice AsW n.sets.length csW,.slice AkW n.links.length ckW]) n from HW.out.ext' hE (by omega))
 replace HC:=qh (show Boxed w16 w5.heap.size [.slice AsW n.sets.length csW,.slice AkW n.links.length ckW] from HC.out.ext hE)
 replace Hqc:=qh (show WrlC w16 w6.heap.size w7.heap.size (.slice Yq0 W.ch.rg.length Cq0) (.slice Yq3 W.pp.ps.length Cq3) (.slice Yq4 W.pp.tm.length Cq4) (.slice Yq5 W.ld.pl.length Cq5) (.slice Yq6 W.ld.wy.length Cq6) (.slice Yq7 W.st.length Cq7) (.slice Yq8 W.se.length Cq8) (.slice Yq9 W.ha.length Cq9) W from Hqc.out.mrk (Mrk.of_ext (lo:=0) (hi:=0) hE))
 replace HB:=qh (show Boxed w16 w7.heap.size [.slice Yq0 W.ch.rg.length Cq0,.int .i64 W.ch.fr,.int .i64 W.ch.to,.slice Yq3 W.pp.ps.length Cq3,.slice Yq4 W.pp.tm.length Cq4,.slice Yq5 W.ld.pl.length Cq5,.slice Yq6 W.ld.wy.length Cq6,.slice Yq7 W.st.length Cq7,.slice Yq8 W.se.length Cq8,.slice Yq9 W.ha.length Cq9] from HB.out.ext hE)
 replace Hy:=qh (show DedsO w16 (w8.heap.size) w9.heap.size (.slice Ay l.length Cy) l from Hy.out.ext hE (by omega))
 replace HG:=qh (show NetX w16 w9.heap.size w10.heap.size (.agg #[.slice AsG n.sets.length csG,.slice AkG n.links.length ckG]) n from HG.out.ext' hE (by omega))
 replace HD:=qh (show Boxed w16 w10.heap.size [.slice AsG n.sets.length csG,.slice AkG n.links.length ckG] from HD.out.ext hE)
 replace Hz:=qh (show DedsO w16 (w14.heap.size) w15.heap.size (.slice Az l.length Cz) l from Hz.out.ext hE (by omega))
 clear a0 a1 a2 a3 a4 a5 a6 a7 a8 a9 ag
 obtain ⟨a0,a1,a2,a3,a4,a5,a6,a7,a8,a9,ag⟩:=HA.out.ten
 clear c0 c1 cg
 have c0:=HC.out.at0
 have c1:=HC.out.at1
 have cg:=HC.out.1
 clear b0 b1 b2 b3 b4 b5 b6 b7 b8 b9 bg
 obtain ⟨b0,b1,b2,b3,b4,b5,b6,b7,b8,b9,bg⟩:=HB.out.ten
 clear d0 d1 dg
 have d0:=HD.out.at0
 have d1:=HD.out.at1
 have dg:=HD.out.1
 clear hE
 clear Hz
 go_wp2_with fail
 refine Calls.mono (laws_markWorld_b w6.heap.size w7.heap.size (.slice Yq0 W.ch.rg.length Cq0) (.slice Yq3 W.pp.ps.length Cq3) (.slice Yq4 W.pp.tm.length Cq4) (.slice Yq5 W.ld.pl.length Cq5) (.slice Yq6 W.ld.wy.length Cq6) (.slice Yq7 W.st.length Cq7) (.slice Yq8 W.se.length Cq8) (.slice Yq9 W.ha.length Cq9) W 1 _ Hqc.out Hln.out (by omega) (by omega) (by omega)) ?_
 rintro e w17 ⟨k1,rfl,ka1,kb1,hm⟩
 have hO:=hm.off
 have hz17:w16.heap.size ≤ w17.heap.size:=hO.size
 have hX17:Ext w w17:=hX16.off hO (fun x h1 hh=>by have h3:=hh.1;have h4:=hh.2;omega)
 replace HA:=qh (show Boxed w17 w.heap.size [v0,.int .i64 W.ch.fr,.int .i64 W.ch.to,v3,v4,v5,v6,v7,v8,v9] from HA.out.off hO (fun hh=>by have h3:=hh.1;have h4:=hh.2;omega))
 replace HW:=qh (show NetX w17 w4.heap.size w5.heap.size (.agg #[.slice AsW n.sets.length csW,.slice AkW n.links.length ckW]) n from HW.out.off' hO (fun x h1 h2 hh=>by have h3:=hh.1;have h4:=hh.2;omega) (by omega))
 replace HC:=qh (show Boxed w17 w5.heap.size [.slice AsW n.sets.length csW,.slice AkW n.links.length ckW] from HC.out.off hO (fun hh=>by have h3:=hh.1;have h4:=hh.2;omega))
 replace HB:=qh (show Boxed w17 w7.heap.size [.slice Yq0 W.ch.rg.length Cq0,.int .i64 W.ch.fr,.int .i64 W.ch.to,.slice Yq3 W.pp.ps.length Cq3,.slice Yq4 W.pp.tm.length Cq4,.slice Yq5 W.ld.pl.length Cq5,.slice Yq6 W.ld.wy.length Cq6,.slice Yq7 W.st.length Cq7,.slice Yq8 W.se.length Cq8,.slice Yq9 W.ha.length Cq9] from HB.out.off hO (fun hh=>by have h3:=hh.1;have h4:=hh.2;omega))
 replace HG:=qh (show NetX w17 w9.heap.size w10.heap.size (.agg #[.slice AsG n.sets.length csG,.slice AkG n.links.length ckG]) n from HG.out.off' hO (fun x h1 h2 hh=>by have h3:=hh.1;have h4:=hh.2;omega) (by omega))
 replace HD:=qh (show Boxed w17 w10.heap.size [.slice AsG n.sets.length csG,.slice AkG n.links.length ckG] from HD.out.off hO (fun hh=>by have h3:=hh.1;have h4:=hh.2;omega))
 clear a0 a1 a2 a3 a4 a5 a6 a7 a8 a9 ag
 obtain ⟨a0,a1,a2,a3,a4,a5,a6,a7,a8,a9,ag⟩:=HA.out.ten
 clear c0 c1 cg
 have c0:=HC.out.at0
 have c1:=HC.out.at1
 have cg:=HC.out.1
 clear b0 b1 b2 b3 b4 b5 b6 b7 b8 b9 bg
 obtain ⟨b0,b1,b2,b3,b4,b5,b6,b7,b8,b9,bg⟩:=HB.out.ten
 clear d0 d1 dg
 have d0:=HD.out.at0
 have d1:=HD.out.at1
 have dg:=HD.out.1
 clear Hqc
 replace Hy:=qh (show DedsO w17 (w8.heap.size) w9.heap.size (.slice Ay l.length Cy) l from Hy.out.mrk hm (by omega) (by omega))
 clear hm hO
 have Hdl1:=Hdl.out.1
 go_wp2_with fail
 refine Calls.mono (laws_markDeedS_b _ w8.heap.size w9.heap.size l k1 _ Hy.out (by omega) Hdl.out Hdl1 (by omega) (by omega)) ?_
 rintro e w18 ⟨k2,rfl,ka2,kb2,hm⟩
 have hO:=hm.off
 have hz18:w17.heap.size ≤ w18.heap.size:=hO.size
 have hX18:Ext w w18:=hX17.off hO (fun x h1 hh=>by have h3:=hh.1;have h4:=hh.2;omega)
 replace HA:=qh (show Boxed w18 w.heap.size [v0,.int .i64 W.ch.fr,.int .i64 W.ch.to,v3,v4,v5,v6,v7,v8,v9] from HA.out.off hO (fun hh=>by have h3:=hh.1;have h4:=hh.2;omega))
 replace HW:=qh (show NetX w18 w4.heap.size w5.heap.size (.agg #[.slice AsW n.sets.length csW,.slice AkW n.links.length ckW]) n from HW.out.off' hO (fun x h1 h2 hh=>by have h3:=hh.1;have h4:=hh.2;omega) (by omega))
 replace HC:=qh (show Boxed w18 w5.heap.size [.slice AsW n.sets.length csW,.slice AkW n.links.length ckW] from HC.out.off hO (fun hh=>by have h3:=hh.1;have h4:=hh.2;omega))
 replace HB:=qh (show Boxed w18 w7.heap.size [.slice Yq0 W.ch.rg.length Cq0,.int .i64 W.ch.fr,.int .i64 W.ch.to,.slice Yq3 W.pp.ps.length Cq3,.slice Yq4 W.pp.tm.length Cq4,.slice Yq5 W.ld.pl.length Cq5,.slice Yq6 W.ld.wy.length Cq6,.slice Yq7 W.st.length Cq7,.slice Yq8 W.se.length Cq8,.slice Yq9 W.ha.length Cq9] from HB.out.off hO (fun hh=>by have h3:=hh.1;have h4:=hh.2;omega))
 replace HG:=qh (show NetX w18 w9.heap.size w10.heap.size (.agg #[.slice AsG n.sets.length csG,.slice AkG n.links.length ckG]) n from HG.out.off' hO (fun x h1 h2 hh=>by have h3:=hh.1;have h4:=hh.2;omega) (by omega))
 replace HD:=qh (show Boxed w18 w10.heap.size [.slice AsG n.sets.length csG,.slice AkG n.links.length ckG] from HD.out.off hO (fun hh=>by have h3:=hh.1;have h4:=hh.2;omega))
 clear a0 a1 a2 a3 a4 a5 a6 a7 a8 a9 ag
 obtain ⟨a0,a1,a2,a3,a4,a5,a6,a7,a8,a9,ag⟩:=HA.out.ten
 clear c0 c1 cg
 have c0:=HC.out.at0
 have c1:=HC.out.at1
 have cg:=HC.out.1
 clear b0 b1 b2 b3 b4 b5 b6 b7 b8 b9 bg
 obtain ⟨b0,b1,b2,b3,b4,b5,b6,b7,b8,b9,bg⟩:=HB.out.ten
 clear d0 d1 dg
 have d0:=HD.out.at0
 have d1:=HD.out.at1
 have dg:=HD.out.1
 clear Hy hm hO
 have hk2:decide (k2 < 0)=false:=decide_eq_false (by omega)
 go_wp2_with fail
 clear HB
 clear b0 b1 b2 b3 b4 b5 b6 b7 b8 b9 bg
 go_wp2_with fail
 refine Calls.mono (laws_eqNetwork _ _ _ _ n _ (NetAt.up HG.out.at_ (by omega) (Ext.refl _)) (NetAt.up HW.out.at_ (by omega) (Ext.refl _))) ?_
 rintro e w19 ⟨rfl,hE⟩
 have hz19:w18.heap.size ≤ w19.heap.size:=hE.size
 have hX19:Ext w w19:=hX18.trans hE
 replace HA:=qh (show Boxed w19 w.heap.size [v0,.int .i64 W.ch.fr,.int .i64 W.ch.to,v3,v4,v5,v6,v7,v8,v9] from HA.out.ext hE)
 replace HW:=qh (show NetX w19 w4.heap.size w5.heap.size (.agg #[.slice AsW n.sets.length csW,.slice AkW n.links.length ckW]) n from HW.out.ext' hE (by omega))
 replace HC:=qh (show Boxed w19 w5.heap.size [.slice AsW n.sets.length csW,.slice AkW n.links.length ckW] from HC.out.ext hE)
 replace HG:=qh (show NetX w19 w9.heap.size w10.heap.size (.agg #[.slice AsG n.sets.length csG,.slice AkG n.links.length ckG]) n from HG.out.ext' hE (by omega))
 replace HD:=qh (show Boxed w19 w10.heap.size [.slice AsG n.sets.length csG,.slice AkG n.links.length ckG] from HD.out.ext hE)
 clear a0 a1 a2 a3 a4 a5 a6 a7 a8 a9 ag
 obtain ⟨a0,a1,a2,a3,a4,a5,a6,a7,a8,a9,ag⟩:=HA.out.ten
 clear c0 c1 cg
 have c0:=HC.out.at0
 have c1:=HC.out.at1
 have cg:=HC.out.1
 clear d0 d1 dg
 have d0:=HD.out.at0
 have d1:=HD.out.at1
 have dg:=HD.out.1
 clear hE
 go_wp2_with fail
 refine Calls.mono (laws_markNetwork_x _ _ _ _ n 1 _ HG.out (by omega) HsR.out (by omega) (by omega)) ?_
 rintro e w20 ⟨rfl,hO,hmN⟩
 clear HG
 have hz20:w19.heap.size ≤ w20.heap.size:=hO.size
 have hX20:Ext w w20:=hX19.off hO (fun x h1 hh=>by have h3:=hh.1;have h4:=hh.2;omega)
 replace HA:=qh (show Boxed w20 w.heap.size [v0,.int .i64 W.ch.fr,.int .i64 W.ch.to,v3,v4,v5,v6,v7,v8,v9] from HA.out.off hO (fun hh=>by have h3:=hh.1;have h4:=hh.2;omega))
 replace HW:=qh (show NetX w20 w4.heap.size w5.heap.size (.agg #[.slice AsW n.sets.length csW,.slice AkW n.links.length ckW]) n from HW.out.off' hO (fun x h1 h2 hh=>by have h3:=hh.1;have h4:=hh.2;omega) (by omega))
 replace HC:=qh (show Boxed w20 w5.heap.size [.slice AsW n.sets.length csW,.slice AkW n.links.length ckW] from HC.out.off hO (fun hh=>by have h3:=hh.1;have h4:=hh.2;omega))
 replace HD:=qh (show Boxed w20 w10.heap.size [.slice AsG n.sets.length csG,.slice AkG n.links.length ckG] from HD.out.off hO (fun hh=>by have h3:=hh.1;have h4:=hh.2;omega))
 clear a0 a1 a2 a3 a4 a5 a6 a7 a8 a9 ag
 obtain ⟨a0,a1,a2,a3,a4,a5,a6,a7,a8,a9,ag⟩:=HA.out.ten
 clear c0 c1 cg
 have c0:=HC.out.at0
 have c1:=HC.out.at1
 have cg:=HC.out.1
 clear d0 d1 dg
 have d0:=HD.out.at0
 have d1:=HD.out.at1
 have dg:=HD.out.1
 have HG:=qh hmN
 clear hmN hO
 obtain ⟨m,hmm⟩:∃ m:Int,(1:Int)+netCells n=m:=⟨_,rfl⟩
 rw [hmm]
 have hmz:decide (m < 0)=false:=decide_eq_false (by omega)
 have hme:(m != m)=false:=bne_self_eq_false m
 go_wp2_with fail
 refine Calls.mono (laws_heldNetwork _ _ _ _ n 1 _ HG.out (by omega) HsR.out (by omega) (by omega)) ?_
 rintro e w21 ⟨rfl,hE⟩
 have hz21:w20.heap.size ≤ w21.heap.size:=hE.size
 have hX21:Ext w w21:=hX20.trans hE
 replace HA:=qh (show Boxed w21 w.heap.size [v0,.int .i64 W.ch.fr,.int .i64 W.ch.to,v3,v4,v5,v6,v7,v8,v9] from HA.out.ext hE)
 replace HW:=qh (show NetX w21 w4.heap.size w5.heap.size (.agg #[.slice AsW n.sets.length csW,.slice AkW n.links.length ckW]) n from HW.out.ext' hE (by omega))
 replace HC:=qh (show Boxed w21 w5.heap.size [.slice AsW n.sets.length csW,.slice AkW n.links.length ckW] from HC.out.ext hE)
 replace HD:=qh (show Boxed w21 w10.heap.size [.slice AsG n.sets.length csG,.slice AkG n.links.length ckG] from HD.out.ext hE)
 replace HG:=qh (show MarkedNet w21 w9.heap.size w10.heap.size (.agg #[.slice AsG n.sets.length csG,.slice AkG n.links.length ckG]) n 1 from HG.out.ext hE (by omega))
 clear a0 a1 a2 a3 a4 a5 a6 a7 a8 a9 ag
 obtain ⟨a0,a1,a2,a3,a4,a5,a6,a7,a8,a9,ag⟩:=HA.out.ten
 clear c0 c1 cg
 have c0:=HC.out.at0
 have c1:=HC.out.at1
 have cg:=HC.out.1
 clear d0 d1 dg
 have d0:=HD.out.at0
 have d1:=HD.out.at1
 have dg:=HD.out.1
 clear hE
 rw [hmm]
 go_wp2_with fail
 refine Calls.mono (laws_toWorld v0 v3 v4 v5 v6 v7 v8 v9 W _ (H.out.up hX21) Hln.out) ?_
 rintro e w22 ⟨u0,u3,u4,u5,u6,u7,u8,u9,rfl,hE,ho22,hc22⟩
 have t:∃ A c,u0=.slice A W.ch.rg.length c:=Row.sl ho22.rg
 obtain ⟨Yu0,Cu0,rfl⟩:=t
 have t:∃ A c,u3=.slice A W.pp.ps.length c:=Row.sl ho22.ps
 obtain ⟨Yu3,Cu3,rfl⟩:=t
 have t:∃ A c,u4=.slice A W.pp.tm.length c:=Row.sl ho22.tm
 obtain ⟨Yu4,Cu4,rfl⟩:=t
 have t:∃ A c,u5=.slice A W.ld.pl.length c:=Row.sl ho22.pl
 obtain ⟨Yu5,Cu5,rfl⟩:=t
 have t:∃ A c,u6=.slice A W.ld.wy.length c:=Row.sl ho22.wy
 obtain ⟨Yu6,Cu6,rfl⟩:=t
 have t:∃ A c,u7=.slice A W.st.length c:=Row.sl ho22.st
 obtain ⟨Yu7,Cu7,rfl⟩:=t
 have t:∃ A c,u8=.slice A W.se.length c:=Row.sl ho22.se
 obtain ⟨Yu8,Cu8,rfl⟩:=t
 have t:∃ A c,u9=.slice A W.ha.length c:=Row.sl ho22.ha
 obtain ⟨Yu9,Cu9,rfl⟩:=t
 have ho22' := ho22.low
 have Hu:=qh ho22'
 clear ho22 ho22' hc22
 have hz22:w21.heap.size ≤ w22.heap.size:=hE.size
 have hX22:Ext w w22:=hX21.trans hE
 replace HA:=qh (show Boxed w22 w.heap.size [v0,.int .i64 W.ch.fr,.int .i64 W.ch.to,v3,v4,v5,v6,v7,v8,v9] from HA.out.ext hE)
 replace HW:=qh (show NetX w22 w4.heap.size w5.heap.size (.agg #[.slice AsW n.sets.length csW,.slice AkW n.links.length ckW]) n from HW.out.ext' hE (by omega))
 replace HC:=qh (show Boxed w22 w5.heap.size [.slice AsW n.sets.length csW,.slice AkW n.links.length ckW] from HC.out.ext hE)
 replace HD:=qh (show Boxed w22 w10.heap.size [.slice AsG n.sets.length csG,.slice AkG n.links.length ckG] from HD.out.ext hE)
 replace HG:=qh (show MarkedNet w22 w9.heap.size w10.heap.size (.agg #[.slice AsG n.sets.length csG,.slice AkG n.links.length ckG]) n 1 from HG.out.ext hE (by omega))
 clear a0 a1 a2 a3 a4 a5 a6 a7 a8 a9 ag
 obtain ⟨a0,a1,a2,a3,a4,a5,a6,a7,a8,a9,ag⟩:=HA.out.ten
 clear c0 c1 cg
 have c0:=HC.out.at0
 have c1:=HC.out.at1
 have cg:=HC.out.1
 clear d0 d1 dg
 have d0:=HD.out.at0
 have d1:=HD.out.at1
 have dg:=HD.out.1
 clear hE
 go_wp2_with fail
 refine Calls.mono (laws_toDeedS _ l _ (Hd.out.up hX22) Hdl.out) ?_
 rintro e w23 ⟨t,rfl,hE,ho23⟩
 obtain ⟨At,Ct,rfl,_,_⟩:=ho23.low.len
 have Ht:=qh ho23
 clear ho23
 have hz23:w22.heap.size ≤ w23.heap.size:=hE.size
 have hX23:Ext w w23:=hX22.trans hE
 replace HA:=qh (show Boxed w23 w.heap.size [v0,.int .i64 W.ch.fr,.int .i64 W.ch.to,v3,v4,v5,v6,v7,v8,v9] from HA.out.ext hE)
 replace HW:=qh (show NetX w23 w4.heap.size w5.heap.size (.agg #[.slice AsW n.sets.length csW,.slice AkW n.links.length ckW]) n from HW.out.ext' hE (by omega))
 replace HC:=qh (show Boxed w23 w5.heap.size [.slice AsW n.sets.length csW,.slice AkW n.links.length ckW] from HC.out.ext hE)
 replace HD:=qh (show Boxed w23 w10.heap.size [.slice AsG n.sets.length csG,.slice AkG n.links.length ckG] from HD.out.ext hE)
 replace HG:=qh (show MarkedNet w23 w9.heap.size w10.heap.size (.agg #[.slice AsG n.sets.length csG,.slice AkG n.links.length ckG]) n 1 from HG.out.ext hE (by omega))
 replace Hu:=qh (show WrlAt w23 0 w23.heap.size (.slice Yu0 W.ch.rg.length Cu0) (.slice Yu3 W.pp.ps.length Cu3) (.slice Yu4 W.pp.tm.length Cu4) (.slice Yu5 W.ld.pl.length Cu5) (.slice Yu6 W.ld.wy.length Cu6) (.slice Yu7 W.st.length Cu7) (.slice Yu8 W.se.length Cu8) (.slice Yu9 W.ha.length Cu9) W from Hu.out.up hE)
 clear a0 a1 a2 a3 a4 a5 a6 a7 a8 a9 ag
 obtain ⟨a0,a1,a2,a3,a4,a5,a6,a7,a8,a9,ag⟩:=HA.out.ten
 clear c0 c1 cg
 have c0:=HC.out.at0
 have c1:=HC.out.at1
 have cg:=HC.out.1
 clear d0 d1 dg
 have d0:=HD.out.at0
 have d1:=HD.out.at1
 have dg:=HD.out.1
 clear hE
 go_wp2_with fail
 refine Calls.mono (impl_NetworkOf (.slice Yu0 W.ch.rg.length Cu0) (.slice Yu3 W.pp.ps.length Cu3) (.slice Yu4 W.pp.tm.length Cu4) (.slice Yu5 W.ld.pl.length Cu5) (.slice Yu6 W.ld.wy.length Cu6) (.slice Yu7 W.st.length Cu7) (.slice Yu8 W.se.length Cu8) (.slice Yu9 W.ha.length Cu9) _ W l _ Hu.out (show Deds w23 0 w23.heap.size (.slice At l.length Ct) l from (Ht.out.deds.mono (Nat.zero_le _) (by omega)))) ?_
 rintro e w24 ⟨gsE,gkE,rfl,hE,hoE⟩
 rw [En.out] at hoE
 obtain ⟨AsE,csE,rfl,_,_⟩:=hoE.at_.1.len
 obtain ⟨AkE,ckE,rfl,_,_⟩:=hoE.at_.2.len
 have HE:=qh hoE
 clear hoE
 have hz24:w23.heap.size ≤ w24.heap.size:=hE.size
 have hX24:Ext w w24:=hX23.trans hE
 replace HA:=qh (show Boxed w24 w.heap.size [v0,.int .i64 W.ch.fr,.int .i64 W.ch.to,v3,v4,v5,v6,v7,v8,v9] from HA.out.ext hE)
 replace HW:=qh (show NetX w24 w4.heap.size w5.heap.size (.agg #[.slice AsW n.sets.length csW,.slice AkW n.links.length ckW]) n from HW.out.ext' hE (by omega))
 replace HC:=qh (show Boxed w24 w5.heap.size [.slice AsW n.sets.length csW,.slice AkW n.links.length ckW] from HC.out.ext hE)
 replace HD:=qh (show Boxed w24 w10.heap.size [.slice AsG n.sets.length csG,.slice AkG n.links.length ckG] from HD.out.ext hE)
 replace HG:=qh (show MarkedNet w24 w9.heap.size w10.heap.size (.agg #[.slice AsG n.sets.length csG,.slice AkG n.links.length ckG]) n 1 from HG.out.ext hE (by omega))
 replace Hu:=qh (show WrlAt w24 0 w24.heap.size (.slice Yu0 W.ch.rg.length Cu0) (.slice Yu3 W.pp.ps.length Cu3) (.slice Yu4 W.pp.tm.length Cu4) (.slice Yu5 W.ld.pl.length Cu5) (.slice Yu6 W.ld.wy.length Cu6) (.slice Yu7 W.st.length Cu7) (.slice Yu8 W.se.length Cu8) (.slice Yu9 W.ha.length Cu9) W from Hu.out.up hE)
 replace Ht:=qh (show DedsO w24 (w22.heap.size) w23.heap.size (.slice At l.length Ct) l from Ht.out.ext hE (by omega))
 clear a0 a1 a2 a3 a4 a5 a6 a7 a8 a9 ag
 obtain ⟨a0,a1,a2,a3,a4,a5,a6,a7,a8,a9,ag⟩:=HA.out.ten
 clear c0 c1 cg
 have c0:=HC.out.at0
 have c1:=HC.out.at1
 have cg:=HC.out.1
 clear d0 d1 dg
 have d0:=HD.out.at0
 have d1:=HD.out.at1
 have dg:=HD.out.1
 clear hE
 clear Hu
 clear Ht
 go_wp2_with fail
 obtain ⟨w25,hw25⟩:∃ x,x=(w24.alloc (.cells #[.slice AsE n.sets.length csE,.slice AkE n.links.length ckE] 78)):=⟨_,rfl⟩
 have HX:=qh (show Boxed w25 w24.heap.size [.slice AsE n.sets.length csE,.slice AkE n.links.length ckE] from by rw [hw25];exact Boxed.new w24 [.slice AsE n.sets.length csE,.slice AkE n.links.length ckE] 78)
 have hE:Ext w24 w25:=by rw [hw25];exact (Ext.refl _).alloc _
 have hs25:w25.heap.size=w24.heap.size+1:=by rw [hw25];exact World.size_alloc _ _
 rw [← hw25]
 clear hw25
 have hz25:w24.heap.size ≤ w25.heap.size:=hE.size
 have hX25:Ext w w25:=hX24.trans hE
 replace HA:=qh (show Boxed w25 w.heap.size [v0,.int .i64 W.ch.fr,.int .i64 W.ch.to,v3,v4,v5,v6,v7,v8,v9] from HA.out.ext hE)
 replace HW:=qh (show NetX w25 w4.heap.size w5.heap.size (.agg #[.slice AsW n.sets.length csW,.slice AkW n.links.length ckW]) n from HW.out.ext' hE (by omega))
 replace HC:=qh (show Boxed w25 w5.heap.size [.slice AsW n.sets.length csW,.slice AkW n.links.length ckW] from HC.out.ext hE)
 replace HD:=qh (show Boxed w25 w10.heap.size [.slice AsG n.sets.length csG,.slice AkG n.links.length ckG] from HD.out.ext hE)
 replace HG:=qh (show MarkedNet w25 w9.heap.size w10.heap.size (.agg #[.slice AsG n.sets.length csG,.slice AkG n.links.length ckG]) n 1 from HG.out.ext hE (by omega))
 replace HE:=qh (show NetX w25 w23.heap.size w24.heap.size (.agg #[.slice AsE n.sets.length csE,.slice AkE n.links.length ckE]) n from HE.out.ext' hE (by omega))
 clear a0 a1 a2 a3 a4 a5 a6 a7 a8 a9 ag
 obtain ⟨a0,a1,a2,a3,a4,a5,a6,a7,a8,a9,ag⟩:=HA.out.ten
 clear c0 c1 cg
 have c0:=HC.out.at0
 have c1:=HC.out.at1
 have cg:=HC.out.1
 clear d0 d1 dg
 have d0:=HD.out.at0
 have d1:=HD.out.at1
 have dg:=HD.out.1
 clear hE
 have x0:=HX.out.at0
 have x1:=HX.out.at1
 have xg:=HX.out.1
 go_wp2_with fail
 refine Calls.mono (laws_eqNetwork _ _ _ _ n _ (NetAt.up HE.out.at_ (by omega) (Ext.refl _)) (NetAt.up HW.out.at_ (by omega) (Ext.refl _))) ?_
 rintro e w26 ⟨rfl,hE⟩
 have hz26:w25.heap.size ≤ w26.heap.size:=hE.size
 have hX26:Ext w w26:=hX25.trans hE
 replace HA:=qh (show Boxed w26 w.heap.size [v0,.int .i64 W.ch.fr,.int .i64 W.ch.to,v3,v4,v5,v6,v7,v8,v9] from HA.out.ext hE)
 replace HW:=qh (show NetX w26 w4.heap.size w5.heap.size (.agg #[.slice AsW n.sets.length csW,.slice AkW n.links.length ckW]) n from HW.out.ext' hE (by omega))
 replace HC:=qh (show Boxed w26 w5.heap.size [.slice AsW n.sets.length csW,.slice AkW n.links.length ckW] from HC.out.ext hE)
 replace HD:=qh (show Boxed w26 w10.heap.size [.slice AsG n.sets.length csG,.slice AkG n.links.length ckG] from HD.out.ext hE)
 replace HG:=qh (show MarkedNet w26 w9.heap.size w10.heap.size (.agg #[.slice AsG n.sets.length csG,.slice AkG n.links.length ckG]) n 1 from HG.out.ext hE (by omega))
 replace HE:=qh (show NetX w26 w23.heap.size w24.heap.size (.agg #[.slice AsE n.sets.length csE,.slice AkE n.links.length ckE]) n from HE.out.ext' hE (by omega))
 replace HX:=qh (show Boxed w26 w24.heap.size [.slice AsE n.sets.length csE,.slice AkE n.links.length ckE] from HX.out.ext hE)
 clear a0 a1 a2 a3 a4 a5 a6 a7 a8 a9 ag
 obtain ⟨a0,a1,a2,a3,a4,a5,a6,a7,a8,a9,ag⟩:=HA.out.ten
 clear c0 c1 cg
 have c0:=HC.out.at0
 have c1:=HC.out.at1
 have cg:=HC.out.1
 clear d0 d1 dg
 have d0:=HD.out.at0
 have d1:=HD.out.at1
 have dg:=HD.out.1
 clear x0 x1 xg
 have x0:=HX.out.at0
 have x1:=HX.out.at1
 have xg:=HX.out.1
 clear hE
 go_wp2_with fail
 refine Calls.mono (laws_heldNetwork _ _ _ _ n 1 _ HG.out (by omega) HsR.out (by omega) (by omega)) ?_
 rintro e w27 ⟨rfl,hE⟩
 have hz27:w26.heap.size ≤ w27.heap.size:=hE.size
 have hX27:Ext w w27:=hX26.trans hE
 replace HA:=qh (show Boxed w27 w.heap.size [v0,.int .i64 W.ch.fr,.int .i64 W.ch.to,v3,v4,v5,v6,v7,v8,v9] from HA.out.ext hE)
 replace HW:=qh (show NetX w27 w4.heap.size w5.heap.size (.agg #[.slice AsW n.sets.length csW,.slice AkW n.links.length ckW]) n from HW.out.ext' hE (by omega))
 replace HC:=qh (show Boxed w27 w5.heap.size [.slice AsW n.sets.length csW,.slice AkW n.links.length ckW] from HC.out.ext hE)
 replace HD:=qh (show Boxed w27 w10.heap.size [.slice AsG n.sets.length csG,.slice AkG n.links.length ckG] from HD.out.ext hE)
 replace HG:=qh (show MarkedNet w27 w9.heap.size w10.heap.size (.agg #[.slice AsG n.sets.length csG,.slice AkG n.links.length ckG]) n 1 from HG.out.ext hE (by omega))
 replace HE:=qh (show NetX w27 w23.heap.size w24.heap.size (.agg #[.slice AsE n.sets.length csE,.slice AkE n.links.length ckE]) n from HE.out.ext' hE (by omega))
 replace HX:=qh (show Boxed w27 w24.heap.size [.slice AsE n.sets.length csE,.slice AkE n.links.length ckE] from HX.out.ext hE)
 clear a0 a1 a2 a3 a4 a5 a6 a7 a8 a9 ag
 obtain ⟨a0,a1,a2,a3,a4,a5,a6,a7,a8,a9,ag⟩:=HA.out.ten
 clear c0 c1 cg
 have c0:=HC.out.at0
 have c1:=HC.out.at1
 have cg:=HC.out.1
 clear d0 d1 dg
 have d0:=HD.out.at0
 have d1:=HD.out.at1
 have dg:=HD.out.1
 clear x0 x1 xg
 have x0:=HX.out.at0
 have x1:=HX.out.at1
 have xg:=HX.out.1
 clear hE
 rw [hmm]
 go_wp2_with fail
 go_ret
 exact ⟨rfl,hX27⟩
end Go.Proofs.YtechbeegbhlppaaGreatDoor
