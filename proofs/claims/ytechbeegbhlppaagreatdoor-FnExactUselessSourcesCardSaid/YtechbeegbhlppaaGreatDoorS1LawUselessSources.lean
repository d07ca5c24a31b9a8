/- The law FnExactUselessSources, walked out of the contracts of the program's UselessSources and the reference's. (Printed by genQx.py.) -/
import Derived.Test.YtechbeegbhlppaaGreatDoorS1Na
import Derived.Test.YtechbeegbhlppaaGreatDoorS1Wm
import Derived.Test.YtechbeegbhlppaaGreatDoorS1Ko
import Derived.Test.YtechbeegbhlppaaGreatDoorS1LawAreDeeds
import Derived.Test.YtechbeegbhlppaaGreatDoorS1A
import Derived.Deep.RegionHeld3
namespace Go.Proofs.YtechbeegbhlppaaGreatDoor
set_option linter.unusedVariables false
set_option linter.unusedSimpArgs false
open Go.RowKit
attribute [local go_sem] cell_onto
set_option maxRecDepth 100000 in
set_option maxHeartbeats 16000000 in
theorem law_UselessSources (v0 v3 v4 v5 v6 v7 v8 v9:Value) (W:Wrl) (vD:Value) (l:List Ded) (x2:Int) (w:World) (h:WrlAt w 0 w.heap.size v0 v3 v4 v5 v6 v7 v8 v9 W) (hz:WMx W) (hd:Deds w 0 w.heap.size vD l) (hdz:DsMx l) (_:(Lit.int .i64 x2).wf=true):Calls Tryz.prog 6 #[.agg #[v0,.int .i64 W.ch.fr,.int .i64 W.ch.to,v3,v4,v5,v6,v7,v8,v9],vD,.int .i64 x2] w (RetX (.bool true) w):=by
 obtain ⟨AD,cD,rfl,hDn,hDc⟩:=hd.len
 have H:=qh h
 have Hz:=qh hz
 have Hd:=qh hd
 have Hdz:=qh hdz
 clear h hz hd hdz
 have HA:=qh (Boxed.new w [v0,.int .i64 W.ch.fr,.int .i64 W.ch.to,v3,v4,v5,v6,v7,v8,v9] 36)
 go_enter Tryz.func6,Tryz.ntmps6
 go_wp2_with fail
 refine Calls.mono (laws_szWorld v0 v3 v4 v5 v6 v7 v8 v9 W 1048576 _ (by omega) (by omega) (H.out.up exts) Hz.out) ?_
 rintro e w1 ⟨r1,rfl,hx1,hra1,hrb1,hrc1⟩
 have t:=qh (HA.out.ext hx1)
 clear HA
 have HA:=t
 clear t
 have hE:Ext w w1:=exts
 have Hr1:=qh hrc1
 clear hrc1 hx1
 have hz1:w.heap.size < w1.heap.size:=HA.out.1
 have hX1:=hE
 clear hE
 obtain ⟨a0,a1,a2,a3,a4,a5,a6,a7,a8,a9,ag⟩:=HA.out.ten
 by_cases hneg1:r1 < 0
 case pos =>
  go_wp2_with fail
  go_ret
  exact ⟨rfl,hX1⟩
 have Hln:=qh (Hr1.out (by omega)).1
 have Hsm:=qh (Hr1.out (by omega)).2
 clear Hr1
 go_wp2_with fail
 refine Calls.mono (laws_szDeedS _ l r1 _ (by omega) (by omega) (Hd.out.up hX1) Hdz.out) ?_
 rintro e w2 ⟨r2,rfl,hE,hra2,hrb2,hrc2⟩
 have Hr2:=qh hrc2
 clear hrc2
 have hz2:w1.heap.size ≤ w2.heap.size:=hE.size
 have hX2:Ext w w2:=hX1.trans hE
 have tmp:=qh (show Boxed w2 w.heap.size [v0,.int .i64 W.ch.fr,.int .i64 W.ch.to,v3,v4,v5,v6,v7,v8,v9] from HA.out.ext hE)
 clear HA
 have HA:=tmp
 clear tmp
 clear a0 a1 a2 a3 a4 a5 a6 a7 a8 a9 ag
 obtain ⟨a0,a1,a2,a3,a4,a5,a6,a7,a8,a9,ag⟩:=HA.out.ten
 clear hE
 by_cases hneg2:r2 < 0
 case pos =>
  go_wp2_with fail
  go_ret
  exact ⟨rfl,hX2⟩
 have Hdl:=qh (Hr2.out (by omega))
 clear Hr2
 go_wp2_with fail
 refine Calls.mono (laws_toWorld v0 v3 v4 v5 v6 v7 v8 v9 W _ (H.out.up hX2) Hln.out) ?_
 rintro e w3 ⟨p0,p3,p4,p5,p6,p7,p8,p9,rfl,hE,ho3,hc3⟩
 have t:∃ A c,p0=.slice A W.ch.rg.length c:=Row.sl ho3.rg
 obtain ⟨Yp0,Cp0,rfl⟩:=t
 have t:∃ A c,p3=.slice A W.pp.ps.length c:=Row.sl ho3.ps
 obtain ⟨Yp3,Cp3,rfl⟩:=t
 have t:∃ A c,p4=.slice A W.pp.tm.length c:=Row.sl ho3.tm
 obtain ⟨Yp4,Cp4,rfl⟩:=t
 have t:∃ A c,p5=.slice A W.ld.pl.length c:=Row.sl ho3.pl
 obtain ⟨Yp5,Cp5,rfl⟩:=t
 have t:∃ A c,p6=.slice A W.ld.wy.length c:=Row.sl ho3.wy
 obtain ⟨Yp6,Cp6,rfl⟩:=t
 have t:∃ A c,p7=.slice A W.st.length c:=Row.sl ho3.st
 obtain ⟨Yp7,Cp7,rfl⟩:=t
 have t:∃ A c,p8=.slice A W.se.length c:=Row.sl ho3.se
 obtain ⟨Yp8,Cp8,rfl⟩:=t
 have t:∃ A c,p9=.slice A W.ha.length c:=Row.sl ho3.ha
 obtain ⟨Yp9,Cp9,rfl⟩:=t
 have ho3' := ho3.low
 have Hp:=qh ho3'
 clear ho3 ho3' hc3
 have hz3:w2.heap.size ≤ w3.heap.size:=hE.size
 have hX3:Ext w w3:=hX2.trans hE
 have tmp:=qh (show Boxed w3 w.heap.size [v0,.int .i64 W.ch.fr,.int .i64 W.ch.to,v3,v4,v5,v6,v7,v8,v9] from HA.out.ext hE)
 clear HA
 have HA:=tmp
 clear tmp
 clear a0 a1 a2 a3 a4 a5 a6 a7 a8 a9 ag
 obtain ⟨a0,a1,a2,a3,a4,a5,a6,a7,a8,a9,ag⟩:=HA.out.ten
 clear hE
 go_wp2_with fail
 refine Calls.mono (laws_toDeedS _ l _ (Hd.out.up hX3) Hdl.out) ?_
 rintro e w4 ⟨s,rfl,hE,ho4⟩
 obtain ⟨As,Cs,rfl,_,_⟩:=ho4.low.len
 have Hs:=qh ho4
 clear ho4
 have hz4:w3.heap.size ≤ w4.heap.size:=hE.size
 have hX4:Ext w w4:=hX3.trans hE
 have tmp:=qh (show Boxed w4 w.heap.size [v0,.int .i64 W.ch.fr,.int .i64 W.ch.to,v3,v4,v5,v6,v7,v8,v9] from HA.out.ext hE)
 clear HA
 have HA:=tmp
 clear tmp
 have tmp:=qh (show WrlAt w4 0 w4.heap.size (.slice Yp0 W.ch.rg.length Cp0) (.slice Yp3 W.pp.ps.length Cp3) (.slice Yp4 W.pp.tm.length Cp4) (.slice Yp5 W.ld.pl.length Cp5) (.slice Yp6 W.ld.wy.length Cp6) (.slice Yp7 W.st.length Cp7) (.slice Yp8 W.se.length Cp8) (.slice Yp9 W.ha.length Cp9) W from Hp.out.up hE)
 clear Hp
 have Hp:=tmp
 clear tmp
 clear a0 a1 a2 a3 a4 a5 a6 a7 a8 a9 ag
 obtain ⟨a0,a1,a2,a3,a4,a5,a6,a7,a8,a9,ag⟩:=HA.out.ten
 clear hE
 go_wp2_with fail
 refine Calls.mono (spec_UselessSources (.slice Yp0 W.ch.rg.length Cp0) (.slice Yp3 W.pp.ps.length Cp3) (.slice Yp4 W.pp.tm.length Cp4) (.slice Yp5 W.ld.pl.length Cp5) (.slice Yp6 W.ld.wy.length Cp6) (.slice Yp7 W.st.length Cp7) (.slice Yp8 W.se.length Cp8) (.slice Yp9 W.ha.length Cp9) _ W l x2 _ Hp.out (show Deds w4 0 w4.heap.size (.slice As l.length Cs) l from (Hs.out.deds.mono (Nat.zero_le _) (by omega))) Hsm.out Hdz.out.nm) ?_
 rintro e w5 ⟨gW,bW,rfl,hE,hbW,hoW⟩
 have HW:=qh (show OwnInts w5 w4.heap.size w5.heap.size gW (usL W l x2) from ⟨bW,fun hn=>⟨hbW hn,hoW.lt hn⟩,hoW⟩)
 clear hbW hoW
 have hz5:w4.heap.size ≤ w5.heap.size:=hE.size
 have hX5:Ext w w5:=hX4.trans hE
 have tmp:=qh (show Boxed w5 w.heap.size [v0,.int .i64 W.ch.fr,.int .i64 W.ch.to,v3,v4,v5,v6,v7,v8,v9] from HA.out.ext hE)
 clear HA
 have HA:=tmp
 clear tmp
 have tmp:=qh (show WrlAt w5 0 w5.heap.size (.slice Yp0 W.ch.rg.length Cp0) (.slice Yp3 W.pp.ps.length Cp3) (.slice Yp4 W.pp.tm.length Cp4) (.slice Yp5 W.ld.pl.length Cp5) (.slice Yp6 W.ld.wy.length Cp6) (.slice Yp7 W.st.length Cp7) (.slice Yp8 W.se.length Cp8) (.slice Yp9 W.ha.length Cp9) W from Hp.out.up hE)
 clear Hp
 have Hp:=tmp
 clear tmp
 have tmp:=qh (show DedsO w5 (w3.heap.size) w4.heap.size (.slice As l.length Cs) l from Hs.out.ext hE (by omega))
 clear Hs
 have Hs:=tmp
 clear tmp
 clear a0 a1 a2 a3 a4 a5 a6 a7 a8 a9 ag
 obtain ⟨a0,a1,a2,a3,a4,a5,a6,a7,a8,a9,ag⟩:=HA.out.ten
 clear hE
 clear Hp
 clear Hs
 go_wp2_with fail
 refine Calls.mono (laws_toWorld v0 v3 v4 v5 v6 v7 v8 v9 W _ (H.out.up hX5) Hln.out) ?_
 rintro e w6 ⟨q0,q3,q4,q5,q6,q7,q8,q9,rfl,hE,ho6,hc6⟩
 have t:∃ A c,q0=.slice A W.ch.rg.length c:=Row.sl ho6.rg
 obtain ⟨Yq0,Cq0,rfl⟩:=t
 have t:∃ A c,q3=.slice A W.pp.ps.length c:=Row.sl ho6.ps
 obtain ⟨Yq3,Cq3,rfl⟩:=t
 have t:∃ A c,q4=.slice A W.pp.tm.length c:=Row.sl ho6.tm
 obtain ⟨Yq4,Cq4,rfl⟩:=t
 have t:∃ A c,q5=.slice A W.ld.pl.length c:=Row.sl ho6.pl
 obtain ⟨Yq5,Cq5,rfl⟩:=t
 have t:∃ A c,q6=.slice A W.ld.wy.length c:=Row.sl ho6.wy
 obtain ⟨Yq6,Cq6,rfl⟩:=t
 have t:∃ A c,q7=.slice A W.st.length c:=Row.sl ho6.st
 obtain ⟨Yq7,Cq7,rfl⟩:=t
 have t:∃ A c,q8=.slice A W.se.length c:=Row.sl ho6.se
 obtain ⟨Yq8,Cq8,rfl⟩:=t
 have t:∃ A c,q9=.slice A W.ha.length c:=Row.sl ho6.ha
 obtain ⟨Yq9,Cq9,rfl⟩:=t
 have ho6' := ho6.low
 have Hq:=qh ho6'
 have Hqc:=qh hc6
 clear ho6 ho6' hc6
 have hz6:w5.heap.size ≤ w6.heap.size:=hE.size
 have hX6:Ext w w6:=hX5.trans hE
 have tmp:=qh (show Boxed w6 w.heap.size [v0,.int .i64 W.ch.fr,.int .i64 W.ch.to,v3,v4,v5,v6,v7,v8,v9] from HA.out.ext hE)
 clear HA
 have HA:=tmp
 clear tmp
 have tmp:=qh (show OwnInts w6 w4.heap.size w5.heap.size gW (usL W l x2) from HW.out.ext hE (by omega))
 clear HW
 have HW:=tmp
 clear tmp
 clear a0 a1 a2 a3 a4 a5 a6 a7 a8 a9 ag
 obtain ⟨a0,a1,a2,a3,a4,a5,a6,a7,a8,a9,ag⟩:=HA.out.ten
 clear hE
 go_wp2_with fail
 obtain ⟨w7,hw7⟩:∃ x,x=(w6.alloc (.cells #[.slice Yq0 W.ch.rg.length Cq0,.int .i64 W.ch.fr,.int .i64 W.ch.to,.slice Yq3 W.pp.ps.length Cq3,.slice Yq4 W.pp.tm.length Cq4,.slice Yq5 W.ld.pl.length Cq5,.slice Yq6 W.ld.wy.length Cq6,.slice Yq7 W.st.length Cq7,.slice Yq8 W.se.length Cq8,.slice Yq9 W.ha.length Cq9] 56)):=⟨_,rfl⟩
 have HB:=qh (show Boxed w7 w6.heap.size [.slice Yq0 W.ch.rg.length Cq0,.int .i64 W.ch.fr,.int .i64 W.ch.to,.slice Yq3 W.pp.ps.length Cq3,.slice Yq4 W.pp.tm.length Cq4,.slice Yq5 W.ld.pl.length Cq5,.slice Yq6 W.ld.wy.length Cq6,.slice Yq7 W.st.length Cq7,.slice Yq8 W.se.length Cq8,.slice Yq9 W.ha.length Cq9] from by rw [hw7];exact Boxed.new w6 [.slice Yq0 W.ch.rg.length Cq0,.int .i64 W.ch.fr,.int .i64 W.ch.to,.slice Yq3 W.pp.ps.length Cq3,.slice Yq4 W.pp.tm.length Cq4,.slice Yq5 W.ld.pl.length Cq5,.slice Yq6 W.ld.wy.length Cq6,.slice Yq7 W.st.length Cq7,.slice Yq8 W.se.length Cq8,.slice Yq9 W.ha.length Cq9] 56)
 have hE:Ext w6 w7:=by rw [hw7];exact (Ext.refl _).alloc _
 have hs7:w7.heap.size=w6.heap.size+1:=by rw [hw7];exact World.size_alloc _ _
 rw [← hw7]
 clear hw7
 have hz7:w6.heap.size ≤ w7.heap.size:=hE.size
 have hX7:Ext w w7:=hX6.trans hE
 have tmp:=qh (show Boxed w7 w.heap.size [v0,.int .i64 W.ch.fr,.int .i64 W.ch.to,v3,v4,v5,v6,v7,v8,v9] from HA.out.ext hE)
 clear HA
 have HA:=tmp
 clear tmp
 have tmp:=qh (show OwnInts w7 w4.heap.size w5.heap.size gW (usL W l x2) from HW.out.ext hE (by omega))
 clear HW
 have HW:=tmp
 clear tmp
 have tmp:=qh (show WrlAt w7 0 w7.heap.size (.slice Yq0 W.ch.rg.length Cq0) (.slice Yq3 W.pp.ps.length Cq3) (.slice Yq4 W.pp.tm.length Cq4) (.slice Yq5 W.ld.pl.length Cq5) (.slice Yq6 W.ld.wy.length Cq6) (.slice Yq7 W.st.length Cq7) (.slice Yq8 W.se.length Cq8) (.slice Yq9 W.ha.length Cq9) W from Hq.out.up hE)
 clear Hq
 have Hq:=tmp
 clear tmp
 have tmp:=qh (show WrlC w7 w5.heap.size w6.heap.size (.slice Yq0 W.ch.rg.length Cq0) (.slice Yq3 W.pp.ps.length Cq3) (.slice Yq4 W.pp.tm.length Cq4) (.slice Yq5 W.ld.pl.length Cq5) (.slice Yq6 W.ld.wy.length Cq6) (.slice Yq7 W.st.length Cq7) (.slice Yq8 W.se.length Cq8) (.slice Yq9 W.ha.length Cq9) W from Hqc.out.mrk (Mrk.of_ext (lo:=0) (hi:=0) hE))
 clear Hqc
 have Hqc:=tmp
 clear tmp
 clear a0 a1 a2 a3 a4 a5 a6 a7 a8 a9 ag
 obtain ⟨a0,a1,a2,a3,a4,a5,a6,a7,a8,a9,ag⟩:=HA.out.ten
 clear hE
 obtain ⟨b0,b1,b2,b3,b4,b5,b6,b7,b8,b9,bg⟩:=HB.out.ten
 refine Calls.mono (laws_toDeedS _ l _ (Hd.out.up hX7) Hdl.out) ?_
 rintro e w8 ⟨y,rfl,hE,ho8⟩
 obtain ⟨Ay,Cy,rfl,_,_⟩:=ho8.low.len
 have Hy:=qh ho8
 clear ho8
 have hz8:w7.heap.size ≤ w8.heap.size:=hE.size
 have hX8:Ext w w8:=hX7.trans hE
 have tmp:=qh (show Boxed w8 w.heap.size [v0,.int .i64 W.ch.fr,.int .i64 W.ch.to,v3,v4,v5,v6,v7,v8,v9] from HA.out.ext hE)
 clear HA
 have HA:=tmp
 clear tmp
 have tmp:=qh (show OwnInts w8 w4.heap.size w5.heap.size gW (usL W l x2) from HW.out.ext hE (by omega))
 clear HW
 have HW:=tmp
 clear tmp
 have tmp:=qh (show WrlAt w8 0 w8.heap.size (.slice Yq0 W.ch.rg.length Cq0) (.slice Yq3 W.pp.ps.length Cq3) (.slice Yq4 W.pp.tm.length Cq4) (.slice Yq5 W.ld.pl.length Cq5) (.slice Yq6 W.ld.wy.length Cq6) (.slice Yq7 W.st.length Cq7) (.slice Yq8 W.se.length Cq8) (.slice Yq9 W.ha.length Cq9) W from Hq.out.up hE)
 clear Hq
 have Hq:=tmp
 clear tmp
 have tmp:=qh (show WrlC w8 w5.heap.size w6.heap.size (.slice Yq0 W.ch.rg.length Cq0) (.slice Yq3 W.pp.ps.length Cq3) (.slice Yq4 W.pp.tm.length Cq4) (.slice Yq5 W.ld.pl.length Cq5) (.slice Yq6 W.ld.wy.length Cq6) (.slice Yq7 W.st.length Cq7) (.slice Yq8 W.se.length Cq8) (.slice Yq9 W.ha.length Cq9) W from Hqc.out.mrk (Mrk.of_ext (lo:=0) (hi:=0) hE))
 clear Hqc
 have Hqc:=tmp
 clear tmp
 have tmp:=qh (show Boxed w8 w6.heap.size [.slice Yq0 W.ch.rg.length Cq0,.int .i64 W.ch.fr,.int .i64 W.ch.to,.slice Yq3 W.pp.ps.length Cq3,.slice Yq4 W.pp.tm.length Cq4,.slice Yq5 W.ld.pl.length Cq5,.slice Yq6 W.ld.wy.length Cq6,.slice Yq7 W.st.length Cq7,.slice Yq8 W.se.length Cq8,.slice Yq9 W.ha.length Cq9] from HB.out.ext hE)
 clear HB
 have HB:=tmp
 clear tmp
 clear a0 a1 a2 a3 a4 a5 a6 a7 a8 a9 ag
 obtain ⟨a0,a1,a2,a3,a4,a5,a6,a7,a8,a9,ag⟩:=HA.out.ten
 clear b0 b1 b2 b3 b4 b5 b6 b7 b8 b9 bg
 obtain ⟨b0,b1,b2,b3,b4,b5,b6,b7,b8,b9,bg⟩:=HB.out.ten
 clear hE
 go_wp2_with fail
 refine Calls.mono (impl_UselessSources (.slice Yq0 W.ch.rg.length Cq0) (.slice Yq3 W.pp.ps.length Cq3) (.slice Yq4 W.pp.tm.length Cq4) (.slice Yq5 W.ld.pl.length Cq5) (.slice Yq6 W.ld.wy.length Cq6) (.slice Yq7 W.st.length Cq7) (.slice Yq8 W.se.length Cq8) (.slice Yq9 W.ha.length Cq9) _ W l x2 _ Hq.out (show Deds w8 0 w8.heap.size (.slice Ay l.length Cy) l from (Hy.out.deds.mono (Nat.zero_le _) (by omega)))) ?_
 rintro e w9 ⟨gG,bG,rfl,hE,hbG,hoG⟩
 have HG:=qh (show OwnInts w9 w8.heap.size w9.heap.size gG (usL W l x2) from ⟨bG,fun hn=>⟨hbG hn,hoG.lt hn⟩,hoG⟩)
 clear hbG hoG
 have hz9:w8.heap.size ≤ w9.heap.size:=hE.size
 have hX9:Ext w w9:=hX8.trans hE
 have tmp:=qh (show Boxed w9 w.heap.size [v0,.int .i64 W.ch.fr,.int .i64 W.ch.to,v3,v4,v5,v6,v7,v8,v9] from HA.out.ext hE)
 clear HA
 have HA:=tmp
 clear tmp
 have tmp:=qh (show OwnInts w9 w4.heap.size w5.heap.size gW (usL W l x2) from HW.out.ext hE (by omega))
 clear HW
 have HW:=tmp
 clear tmp
 have tmp:=qh (show WrlAt w9 0 w9.heap.size (.slice Yq0 W.ch.rg.length Cq0) (.slice Yq3 W.pp.ps.length Cq3) (.slice Yq4 W.pp.tm.length Cq4) (.slice Yq5 W.ld.pl.length Cq5) (.slice Yq6 W.ld.wy.length Cq6) (.slice Yq7 W.st.length Cq7) (.slice Yq8 W.se.length Cq8) (.slice Yq9 W.ha.length Cq9) W from Hq.out.up hE)
 clear Hq
 have Hq:=tmp
 clear tmp
 have tmp:=qh (show WrlC w9 w5.heap.size w6.heap.size (.slice Yq0 W.ch.rg.length Cq0) (.slice Yq3 W.pp.ps.length Cq3) (.slice Yq4 W.pp.tm.length Cq4) (.slice Yq5 W.ld.pl.length Cq5) (.slice Yq6 W.ld.wy.length Cq6) (.slice Yq7 W.st.length Cq7) (.slice Yq8 W.se.length Cq8) (.slice Yq9 W.ha.length Cq9) W from Hqc.out.mrk (Mrk.of_ext (lo:=0) (hi:=0) hE))
 clear Hqc
 have Hqc:=tmp
 clear tmp
 have tmp:=qh (show Boxed w9 w6.heap.size [.slice Yq0 W.ch.rg.length Cq0,.int .i64 W.ch.fr,.int .i64 W.ch.to,.slice Yq3 W.pp.ps.length Cq3,.slice Yq4 W.pp.tm.length Cq4,.slice Yq5 W.ld.pl.length Cq5,.slice Yq6 W.ld.wy.length Cq6,.slice Yq7 W.st.length Cq7,.slice Yq8 W.se.length Cq8,.slice Yq9 W.ha.length Cq9] from HB.out.ext hE)
 clear HB
 have HB:=tmp
 clear tmp
 have tmp:=qh (show DedsO w9 (w7.heap.size) w8.heap.size (.slice Ay l.length Cy) l from Hy.out.ext hE (by omega))
 clear Hy
 have Hy:=tmp
 clear tmp
 clear a0 a1 a2 a3 a4 a5 a6 a7 a8 a9 ag
 obtain ⟨a0,a1,a2,a3,a4,a5,a6,a7,a8,a9,ag⟩:=HA.out.ten
 clear b0 b1 b2 b3 b4 b5 b6 b7 b8 b9 bg
 obtain ⟨b0,b1,b2,b3,b4,b5,b6,b7,b8,b9,bg⟩:=HB.out.ten
 clear hE
 go_wp2_with fail
 go_wp2_with fail
 refine Calls.mono (laws_eqInt64S _ _ (usL W l x2) _ (Ints.upAt HG.out.ints (by omega) (Ext.refl _)) (Ints.upAt HW.out.ints (by omega) (Ext.refl _))) ?_
 rintro e w10 ⟨rfl,hE⟩
 have hz10:w9.heap.size ≤ w10.heap.size:=hE.size
 have hX10:Ext w w10:=hX9.trans hE
 have tmp:=qh (show Boxed w10 w.heap.size [v0,.int .i64 W.ch.fr,.int .i64 W.ch.to,v3,v4,v5,v6,v7,v8,v9] from HA.out.ext hE)
 clear HA
 have HA:=tmp
 clear tmp
 have tmp:=qh (show OwnInts w10 w4.heap.size w5.heap.size gW (usL W l x2) from HW.out.ext hE (by omega))
 clear HW
 have HW:=tmp
 clear tmp
 have tmp:=qh (show WrlAt w10 0 w10.heap.size (.slice Yq0 W.ch.rg.length Cq0) (.slice Yq3 W.pp.ps.length Cq3) (.slice Yq4 W.pp.tm.length Cq4) (.slice Yq5 W.ld.pl.length Cq5) (.slice Yq6 W.ld.wy.length Cq6) (.slice Yq7 W.st.length Cq7) (.slice Yq8 W.se.length Cq8) (.slice Yq9 W.ha.length Cq9) W from Hq.out.up hE)
 clear Hq
 have Hq:=tmp
 clear tmp
 have tmp:=qh (show WrlC w10 w5.heap.size w6.heap.size (.slice Yq0 W.ch.rg.length Cq0) (.slice Yq3 W.pp.ps.length Cq3) (.slice Yq4 W.pp.tm.length Cq4) (.slice Yq5 W.ld.pl.length Cq5) (.slice Yq6 W.ld.wy.length Cq6) (.slice Yq7 W.st.length Cq7) (.slice Yq8 W.se.length Cq8) (.slice Yq9 W.ha.length Cq9) W from Hqc.out.mrk (Mrk.of_ext (lo:=0) (hi:=0) hE))
 clear Hqc
 have Hqc:=tmp
 clear tmp
 have tmp:=qh (show Boxed w10 w6.heap.size [.slice Yq0 W.ch.rg.length Cq0,.int .i64 W.ch.fr,.int .i64 W.ch.to,.slice Yq3 W.pp.ps.length Cq3,.slice Yq4 W.pp.tm.length Cq4,.slice Yq5 W.ld.pl.length Cq5,.slice Yq6 W.ld.wy.length Cq6,.slice Yq7 W.st.length Cq7,.slice Yq8 W.se.length Cq8,.slice Yq9 W.ha.length Cq9] from HB.out.ext hE)
 clear HB
 have HB:=tmp
 clear tmp
 have tmp:=qh (show DedsO w10 (w7.heap.size) w8.heap.size (.slice Ay l.length Cy) l from Hy.out.ext hE (by omega))
 clear Hy
 have Hy:=tmp
 clear tmp
 have tmp:=qh (show OwnInts w10 w8.heap.size w9.heap.size gG (usL W l x2) from HG.out.ext hE (by omega))
 clear HG
 have HG:=tmp
 clear tmp
 clear a0 a1 a2 a3 a4 a5 a6 a7 a8 a9 ag
 obtain ⟨a0,a1,a2,a3,a4,a5,a6,a7,a8,a9,ag⟩:=HA.out.ten
 clear b0 b1 b2 b3 b4 b5 b6 b7 b8 b9 bg
 obtain ⟨b0,b1,b2,b3,b4,b5,b6,b7,b8,b9,bg⟩:=HB.out.ten
 clear hE
 go_wp2_with fail
 go_region_held3 (fun w' => w'.cell? ⟨w.heap.size,0,none⟩=some (v0)∧w'.cell? ⟨w.heap.size,1,none⟩=some (.int .i64 W.ch.fr)∧w'.cell? ⟨w.heap.size,2,none⟩=some (.int .i64 W.ch.to)∧w'.cell? ⟨w.heap.size,3,none⟩=some (v3)∧w'.cell? ⟨w.heap.size,4,none⟩=some (v4)∧w'.cell? ⟨w.heap.size,5,none⟩=some (v5)∧w'.cell? ⟨w.heap.size,6,none⟩=some (v6)∧w'.cell? ⟨w.heap.size,7,none⟩=some (v7)∧w'.cell? ⟨w.heap.size,8,none⟩=some (v8)∧w'.cell? ⟨w.heap.size,9,none⟩=some (v9)∧w'.cell? ⟨w6.heap.size,0,none⟩=some (.slice Yq0 W.ch.rg.length Cq0)∧w'.cell? ⟨w6.heap.size,1,none⟩=some (.int .i64 W.ch.fr)∧w'.cell? ⟨w6.heap.size,2,none⟩=some (.int .i64 W.ch.to)∧w'.cell? ⟨w6.heap.size,3,none⟩=some (.slice Yq3 W.pp.ps.length Cq3)∧w'.cell? ⟨w6.heap.size,4,none⟩=some (.slice Yq4 W.pp.tm.length Cq4)∧w'.cell? ⟨w6.heap.size,5,none⟩=some (.slice Yq5 W.ld.pl.length Cq5)∧w'.cell? ⟨w6.heap.size,6,none⟩=some (.slice Yq6 W.ld.wy.length Cq6)∧w'.cell? ⟨w6.heap.size,7,none⟩=some (.slice Yq7 W.st.length Cq7)∧w'.cell? ⟨w6.heap.size,8,none⟩=some (.slice Yq8 W.se.length Cq8)∧w'.cell? ⟨w6.heap.size,9,none⟩=some (.slice Yq9 W.ha.length Cq9)∧Ext w10 w')
  (exact Ext.and_cell ag a0 exts (Ext.and_cell ag a1 exts (Ext.and_cell ag a2 exts (Ext.and_cell ag a3 exts (Ext.and_cell ag a4 exts (Ext.and_cell ag a5 exts (Ext.and_cell ag a6 exts (Ext.and_cell ag a7 exts (Ext.and_cell ag a8 exts (Ext.and_cell ag a9 exts (Ext.and_cell bg b0 exts (Ext.and_cell bg b1 exts (Ext.and_cell bg b2 exts (Ext.and_cell bg b3 exts (Ext.and_cell bg b4 exts (Ext.and_cell bg b5 exts (Ext.and_cell bg b6 exts (Ext.and_cell bg b7 exts (Ext.and_cell bg b8 exts (Ext.and_cell bg b9 exts exts))))))))))))))))))))
  (first
   | (go_at_call 11;refine Calls.mono (laws_toWorld v0 v3 v4 v5 v6 v7 v8 v9 W _ (H.out.up (hX10.trans exts)) Hln.out) ?_;rintro e w11 ⟨s0,s3,s4,s5,s6,s7,s8,s9,rfl,hx11,ho11,_⟩)
   | (go_at_call 15;refine Calls.mono (laws_eqWorld (.slice Yq0 W.ch.rg.length Cq0) (.slice Yq3 W.pp.ps.length Cq3) (.slice Yq4 W.pp.tm.length Cq4) (.slice Yq5 W.ld.pl.length Cq5) (.slice Yq6 W.ld.wy.length Cq6) (.slice Yq7 W.st.length Cq7) (.slice Yq8 W.se.length Cq8) (.slice Yq9 W.ha.length Cq9) s0 s3 s4 s5 s6 s7 s8 s9 W _ (Hq.out.up exts) (ho11.low.up exts)) ?_;rintro e w12 ⟨rfl,hx12⟩))
 have hE:Ext w10 w12:=exts
 clear hx11 hx12 ho11
 have hz12:w10.heap.size ≤ w12.heap.size:=hE.size
 have hX12:Ext w w12:=hX10.trans hE
 have tmp:=qh (show Boxed w12 w.heap.size [v0,.int .i64 W.ch.fr,.int .i64 W.ch.to,v3,v4,v5,v6,v7,v8,v9] from HA.out.ext hE)
 clear HA
 have HA:=tmp
 clear tmp
 have tmp:=qh (show OwnInts w12 w4.heap.size w5.heap.size gW (usL W l x2) from HW.out.ext hE (by omega))
 clear HW
 have HW:=tmp
 clear tmp
 have tmp:=qh (show WrlAt w12 0 w12.heap.size (.slice Yq0 W.ch.rg.length Cq0) (.slice Yq3 W.pp.ps.length Cq3) (.slice Yq4 W.pp.tm.length Cq4) (.slice Yq5 W.ld.pl.length Cq5) (.slice Yq6 W.ld.wy.length Cq6) (.slice Yq7 W.st.length Cq7) (.slice Yq8 W.se.length Cq8) (.slice Yq9 W.ha.length Cq9) W from Hq.out.up hE)
 clear Hq
 have Hq:=tmp
 clear tmp
 have tmp:=qh (show WrlC w12 w5.heap.size w6.heap.size (.slice Yq0 W.ch.rg.length Cq0) (.slice Yq3 W.pp.ps.length Cq3) (.slice Yq4 W.pp.tm.length Cq4) (.slice Yq5 W.ld.pl.length Cq5) (.slice Yq6 W.ld.wy.length Cq6) (.slice Yq7 W.st.length Cq7) (.slice Yq8 W.se.length Cq8) (.slice Yq9 W.ha.length Cq9) W from Hqc.out.mrk (Mrk.of_ext (lo:=0) (hi:=0) hE))
 clear Hqc
 have Hqc:=tmp
 clear tmp
 have tmp:=qh (show Boxed w12 w6.heap.size [.slice Yq0 W.ch.rg.length Cq0,.int .i64 W.ch.fr,.int .i64 W.ch.to,.slice Yq3 W.pp.ps.length Cq3,.slice Yq4 W.pp.tm.length Cq4,.slice Yq5 W.ld.pl.length Cq5,.slice Yq6 W.ld.wy.length Cq6,.slice Yq7 W.st.length Cq7,.slice Yq8 W.se.length Cq8,.slice Yq9 W.ha.length Cq9] from HB.out.ext hE)
 clear HB
 have HB:=tmp
 clear tmp
 have tmp:=qh (show DedsO w12 (w7.heap.size) w8.heap.size (.slice Ay l.length Cy) l from Hy.out.ext hE (by omega))
 clear Hy
 have Hy:=tmp
 clear tmp
 have tmp:=qh (show OwnInts w12 w8.heap.size w9.heap.size gG (usL W l x2) from HG.out.ext hE (by omega))
 clear HG
 have HG:=tmp
 clear tmp
 clear a0 a1 a2 a3 a4 a5 a6 a7 a8 a9 ag
 obtain ⟨a0,a1,a2,a3,a4,a5,a6,a7,a8,a9,ag⟩:=HA.out.ten
 clear b0 b1 b2 b3 b4 b5 b6 b7 b8 b9 bg
 obtain ⟨b0,b1,b2,b3,b4,b5,b6,b7,b8,b9,bg⟩:=HB.out.ten
 clear hE
 clear Hq
 go_wp2_with fail
 refine Calls.mono (laws_toDeedS _ l _ (Hd.out.up hX12) Hdl.out) ?_
 rintro e w13 ⟨z,rfl,hE,ho13⟩
 obtain ⟨Az,Cz,rfl,_,_⟩:=ho13.low.len
 have Hz:=qh ho13
 clear ho13
 have hz13:w12.heap.size ≤ w13.heap.size:=hE.size
 have hX13:Ext w w13:=hX12.trans hE
 have tmp:=qh (show Boxed w13 w.heap.size [v0,.int .i64 W.ch.fr,.int .i64 W.ch.to,v3,v4,v5,v6,v7,v8,v9] from HA.out.ext hE)
 clear HA
 have HA:=tmp
 clear tmp
 have tmp:=qh (show OwnInts w13 w4.heap.size w5.heap.size gW (usL W l x2) from HW.out.ext hE (by omega))
 clear HW
 have HW:=tmp
 clear tmp
 have tmp:=qh (show WrlC w13 w5.heap.size w6.heap.size (.slice Yq0 W.ch.rg.length Cq0) (.slice Yq3 W.pp.ps.length Cq3) (.slice Yq4 W.pp.tm.length Cq4) (.slice Yq5 W.ld.pl.length Cq5) (.slice Yq6 W.ld.wy.length Cq6) (.slice Yq7 W.st.length Cq7) (.slice Yq8 W.se.length Cq8) (.slice Yq9 W.ha.length Cq9) W from Hqc.out.mrk (Mrk.of_ext (lo:=0) (hi:=0) hE))
 clear Hqc
 have Hqc:=tmp
 clear tmp
 have tmp:=qh (show Boxed w13 w6.heap.size [.slice Yq0 W.ch.rg.length Cq0,.int .i64 W.ch.fr,.int .i64 W.ch.to,.slice Yq3 W.pp.ps.length Cq3,.slice Yq4 W.pp.tm.length Cq4,.slice Yq5 W.ld.pl.length Cq5,.slice Yq6 W.ld.wy.length Cq6,.slice Yq7 W.st.length Cq7,.slice Yq8 W.se.length Cq8,.slice Yq9 W.ha.length Cq9] from HB.out.ext hE)
 clear HB
 have HB:=tmp
 clear tmp
 have tmp:=qh (show DedsO w13 (w7.heap.size) w8.heap.size (.slice Ay l.length Cy) l from Hy.out.ext hE (by omega))
 clear Hy
 have Hy:=tmp
 clear tmp
 have tmp:=qh (show OwnInts w13 w8.heap.size w9.heap.size gG (usL W l x2) from HG.out.ext hE (by omega))
 clear HG
 have HG:=tmp
 clear tmp
 clear a0 a1 a2 a3 a4 a5 a6 a7 a8 a9 ag
 obtain ⟨a0,a1,a2,a3,a4,a5,a6,a7,a8,a9,ag⟩:=HA.out.ten
 clear b0 b1 b2 b3 b4 b5 b6 b7 b8 b9 bg
 obtain ⟨b0,b1,b2,b3,b4,b5,b6,b7,b8,b9,bg⟩:=HB.out.ten
 clear hE
 go_wp2_with fail
 refine Calls.mono (laws_eqDeedS _ _ l _ (show Deds w13 0 w13.heap.size (.slice Ay l.length Cy) l from (Hy.out.deds.mono (Nat.zero_le _) (by omega))) (show Deds w13 0 w13.heap.size (.slice Az l.length Cz) l from (Hz.out.deds.mono (Nat.zero_le _) (by omega)))) ?_
 rintro e w14 ⟨rfl,hE⟩
 have hz14:w13.heap.size ≤ w14.heap.size:=hE.size
 have hX14:Ext w w14:=hX13.trans hE
 have tmp:=qh (show Boxed w14 w.heap.size [v0,.int .i64 W.ch.fr,.int .i64 W.ch.to,v3,v4,v5,v6,v7,v8,v9] from HA.out.ext hE)
 clear HA
 have HA:=tmp
 clear tmp
 have tmp:=qh (show OwnInts w14 w4.heap.size w5.heap.size gW (usL W l x2) from HW.out.ext hE (by omega))
 clear HW
 have HW:=tmp
 clear tmp
 have tmp:=qh (show WrlC w14 w5.heap.size w6.heap.size (.slice Yq0 W.ch.rg.length Cq0) (.slice Yq3 W.pp.ps.length Cq3) (.slice Yq4 W.pp.tm.length Cq4) (.slice Yq5 W.ld.pl.length Cq5) (.slice Yq6 W.ld.wy.length Cq6) (.slice Yq7 W.st.length Cq7) (.slice Yq8 W.se.length Cq8) (.slice Yq9 W.ha.length Cq9) W from Hqc.out.mrk (Mrk.of_ext (lo:=0) (hi:=0) hE))
 clear Hqc
 have Hqc:=tmp
 clear tmp
 have tmp:=qh (show Boxed w14 w6.heap.size [.slice Yq0 W.ch.rg.length Cq0,.int .i64 W.ch.fr,.int .i64 W.ch.to,.slice Yq3 W.pp.ps.length Cq3,.slice Yq4 W.pp.tm.length Cq4,.slice Yq5 W.ld.pl.length Cq5,.slice Yq6 W.ld.wy.length Cq6,.slice Yq7 W.st.length Cq7,.slice Yq8 W.se.length Cq8,.slice Yq9 W.ha.length Cq9] from HB.out.ext hE)
 clear HB
 have HB:=tmp
 clear tmp
 have tmp:=qh (show DedsO w14 (w7.heap.size) w8.heap.size (.slice Ay l.length Cy) l from Hy.out.ext hE (by omega))
 clear Hy
 have Hy:=tmp
 clear tmp
 have tmp:=qh (show OwnInts w14 w8.heap.size w9.heap.size gG (usL W l x2) from HG.out.ext hE (by omega))
 clear HG
 have HG:=tmp
 clear tmp
 have tmp:=qh (show DedsO w14 (w12.heap.size) w13.heap.size (.slice Az l.length Cz) l from Hz.out.ext hE (by omega))
 clear Hz
 have Hz:=tmp
 clear tmp
 clear a0 a1 a2 a3 a4 a5 a6 a7 a8 a9 ag
 obtain ⟨a0,a1,a2,a3,a4,a5,a6,a7,a8,a9,ag⟩:=HA.out.ten
 clear b0 b1 b2 b3 b4 b5 b6 b7 b8 b9 bg
 obtain ⟨b0,b1,b2,b3,b4,b5,b6,b7,b8,b9,bg⟩:=HB.out.ten
 clear hE
 clear Hz
 go_wp2_with fail
 refine Calls.mono (laws_markWorld_b w5.heap.size w6.heap.size (.slice Yq0 W.ch.rg.length Cq0) (.slice Yq3 W.pp.ps.length Cq3) (.slice Yq4 W.pp.tm.length Cq4) (.slice Yq5 W.ld.pl.length Cq5) (.slice Yq6 W.ld.wy.length Cq6) (.slice Yq7 W.st.length Cq7) (.slice Yq8 W.se.length Cq8) (.slice Yq9 W.ha.length Cq9) W 1 _ Hqc.out Hln.out (by omega) (by omega) (by omega)) ?_
 rintro e w15 ⟨k1,rfl,ka1,kb1,hm⟩
 have hO:=hm.off
 have hz15:w14.heap.size ≤ w15.heap.size:=hO.size
 have hX15:Ext w w15:=hX14.off hO (fun x h1 hh=>by have h3:=hh.1;have h4:=hh.2;omega)
 have tmp:=qh (show Boxed w15 w.heap.size [v0,.int .i64 W.ch.fr,.int .i64 W.ch.to,v3,v4,v5,v6,v7,v8,v9] from HA.out.off hO (fun hh=>by have h3:=hh.1;have h4:=hh.2;omega))
 clear HA
 have HA:=tmp
 clear tmp
 have tmp:=qh (show OwnInts w15 w4.heap.size w5.heap.size gW (usL W l x2) from HW.out.off hO (fun x h1 h2 hh=>by have h3:=hh.1;have h4:=hh.2;omega) (by omega))
 clear HW
 have HW:=tmp
 clear tmp
 have tmp:=qh (show Boxed w15 w6.heap.size [.slice Yq0 W.ch.rg.length Cq0,.int .i64 W.ch.fr,.int .i64 W.ch.to,.slice Yq3 W.pp.ps.length Cq3,.slice Yq4 W.pp.tm.length Cq4,.slice Yq5 W.ld.pl.length Cq5,.slice Yq6 W.ld.wy.length Cq6,.slice Yq7 W.st.length Cq7,.slice Yq8 W.se.length Cq8,.slice Yq9 W.ha.length Cq9] from HB.out.off hO (fun hh=>by have h3:=hh.1;have h4:=hh.2;omega))
 clear HB
 have HB:=tmp
 clear tmp
 have tmp:=qh (show OwnInts w15 w8.heap.size w9.heap.size gG (usL W l x2) from HG.out.off hO (fun x h1 h2 hh=>by have h3:=hh.1;have h4:=hh.2;omega) (by omega))
 clear HG
 have HG:=tmp
 clear tmp
 clear a0 a1 a2 a3 a4 a5 a6 a7 a8 a9 ag
 obtain ⟨a0,a1,a2,a3,a4,a5,a6,a7,a8,a9,ag⟩:=HA.out.ten
 clear b0 b1 b2 b3 b4 b5 b6 b7 b8 b9 bg
 obtain ⟨b0,b1,b2,b3,b4,b5,b6,b7,b8,b9,bg⟩:=HB.out.ten
 clear Hqc
 have tmp:=qh (show DedsO w15 (w7.heap.size) w8.heap.size (.slice Ay l.length Cy) l from Hy.out.mrk hm (by omega) (by omega))
 clear Hy
 have Hy:=tmp
 clear tmp hm hO
 have Hdl1:=Hdl.out.1
 go_wp2_with fail
 refine Calls.mono (laws_markDeedS_b _ w7.heap.size w8.heap.size l k1 _ Hy.out (by omega) Hdl.out Hdl1 (by omega) (by omega)) ?_
 rintro e w16 ⟨k2,rfl,ka2,kb2,hm⟩
 have hO:=hm.off
 have hz16:w15.heap.size ≤ w16.heap.size:=hO.size
 have hX16:Ext w w16:=hX15.off hO (fun x h1 hh=>by have h3:=hh.1;have h4:=hh.2;omega)
 have tmp:=qh (show Boxed w16 w.heap.size [v0,.int .i64 W.ch.fr,.int .i64 W.ch.to,v3,v4,v5,v6,v7,v8,v9] from HA.out.off hO (fun hh=>by have h3:=hh.1;have h4:=hh.2;omega))
 clear HA
 have HA:=tmp
 clear tmp
 have tmp:=qh (show OwnInts w16 w4.heap.size w5.heap.size gW (usL W l x2) from HW.out.off hO (fun x h1 h2 hh=>by have h3:=hh.1;have h4:=hh.2;omega) (by omega))
 clear HW
 have HW:=tmp
 clear tmp
 have tmp:=qh (show Boxed w16 w6.heap.size [.slice Yq0 W.ch.rg.length Cq0,.int .i64 W.ch.fr,.int .i64 W.ch.to,.slice Yq3 W.pp.ps.length Cq3,.slice Yq4 W.pp.tm.length Cq4,.slice Yq5 W.ld.pl.length Cq5,.slice Yq6 W.ld.wy.length Cq6,.slice Yq7 W.st.length Cq7,.slice Yq8 W.se.length Cq8,.slice Yq9 W.ha.length Cq9] from HB.out.off hO (fun hh=>by have h3:=hh.1;have h4:=hh.2;omega))
 clear HB
 have HB:=tmp
 clear tmp
 have tmp:=qh (show OwnInts w16 w8.heap.size w9.heap.size gG (usL W l x2) from HG.out.off hO (fun x h1 h2 hh=>by have h3:=hh.1;have h4:=hh.2;omega) (by omega))
 clear HG
 have HG:=tmp
 clear tmp
 clear a0 a1 a2 a3 a4 a5 a6 a7 a8 a9 ag
 obtain ⟨a0,a1,a2,a3,a4,a5,a6,a7,a8,a9,ag⟩:=HA.out.ten
 clear b0 b1 b2 b3 b4 b5 b6 b7 b8 b9 bg
 obtain ⟨b0,b1,b2,b3,b4,b5,b6,b7,b8,b9,bg⟩:=HB.out.ten
 clear Hy hm hO
 have hk2:decide (k2 < 0)=false:=decide_eq_false (by omega)
 go_wp2_with fail
 clear HB
 clear b0 b1 b2 b3 b4 b5 b6 b7 b8 b9 bg
 go_wp2_with fail
 refine Calls.mono (laws_eqInt64S _ _ (usL W l x2) _ (Ints.upAt HG.out.ints (by omega) (Ext.refl _)) (Ints.upAt HW.out.ints (by omega) (Ext.refl _))) ?_
 rintro e w17 ⟨rfl,hE⟩
 have hz17:w16.heap.size ≤ w17.heap.size:=hE.size
 have hX17:Ext w w17:=hX16.trans hE
 have tmp:=qh (show Boxed w17 w.heap.size [v0,.int .i64 W.ch.fr,.int .i64 W.ch.to,v3,v4,v5,v6,v7,v8,v9] from HA.out.ext hE)
 clear HA
 have HA:=tmp
 clear tmp
 have tmp:=qh (show OwnInts w17 w4.heap.size w5.heap.size gW (usL W l x2) from HW.out.ext hE (by omega))
 clear HW
 have HW:=tmp
 clear tmp
 have tmp:=qh (show OwnInts w17 w8.heap.size w9.heap.size gG (usL W l x2) from HG.out.ext hE (by omega))
 clear HG
 have HG:=tmp
 clear tmp
 clear a0 a1 a2 a3 a4 a5 a6 a7 a8 a9 ag
 obtain ⟨a0,a1,a2,a3,a4,a5,a6,a7,a8,a9,ag⟩:=HA.out.ten
 clear hE
 go_wp2_with fail
 have HsR:=qh (show (usL W l x2).length ≤ 1048576 from usL_small W l x2)
 have hnR:=HsR.out
 refine Calls.mono (markInts _ _ _ (usL W l x2) 1 _ HG.out HsR.out (by omega) (by omega)) ?_
 rintro e w18 ⟨rfl,hO,hm18⟩
 clear HG
 have hz18:w17.heap.size ≤ w18.heap.size:=hO.size
 have hX18:Ext w w18:=hX17.off hO (fun x h1 hh=>by have h3:=hh.1;have h4:=hh.2;omega)
 have tmp:=qh (show Boxed w18 w.heap.size [v0,.int .i64 W.ch.fr,.int .i64 W.ch.to,v3,v4,v5,v6,v7,v8,v9] from HA.out.off hO (fun hh=>by have h3:=hh.1;have h4:=hh.2;omega))
 clear HA
 have HA:=tmp
 clear tmp
 have tmp:=qh (show OwnInts w18 w4.heap.size w5.heap.size gW (usL W l x2) from HW.out.off hO (fun x h1 h2 hh=>by have h3:=hh.1;have h4:=hh.2;omega) (by omega))
 clear HW
 have HW:=tmp
 clear tmp
 clear a0 a1 a2 a3 a4 a5 a6 a7 a8 a9 ag
 obtain ⟨a0,a1,a2,a3,a4,a5,a6,a7,a8,a9,ag⟩:=HA.out.ten
 have HG:=qh hm18
 clear hm18 hO
 obtain ⟨m,hmm⟩:∃ m:Int,(1:Int)+(usL W l x2).length=m:=⟨_,rfl⟩
 rw [hmm]
 have hmz:decide (m < 0)=false:=decide_eq_false (by omega)
 have hme:(m != m)=false:=bne_self_eq_false m
 go_wp2_with fail
 refine Calls.mono (laws_heldInt64S _ _ _ (usL W l x2).length 1 _ HG.out (by omega) HsR.out (by omega) (by omega)) ?_
 rintro e w19 ⟨rfl,hE⟩
 have hz19:w18.heap.size ≤ w19.heap.size:=hE.size
 have hX19:Ext w w19:=hX18.trans hE
 have tmp:=qh (show Boxed w19 w.heap.size [v0,.int .i64 W.ch.fr,.int .i64 W.ch.to,v3,v4,v5,v6,v7,v8,v9] from HA.out.ext hE)
 clear HA
 have HA:=tmp
 clear tmp
 have tmp:=qh (show OwnInts w19 w4.heap.size w5.heap.size gW (usL W l x2) from HW.out.ext hE (by omega))
 clear HW
 have HW:=tmp
 clear tmp
 have tmp:=qh (show MarkedInts w19 w8.heap.size w9.heap.size gG (usL W l x2) 1 from Row.ext HG.out hE (by omega))
 clear HG
 have HG:=tmp
 clear tmp
 clear a0 a1 a2 a3 a4 a5 a6 a7 a8 a9 ag
 obtain ⟨a0,a1,a2,a3,a4,a5,a6,a7,a8,a9,ag⟩:=HA.out.ten
 clear hE
 rw [hmm]
 go_wp2_with fail
 refine Calls.mono (laws_toWorld v0 v3 v4 v5 v6 v7 v8 v9 W _ (H.out.up hX19) Hln.out) ?_
 rintro e w20 ⟨u0,u3,u4,u5,u6,u7,u8,u9,rfl,hE,ho20,hc20⟩
 have t:∃ A c,u0=.slice A W.ch.rg.length c:=Row.sl ho20.rg
 obtain ⟨Yu0,Cu0,rfl⟩:=t
 have t:∃ A c,u3=.slice A W.pp.ps.length c:=Row.sl ho20.ps
 obtain ⟨Yu3,Cu3,rfl⟩:=t
 have t:∃ A c,u4=.slice A W.pp.tm.length c:=Row.sl ho20.tm
 obtain ⟨Yu4,Cu4,rfl⟩:=t
 have t:∃ A c,u5=.slice A W.ld.pl.length c:=Row.sl ho20.pl
 obtain ⟨Yu5,Cu5,rfl⟩:=t
 have t:∃ A c,u6=.slice A W.ld.wy.length c:=Row.sl ho20.wy
 obtain ⟨Yu6,Cu6,rfl⟩:=t
 have t:∃ A c,u7=.slice A W.st.length c:=Row.sl ho20.st
 obtain ⟨Yu7,Cu7,rfl⟩:=t
 have t:∃ A c,u8=.slice A W.se.length c:=Row.sl ho20.se
 obtain ⟨Yu8,Cu8,rfl⟩:=t
 have t:∃ A c,u9=.slice A W.ha.length c:=Row.sl ho20.ha
 obtain ⟨Yu9,Cu9,rfl⟩:=t
 have ho20' := ho20.low
 have Hu:=qh ho20'
 clear ho20 ho20' hc20
 have hz20:w19.heap.size ≤ w20.heap.size:=hE.size
 have hX20:Ext w w20:=hX19.trans hE
 have tmp:=qh (show Boxed w20 w.heap.size [v0,.int .i64 W.ch.fr,.int .i64 W.ch.to,v3,v4,v5,v6,v7,v8,v9] from HA.out.ext hE)
 clear HA
 have HA:=tmp
 clear tmp
 have tmp:=qh (show OwnInts w20 w4.heap.size w5.heap.size gW (usL W l x2) from HW.out.ext hE (by omega))
 clear HW
 have HW:=tmp
 clear tmp
 have tmp:=qh (show MarkedInts w20 w8.heap.size w9.heap.size gG (usL W l x2) 1 from Row.ext HG.out hE (by omega))
 clear HG
 have HG:=tmp
 clear tmp
 clear a0 a1 a2 a3 a4 a5 a6 a7 a8 a9 ag
 obtain ⟨a0,a1,a2,a3,a4,a5,a6,a7,a8,a9,ag⟩:=HA.out.ten
 clear hE
 go_wp2_with fail
 refine Calls.mono (laws_toDeedS _ l _ (Hd.out.up hX20) Hdl.out) ?_
 rintro e w21 ⟨t,rfl,hE,ho21⟩
 obtain ⟨At,Ct,rfl,_,_⟩:=ho21.low.len
 have Ht:=qh ho21
 clear ho21
 have hz21:w20.heap.size ≤ w21.heap.size:=hE.size
 have hX21:Ext w w21:=hX20.trans hE
 have tmp:=qh (show Boxed w21 w.heap.size [v0,.int .i64 W.ch.fr,.int .i64 W.ch.to,v3,v4,v5,v6,v7,v8,v9] from HA.out.ext hE)
 clear HA
 have HA:=tmp
 clear tmp
 have tmp:=qh (show OwnInts w21 w4.heap.size w5.heap.size gW (usL W l x2) from HW.out.ext hE (by omega))
 clear HW
 have HW:=tmp
 clear tmp
 have tmp:=qh (show MarkedInts w21 w8.heap.size w9.heap.size gG (usL W l x2) 1 from Row.ext HG.out hE (by omega))
 clear HG
 have HG:=tmp
 clear tmp
 have tmp:=qh (show WrlAt w21 0 w21.heap.size (.slice Yu0 W.ch.rg.length Cu0) (.slice Yu3 W.pp.ps.length Cu3) (.slice Yu4 W.pp.tm.length Cu4) (.slice Yu5 W.ld.pl.length Cu5) (.slice Yu6 W.ld.wy.length Cu6) (.slice Yu7 W.st.length Cu7) (.slice Yu8 W.se.length Cu8) (.slice Yu9 W.ha.length Cu9) W from Hu.out.up hE)
 clear Hu
 have Hu:=tmp
 clear tmp
 clear a0 a1 a2 a3 a4 a5 a6 a7 a8 a9 ag
 obtain ⟨a0,a1,a2,a3,a4,a5,a6,a7,a8,a9,ag⟩:=HA.out.ten
 clear hE
 go_wp2_with fail
 refine Calls.mono (impl_UselessSources (.slice Yu0 W.ch.rg.length Cu0) (.slice Yu3 W.pp.ps.length Cu3) (.slice Yu4 W.pp.tm.length Cu4) (.slice Yu5 W.ld.pl.length Cu5) (.slice Yu6 W.ld.wy.length Cu6) (.slice Yu7 W.st.length Cu7) (.slice Yu8 W.se.length Cu8) (.slice Yu9 W.ha.length Cu9) _ W l x2 _ Hu.out (show Deds w21 0 w21.heap.size (.slice At l.length Ct) l from (Ht.out.deds.mono (Nat.zero_le _) (by omega)))) ?_
 rintro e w22 ⟨gE,bE,rfl,hE,hbE,hoE⟩
 have HE:=qh (show OwnInts w22 w21.heap.size w22.heap.size gE (usL W l x2) from ⟨bE,fun hn=>⟨hbE hn,hoE.lt hn⟩,hoE⟩)
 clear hbE hoE
 have hz22:w21.heap.size ≤ w22.heap.size:=hE.size
 have hX22:Ext w w22:=hX21.trans hE
 have tmp:=qh (show Boxed w22 w.heap.size [v0,.int .i64 W.ch.fr,.int .i64 W.ch.to,v3,v4,v5,v6,v7,v8,v9] from HA.out.ext hE)
 clear HA
 have HA:=tmp
 clear tmp
 have tmp:=qh (show OwnInts w22 w4.heap.size w5.heap.size gW (usL W l x2) from HW.out.ext hE (by omega))
 clear HW
 have HW:=tmp
 clear tmp
 have tmp:=qh (show MarkedInts w22 w8.heap.size w9.heap.size gG (usL W l x2) 1 from Row.ext HG.out hE (by omega))
 clear HG
 have HG:=tmp
 clear tmp
 have tmp:=qh (show WrlAt w22 0 w22.heap.size (.slice Yu0 W.ch.rg.length Cu0) (.slice Yu3 W.pp.ps.length Cu3) (.slice Yu4 W.pp.tm.length Cu4) (.slice Yu5 W.ld.pl.length Cu5) (.slice Yu6 W.ld.wy.length Cu6) (.slice Yu7 W.st.length Cu7) (.slice Yu8 W.se.length Cu8) (.slice Yu9 W.ha.length Cu9) W from Hu.out.up hE)
 clear Hu
 have Hu:=tmp
 clear tmp
 have tmp:=qh (show DedsO w22 (w20.heap.size) w21.heap.size (.slice At l.length Ct) l from Ht.out.ext hE (by omega))
 clear Ht
 have Ht:=tmp
 clear tmp
 clear a0 a1 a2 a3 a4 a5 a6 a7 a8 a9 ag
 obtain ⟨a0,a1,a2,a3,a4,a5,a6,a7,a8,a9,ag⟩:=HA.out.ten
 clear hE
 clear Hu
 clear Ht
 go_wp2_with fail
 go_wp2_with fail
 refine Calls.mono (laws_eqInt64S _ _ (usL W l x2) _ (Ints.upAt HE.out.ints (by omega) (Ext.refl _)) (Ints.upAt HW.out.ints (by omega) (Ext.refl _))) ?_
 rintro e w23 ⟨rfl,hE⟩
 have hz23:w22.heap.size ≤ w23.heap.size:=hE.size
 have hX23:Ext w w23:=hX22.trans hE
 have tmp:=qh (show Boxed w23 w.heap.size [v0,.int .i64 W.ch.fr,.int .i64 W.ch.to,v3,v4,v5,v6,v7,v8,v9] from HA.out.ext hE)
 clear HA
 have HA:=tmp
 clear tmp
 have tmp:=qh (show OwnInts w23 w4.heap.size w5.heap.size gW (usL W l x2) from HW.out.ext hE (by omega))
 clear HW
 have HW:=tmp
 clear tmp
 have tmp:=qh (show MarkedInts w23 w8.heap.size w9.heap.size gG (usL W l x2) 1 from Row.ext HG.out hE (by omega))
 clear HG
 have HG:=tmp
 clear tmp
 have tmp:=qh (show OwnInts w23 w21.heap.size w22.heap.size gE (usL W l x2) from HE.out.ext hE (by omega))
 clear HE
 have HE:=tmp
 clear tmp
 clear a0 a1 a2 a3 a4 a5 a6 a7 a8 a9 ag
 obtain ⟨a0,a1,a2,a3,a4,a5,a6,a7,a8,a9,ag⟩:=HA.out.ten
 clear hE
 go_wp2_with fail
 refine Calls.mono (laws_heldInt64S _ _ _ (usL W l x2).length 1 _ HG.out (by omega) HsR.out (by omega) (by omega)) ?_
 rintro e w24 ⟨rfl,hE⟩
 have hz24:w23.heap.size ≤ w24.heap.size:=hE.size
 have hX24:Ext w w24:=hX23.trans hE
 have tmp:=qh (show Boxed w24 w.heap.size [v0,.int .i64 W.ch.fr,.int .i64 W.ch.to,v3,v4,v5,v6,v7,v8,v9] from HA.out.ext hE)
 clear HA
 have HA:=tmp
 clear tmp
 have tmp:=qh (show OwnInts w24 w4.heap.size w5.heap.size gW (usL W l x2) from HW.out.ext hE (by omega))
 clear HW
 have HW:=tmp
 clear tmp
 have tmp:=qh (show MarkedInts w24 w8.heap.size w9.heap.size gG (usL W l x2) 1 from Row.ext HG.out hE (by omega))
 clear HG
 have HG:=tmp
 clear tmp
 have tmp:=qh (show OwnInts w24 w21.heap.size w22.heap.size gE (usL W l x2) from HE.out.ext hE (by omega))
 clear HE
 have HE:=tmp
 clear tmp
 clear a0 a1 a2 a3 a4 a5 a6 a7 a8 a9 ag
 obtain ⟨a0,a1,a2,a3,a4,a5,a6,a7,a8,a9,ag⟩:=HA.out.ten
 clear hE
 rw [hmm]
 go_wp2_with fail
 go_ret
 exact ⟨rfl,hX24⟩
end Go.Proofs.YtechbeegbhlppaaGreatDoor
