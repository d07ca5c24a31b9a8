/- Texts merged (a claim holds at most sixty files): Wm, Wn, Wo, Wr. -/
import Derived.Test.YtechbeegbhlppaaGreatDoorS1Wj
import Derived.Test.YtechbeegbhlppaaGreatDoorS1Wg
import Derived.Test.YtechbeegbhlppaaGreatDoorS1Vv
import Derived.Test.YtechbeegbhlppaaGreatDoorS1Jg
import Derived.Test.YtechbeegbhlppaaGreatDoorS1Mt
import Derived.Test.YtechbeegbhlppaaGreatDoorS1Qi
import Derived.Deep.RegionHeld3
namespace Go.Proofs.YtechbeegbhlppaaGreatDoor
set_option linter.unusedVariables false
set_option linter.unusedSimpArgs false
open Go.RowKit
attribute [local go_sem] cell_onto
set_option maxRecDepth 100000 in
set_option maxHeartbeats 8000000 in
theorem impl_src_0 (vr vp vt vl vw vs vse vha vd vwi vci:Value) (W:Wrl) (ds:List Ded) (d:Ded) (w:World) (h:SrcIn w vr vp vt vl vw vs vse vha vd vwi W ds d) :
  Calls Tryz.prog 54 #[.agg #[vr,.int .i64 W.ch.fr,.int .i64 W.ch.to,vp,vt,vl,vw,vs,vse,vha],.agg #[.string d.nm,vd,vwi,.string d.pl,.string d.se,.string d.ha,vci],.int .i64 0] w (NewOwn 111 2 (srcL W d 0).length (spanCell (srcL W d 0)) w):=by
 obtain ⟨⟨Hrg,Hps,Htm,Hpl,Hwy,Hst,Hse,Hha⟩,hok,hdt,hwi,hin⟩:=h
 obtain ⟨Avr,cvr,rfl,nvr,kvr⟩:=Hrg.len
 obtain ⟨Avl,cvl,rfl,nvl,kvl⟩:=Hpl.len
 have H:=qh (show SrcIn w (.slice Avr W.ch.rg.length cvr) vp vt (.slice Avl W.ld.pl.length cvl) vw vs vse vha vd vwi W ds d from ⟨⟨Hrg,Hps,Htm,Hpl,Hwy,Hst,Hse,Hha⟩,hok,hdt,hwi,hin⟩)
 clear Hrg Hps Htm Hpl Hwy Hst Hse Hha hok hdt hwi hin
 have Hch:=qh (chS_d H.out.ok)
 have HB1:=qh (Boxed.new w [.slice Avr W.ch.rg.length cvr,.int .i64 W.ch.fr,.int .i64 W.ch.to,vp,vt,.slice Avl W.ld.pl.length cvl,vw,vs,vse,vha] 56)
 have HB2:=qh (Boxed.new (w.alloc (.cells #[.slice Avr W.ch.rg.length cvr,.int .i64 W.ch.fr,.int .i64 W.ch.to,vp,vt,.slice Avl W.ld.pl.length cvl,vw,vs,vse,vha] 56)) [.string d.nm,vd,vwi,.string d.pl,.string d.se,.string d.ha,vci] 101)
 have Hsrc:=qh (srcL_0 W d)
 rw [Hsrc.out]
 go_enter Tryz.func54,Tryz.ntmps54
 go_upto_region 2 with fail
 obtain ⟨wx,hwx⟩:∃ y,y=(((w.alloc (.cells #[.slice Avr W.ch.rg.length cvr,.int .i64 W.ch.fr,.int .i64 W.ch.to,vp,vt,.slice Avl W.ld.pl.length cvl,vw,vs,vse,vha] 56)).alloc (.cells #[.string d.nm,vd,vwi,.string d.pl,.string d.se,.string d.ha,vci] 101)).alloc (.cells #[.int .i64 W.ch.fr,.int .i64 W.ch.to] 111)):=⟨_,rfl⟩
 have HX:=qh (show Ext w wx from by rw [hwx];exact (((Ext.refl _).alloc _).alloc _).alloc _)
 have B1:=qh (show Boxed wx w.heap.size [.slice Avr W.ch.rg.length cvr,.int .i64 W.ch.fr,.int .i64 W.ch.to,vp,vt,.slice Avl W.ld.pl.length cvl,vw,vs,vse,vha] from by rw [hwx];exact (HB1.out.ext ((Ext.refl _).alloc _)).ext ((Ext.refl _).alloc _))
 have B2:=qh (show Boxed wx (w.heap.size+1) [.string d.nm,vd,vwi,.string d.pl,.string d.se,.string d.ha,vci] from by rw [hwx];have h:=HB2.out.ext ((Ext.refl _).alloc (.cells #[.int .i64 W.ch.fr,.int .i64 W.ch.to] 111));rw [World.size_alloc] at h;exact h)
 have Hr:=qh (show RowSp wx w.heap.size 111 (.slice (some ⟨w.heap.size+1+1,0,none⟩) 1 1) (chS W) from by rw [hwx];have h:=rowSp1 ((w.alloc (.cells #[.slice Avr W.ch.rg.length cvr,.int .i64 W.ch.fr,.int .i64 W.ch.to,vp,vt,.slice Avl W.ld.pl.length cvl,vw,vs,vse,vha] 56)).alloc (.cells #[.string d.nm,vd,vwi,.string d.pl,.string d.se,.string d.ha,vci] 101)) 111 W.ch.fr W.ch.to;simp only [World.size_alloc] at h;exact ownsRow_mono h (by omega))
 rw [← hwx]
 clear hwx HB1 HB2
 have b0:=B1.out.cell 0 rfl
 have b1:=B1.out.cell 1 rfl
 have b2:=B1.out.cell 2 rfl
 have b3:=B1.out.cell 3 rfl
 have b4:=B1.out.cell 4 rfl
 have b5:=B1.out.cell 5 rfl
 have b6:=B1.out.cell 6 rfl
 have b7:=B1.out.cell 7 rfl
 have b8:=B1.out.cell 8 rfl
 have b9:=B1.out.cell 9 rfl
 have bg:=B1.out.1
 have e0:=B2.out.cell 0 rfl
 have e1:=B2.out.cell 1 rfl
 have e2:=B2.out.cell 2 rfl
 have e3:=B2.out.cell 3 rfl
 have e4:=B2.out.cell 4 rfl
 have e5:=B2.out.cell 5 rfl
 have e6:=B2.out.cell 6 rfl
 have eg:=B2.out.1
 go_wp2_with fail
 refine Calls.mono (impl_fittingDays _ _ W.ch.rg d.dt W.ch.fr W.ch.to H.out.inn.2.1.2 H.out.ok.1.2.1.1 H.out.ok.1.2.2.1.2 H.out.ok.1.2.2.2.1 _ (H.out.at_.rg.up HX.out) (H.out.dt.up HX.out) (rg_days H.out.ok)) ?_
 rintro e wb ⟨ub,rfl,hxb,hob⟩
 obtain ⟨Ab,cb,rfl⟩:=ownsRow_len hob
 have Hob:=qh hob
 clear hob
 clear b0 b1 b2 b3 b4 b5 b6 b7 b8 b9 bg e0 e1 e2 e3 e4 e5 e6 eg
 go_wp2_with fail
 go_ret
 exact ⟨_,rfl,HX.out.trans hxb,ownsRow_mono Hob.out HX.out.size⟩
set_option maxRecDepth 100000 in
set_option maxHeartbeats 8000000 in
theorem impl_src_1 (vr vp vt vl vw vs vse vha vd vwi vci:Value) (W:Wrl) (ds:List Ded) (d:Ded) (w:World) (h:SrcIn w vr vp vt vl vw vs vse vha vd vwi W ds d) :
  Calls Tryz.prog 54 #[.agg #[vr,.int .i64 W.ch.fr,.int .i64 W.ch.to,vp,vt,vl,vw,vs,vse,vha],.agg #[.string d.nm,vd,vwi,.string d.pl,.string d.se,.string d.ha,vci],.int .i64 1] w (NewOwn 111 2 (srcL W d 1).length (spanCell (srcL W d 1)) w):=by
 obtain ⟨⟨Hrg,Hps,Htm,Hpl,Hwy,Hst,Hse,Hha⟩,hok,hdt,hwi,hin⟩:=h
 obtain ⟨Avr,cvr,rfl,nvr,kvr⟩:=Hrg.len
 obtain ⟨Avl,cvl,rfl,nvl,kvl⟩:=Hpl.len
 have H:=qh (show SrcIn w (.slice Avr W.ch.rg.length cvr) vp vt (.slice Avl W.ld.pl.length cvl) vw vs vse vha vd vwi W ds d from ⟨⟨Hrg,Hps,Htm,Hpl,Hwy,Hst,Hse,Hha⟩,hok,hdt,hwi,hin⟩)
 clear Hrg Hps Htm Hpl Hwy Hst Hse Hha hok hdt hwi hin
 have Hch:=qh (chS_d H.out.ok)
 have HB1:=qh (Boxed.new w [.slice Avr W.ch.rg.length cvr,.int .i64 W.ch.fr,.int .i64 W.ch.to,vp,vt,.slice Avl W.ld.pl.length cvl,vw,vs,vse,vha] 56)
 have HB2:=qh (Boxed.new (w.alloc (.cells #[.slice Avr W.ch.rg.length cvr,.int .i64 W.ch.fr,.int .i64 W.ch.to,vp,vt,.slice Avl W.ld.pl.length cvl,vw,vs,vse,vha] 56)) [.string d.nm,vd,vwi,.string d.pl,.string d.se,.string d.ha,vci] 101)
 obtain ⟨Awi,cwi,rfl,nwi,kwi⟩:=H.out.wi.len
 obtain ⟨f,ef⟩:∃ f:Nat → List Sp,(fun k=>wdL W.pp (witAt d.wi k))=f:=⟨_,rfl⟩
 have HF:=qh (show ∀ k,wdL W.pp (witAt d.wi k)=f k from fun k=>congrFun ef k)
 have Hsrc:=qh (show srcL W d 1=mtTo (chS W) f (fun _=>True) d.wi.length from by rw [← ef];exact srcL_1 W d)
 have HFD:=qh (fun k (hk:k < d.wi.length)=>show SetD (f k) from by rw [← HF.out];exact wdL_d H.out.ok.2.1 (H.out.inn.2.2.1.2 k hk))
 have HD:=qh (fun k (hk:k ≤ d.wi.length)=>(mtTo_ok (f:=f) (p:=fun _=>True) Hch.out k (fun i hi _=>HFD.out i (by omega))).1)
 have hl12:=H.out.inn.2.2.1.1
 rw [Hsrc.out]
 clear ef
 go_enter Tryz.func54,Tryz.ntmps54
 go_upto_region 2 with fail
 obtain ⟨wx,hwx⟩:∃ y,y=(((w.alloc (.cells #[.slice Avr W.ch.rg.length cvr,.int .i64 W.ch.fr,.int .i64 W.ch.to,vp,vt,.slice Avl W.ld.pl.length cvl,vw,vs,vse,vha] 56)).alloc (.cells #[.string d.nm,vd,.slice Awi d.wi.length cwi,.string d.pl,.string d.se,.string d.ha,vci] 101)).alloc (.cells #[.int .i64 W.ch.fr,.int .i64 W.ch.to] 111)):=⟨_,rfl⟩
 have HX:=qh (show Ext w wx from by rw [hwx];exact (((Ext.refl _).alloc _).alloc _).alloc _)
 have B1:=qh (show Boxed wx w.heap.size [.slice Avr W.ch.rg.length cvr,.int .i64 W.ch.fr,.int .i64 W.ch.to,vp,vt,.slice Avl W.ld.pl.length cvl,vw,vs,vse,vha] from by rw [hwx];exact (HB1.out.ext ((Ext.refl _).alloc _)).ext ((Ext.refl _).alloc _))
 have B2:=qh (show Boxed wx (w.heap.size+1) [.string d.nm,vd,.slice Awi d.wi.length cwi,.string d.pl,.string d.se,.string d.ha,vci] from by rw [hwx];have h:=HB2.out.ext ((Ext.refl _).alloc (.cells #[.int .i64 W.ch.fr,.int .i64 W.ch.to] 111));rw [World.size_alloc] at h;exact h)
 have Hr:=qh (show RowSp wx w.heap.size 111 (.slice (some ⟨w.heap.size+1+1,0,none⟩) 1 1) (chS W) from by rw [hwx];have h:=rowSp1 ((w.alloc (.cells #[.slice Avr W.ch.rg.length cvr,.int .i64 W.ch.fr,.int .i64 W.ch.to,vp,vt,.slice Avl W.ld.pl.length cvl,vw,vs,vse,vha] 56)).alloc (.cells #[.string d.nm,vd,.slice Awi d.wi.length cwi,.string d.pl,.string d.se,.string d.ha,vci] 101)) 111 W.ch.fr W.ch.to;simp only [World.size_alloc] at h;exact ownsRow_mono h (by omega))
 rw [← hwx]
 clear hwx HB1 HB2
 have b0:=B1.out.cell 0 rfl
 have b1:=B1.out.cell 1 rfl
 have b2:=B1.out.cell 2 rfl
 have b3:=B1.out.cell 3 rfl
 have b4:=B1.out.cell 4 rfl
 have b5:=B1.out.cell 5 rfl
 have b6:=B1.out.cell 6 rfl
 have b7:=B1.out.cell 7 rfl
 have b8:=B1.out.cell 8 rfl
 have b9:=B1.out.cell 9 rfl
 have bg:=B1.out.1
 have e0:=B2.out.cell 0 rfl
 have e1:=B2.out.cell 1 rfl
 have e2:=B2.out.cell 2 rfl
 have e3:=B2.out.cell 3 rfl
 have e4:=B2.out.cell 4 rfl
 have e5:=B2.out.cell 5 rfl
 have e6:=B2.out.cell 6 rfl
 have eg:=B2.out.1
 go_wp2_with fail
 go_loopg [7,9,10,11,34] d.wi.length (fun q u7 u9 u10 u11 i wr=>∃ j:Nat,j+q=d.wi.length∧i=.int .i64 j∧Hid (Ext wx wr)∧Hid (RowSp wr w.heap.size 111 u7 (mtTo (chS W) f (fun _=>True) j)))
 case atStart=>exact ⟨0,by omega,rfl,qh (Ext.refl _),Hr⟩
 clear b0 b1 b2 b3 b4 b5 b6 b7 b8 b9 bg e0 e1 e2 e3 e4 e5 e6 eg
 clear Hr
 case round =>
  obtain ⟨j,hj,rfl,Hxr,Hr⟩:=hrel
  have HXr:=qh (HX.out.trans Hxr.out)
  have b3:=(B1.out.ext Hxr.out).cell 3 rfl
  have b4:=(B1.out.ext Hxr.out).cell 4 rfl
  have bg:=(B1.out.ext Hxr.out).1
  by_cases hlt:j < d.wi.length
  ·obtain ⟨b,off,rfl,_,hb,h1,h2⟩:=(H.out.wi.ext HXr.out (Nat.le_refl _)).at_ hlt
   have hbr:b < wr.heap.size:=Nat.lt_of_lt_of_le hb HXr.out.size
   have hji:(j:Int) < (d.wi.length:Int):=by omega
   have Hm:=qh (mtTo_yes (s:=chS W) (f:=f) (p:=fun _=>True) (k:=j) trivial)
   go_wp2_with fail
   refine Calls.mono (impl_witnessDays _ _ W.pp (witAt d.wi j) _ (H.out.at_.ps.up (HXr.out.trans exts)) (H.out.at_.tm.up (HXr.out.trans exts)) H.out.ok.2.1 (H.out.inn.2.2.1.2 j hlt)) ?_
   rintro e wa ⟨ua,rfl,hxa,hoa⟩
   have Hoa:=qh (show RowSp wa _ 111 ua (f j) from by rw [← HF.out];exact hoa)
   have Hxa:=qh (show Ext wr wa from exts)
   clear hoa hxa h1 h2 b3 b4 bg
   go_wp2_with fail
   refine Calls.mono (impl_met _ _ (mtTo (chS W) f (fun _=>True) j) (f j) _ (Hr.out.read.up (Hxa.out.trans exts)) (Hoa.out.read.up exts) (setd_len (HD.out j (by omega)) (HFD.out j hlt)) (HD.out j (by omega)).bd (HFD.out j hlt).bd) ?_
   rintro e wb ⟨ub,rfl,hxb,hob⟩
   have Hob:=qh (show RowSp wb _ 111 ub (mtTo (chS W) f (fun _=>True) (j+1)) from by rw [Hm.out];exact hob)
   have Hn:=qh (show w.heap.size ≤ wa.heap.size from Nat.le_trans HXr.out.size Hxa.out.size)
   clear hob
   go_wp2_with fail
   go_roundg (d.wi.length - (j+1))
   case measure=>omega
   case rel=>exact ⟨j+1,by omega,by go_num,qh (Hxr.out.trans (Hxa.out.trans hxb)),qh (ownsRow_mono Hob.out Hn.out)⟩
  ·obtain rfl:j=d.wi.length:=by omega
   obtain ⟨A7,c7,rfl⟩:=ownsRow_len Hr.out
   clear b3 b4 bg
   go_wp2_with fail
   go_ret
   exact ⟨_,rfl,HXr.out,Hr.out⟩
set_option maxRecDepth 100000 in
set_option maxHeartbeats 8000000 in
theorem impl_src_2 (vr vp vt vl vw vs vse vha vd vwi vci:Value) (W:Wrl) (ds:List Ded) (d:Ded) (w:World) (h:SrcIn w vr vp vt vl vw vs vse vha vd vwi W ds d) (he:d.pl ≠ ⟨#[]⟩) :
  Calls Tryz.prog 54 #[.agg #[vr,.int .i64 W.ch.fr,.int .i64 W.ch.to,vp,vt,vl,vw,vs,vse,vha],.agg #[.string d.nm,vd,vwi,.string d.pl,.string d.se,.string d.ha,vci],.int .i64 2] w (NewOwn 111 2 (srcL W d 2).length (spanCell (srcL W d 2)) w):=by
 obtain ⟨⟨Hrg,Hps,Htm,Hpl,Hwy,Hst,Hse,Hha⟩,hok,hdt,hwi,hin⟩:=h
 obtain ⟨Avr,cvr,rfl,nvr,kvr⟩:=Hrg.len
 obtain ⟨Avl,cvl,rfl,nvl,kvl⟩:=Hpl.len
 have H:=qh (show SrcIn w (.slice Avr W.ch.rg.length cvr) vp vt (.slice Avl W.ld.pl.length cvl) vw vs vse vha vd vwi W ds d from ⟨⟨Hrg,Hps,Htm,Hpl,Hwy,Hst,Hse,Hha⟩,hok,hdt,hwi,hin⟩)
 clear Hrg Hps Htm Hpl Hwy Hst Hse Hha hok hdt hwi hin
 have Hch:=qh (chS_d H.out.ok)
 have HB1:=qh (Boxed.new w [.slice Avr W.ch.rg.length cvr,.int .i64 W.ch.fr,.int .i64 W.ch.to,vp,vt,.slice Avl W.ld.pl.length cvl,vw,vs,vse,vha] 56)
 have HB2:=qh (Boxed.new (w.alloc (.cells #[.slice Avr W.ch.rg.length cvr,.int .i64 W.ch.fr,.int .i64 W.ch.to,vp,vt,.slice Avl W.ld.pl.length cvl,vw,vs,vse,vha] 56)) [.string d.nm,vd,vwi,.string d.pl,.string d.se,.string d.ha,vci] 101)
 have E1:=nil_no he
 have E2:=str_ne he
 have Hsrc:=qh (srcL_2 (W:=W) he)
 have Htr:=qh (pl_tr H.out.ok H.out.inn he)
 have Hset:=qh (mkL_d (cdL_ok Htr.out.2 (placeOf W d) H.out.ok.2.2.1.2.1).2)
 rw [Hsrc.out]
 clear he
 go_enter Tryz.func54,Tryz.ntmps54
 go_upto_region 2 with fail
 obtain ⟨wx,hwx⟩:∃ y,y=(((w.alloc (.cells #[.slice Avr W.ch.rg.length cvr,.int .i64 W.ch.fr,.int .i64 W.ch.to,vp,vt,.slice Avl W.ld.pl.length cvl,vw,vs,vse,vha] 56)).alloc (.cells #[.string d.nm,vd,vwi,.string d.pl,.string d.se,.string d.ha,vci] 101)).alloc (.cells #[.int .i64 W.ch.fr,.int .i64 W.ch.to] 111)):=⟨_,rfl⟩
 have HX:=qh (show Ext w wx from by rw [hwx];exact (((Ext.refl _).alloc _).alloc _).alloc _)
 have B1:=qh (show Boxed wx w.heap.size [.slice Avr W.ch.rg.length cvr,.int .i64 W.ch.fr,.int .i64 W.ch.to,vp,vt,.slice Avl W.ld.pl.length cvl,vw,vs,vse,vha] from by rw [hwx];exact (HB1.out.ext ((Ext.refl _).alloc _)).ext ((Ext.refl _).alloc _))
 have B2:=qh (show Boxed wx (w.heap.size+1) [.string d.nm,vd,vwi,.string d.pl,.string d.se,.string d.ha,vci] from by rw [hwx];have h:=HB2.out.ext ((Ext.refl _).alloc (.cells #[.int .i64 W.ch.fr,.int .i64 W.ch.to] 111));rw [World.size_alloc] at h;exact h)
 have Hr:=qh (show RowSp wx w.heap.size 111 (.slice (some ⟨w.heap.size+1+1,0,none⟩) 1 1) (chS W) from by rw [hwx];have h:=rowSp1 ((w.alloc (.cells #[.slice Avr W.ch.rg.length cvr,.int .i64 W.ch.fr,.int .i64 W.ch.to,vp,vt,.slice Avl W.ld.pl.length cvl,vw,vs,vse,vha] 56)).alloc (.cells #[.string d.nm,vd,vwi,.string d.pl,.string d.se,.string d.ha,vci] 101)) 111 W.ch.fr W.ch.to;simp only [World.size_alloc] at h;exact ownsRow_mono h (by omega))
 rw [← hwx]
 clear hwx HB1 HB2
 have b0:=B1.out.cell 0 rfl
 have b1:=B1.out.cell 1 rfl
 have b2:=B1.out.cell 2 rfl
 have b3:=B1.out.cell 3 rfl
 have b4:=B1.out.cell 4 rfl
 have b5:=B1.out.cell 5 rfl
 have b6:=B1.out.cell 6 rfl
 have b7:=B1.out.cell 7 rfl
 have b8:=B1.out.cell 8 rfl
 have b9:=B1.out.cell 9 rfl
 have bg:=B1.out.1
 have e0:=B2.out.cell 0 rfl
 have e1:=B2.out.cell 1 rfl
 have e2:=B2.out.cell 2 rfl
 have e3:=B2.out.cell 3 rfl
 have e4:=B2.out.cell 4 rfl
 have e5:=B2.out.cell 5 rfl
 have e6:=B2.out.cell 6 rfl
 have eg:=B2.out.1
 go_wp2_with fail
 refine Calls.mono (slices_Index_strs _ W.ld.pl d.pl _ (H.out.at_.pl.up HX.out)) ?_
 rintro e w1 ⟨rfl,hx1⟩
 clear b0 b1 b2 b3 b4 b5 b6 b7 b8 b9 bg e0 e1 e2 e3 e4 e5 e6 eg
 have tmp:=qh (HX.out.trans hx1)
 clear HX
 have HX:=tmp
 clear tmp
 have tmp:=qh (Hr.out.ext hx1)
 clear Hr
 have Hr:=tmp
 clear tmp
 have tmp:=qh (B1.out.ext hx1)
 clear B1
 have B1:=tmp
 clear tmp
 have tmp:=qh (B2.out.ext hx1)
 clear B2
 have B2:=tmp
 clear tmp hx1
 have b0:=B1.out.cell 0 rfl
 have b1:=B1.out.cell 1 rfl
 have b2:=B1.out.cell 2 rfl
 have b3:=B1.out.cell 3 rfl
 have b4:=B1.out.cell 4 rfl
 have b5:=B1.out.cell 5 rfl
 have b6:=B1.out.cell 6 rfl
 have b7:=B1.out.cell 7 rfl
 have b8:=B1.out.cell 8 rfl
 have b9:=B1.out.cell 9 rfl
 have bg:=B1.out.1
 have e0:=B2.out.cell 0 rfl
 have e1:=B2.out.cell 1 rfl
 have e2:=B2.out.cell 2 rfl
 have e3:=B2.out.cell 3 rfl
 have e4:=B2.out.cell 4 rfl
 have e5:=B2.out.cell 5 rfl
 have e6:=B2.out.cell 6 rfl
 have eg:=B2.out.1
 go_wp2_with fail
 go_region_held3 (fun w' => w'.cell? ⟨w.heap.size,5,none⟩=some (.slice Avl W.ld.pl.length cvl)∧w'.cell? ⟨w.heap.size,6,none⟩=some (vw)∧w'.cell? ⟨w.heap.size,7,none⟩=some (vs)∧w'.cell? ⟨w.heap.size+1,3,none⟩=some (.string d.pl)∧Ext w1 w')
  (exact Ext.and_cell bg b5 exts (Ext.and_cell bg b6 exts (Ext.and_cell bg b7 exts (Ext.and_cell eg e3 exts exts))))
  (first
   | (go_at_call 119;refine Calls.mono (impl_travels _ _ W.ld _ (H.out.at_.pl.up (HX.out.trans exts)) (H.out.at_.wy.up (HX.out.trans exts)) H.out.ok.2.2.1.1) ?_;rintro e wm ⟨mb,mo,mc,mgs,mos,mcs,rfl,hxm,hmm⟩;have Hmm:=qh hmm;clear hmm)
   | (go_at_call 118;refine Calls.mono (impl_couldBeDays _ W.st (placeOf W d) W.ld.pl.length _ _ _ _ _ _ _ (trvM W.ld.pl.length W.ld.wy) _ (Hmm.out.ext exts) H.out.ok.2.2.1.1.1.2 (H.out.at_.st.up (HX.out.trans exts)) H.out.ok.2.2.1.2.1 Htr.out.1.1 Htr.out.1.2 Htr.out.2) ?_;rintro e wa ⟨ua,rfl,hxa,hoa⟩;have Hoa:=qh (show RowSp wa _ 111 ua (mkL (cdL (plD W d) W.st (placeOf W d))) from hoa);clear hoa)
   | (go_at_call 116;refine Calls.mono (impl_met _ _ (chS W) (mkL (cdL (plD W d) W.st (placeOf W d))) _ (Hr.out.read.up exts) (Hoa.out.read.up exts) (setd_len Hch.out Hset.out) Hch.out.bd Hset.out.bd) ?_;rintro e wb ⟨ub,rfl,hxb,hob⟩;obtain ⟨Ab,cb,rfl⟩:=ownsRow_len hob;have Hob:=qh hob;clear hob))
 have hE:Ext w1 wb:=exts
 have hN:=(show Ext w1 wa from exts).size
 have hz:=HX.out.size
 clear b0 b1 b2 b3 b4 b5 b6 b7 b8 b9 bg e0 e1 e2 e3 e4 e5 e6 eg
 go_wp2_with fail
 go_ret
 exact ⟨_,rfl,HX.out.trans hE,ownsRow_mono Hob.out (by omega)⟩
set_option maxRecDepth 100000 in
set_option maxHeartbeats 8000000 in
theorem impl_src_3 (vr vp vt vl vw vs vse vha vd vwi vci:Value) (W:Wrl) (ds:List Ded) (d:Ded) (w:World) (h:SrcIn w vr vp vt vl vw vs vse vha vd vwi W ds d) (he:d.se ≠ ⟨#[]⟩) :
  Calls Tryz.prog 54 #[.agg #[vr,.int .i64 W.ch.fr,.int .i64 W.ch.to,vp,vt,vl,vw,vs,vse,vha],.agg #[.string d.nm,vd,vwi,.string d.pl,.string d.se,.string d.ha,vci],.int .i64 3] w (NewOwn 111 2 (srcL W d 3).length (spanCell (srcL W d 3)) w):=by
 obtain ⟨⟨Hrg,Hps,Htm,Hpl,Hwy,Hst,Hse,Hha⟩,hok,hdt,hwi,hin⟩:=h
 obtain ⟨Avr,cvr,rfl,nvr,kvr⟩:=Hrg.len
 obtain ⟨Avl,cvl,rfl,nvl,kvl⟩:=Hpl.len
 have H:=qh (show SrcIn w (.slice Avr W.ch.rg.length cvr) vp vt (.slice Avl W.ld.pl.length cvl) vw vs vse vha vd vwi W ds d from ⟨⟨Hrg,Hps,Htm,Hpl,Hwy,Hst,Hse,Hha⟩,hok,hdt,hwi,hin⟩)
 clear Hrg Hps Htm Hpl Hwy Hst Hse Hha hok hdt hwi hin
 have Hch:=qh (chS_d H.out.ok)
 have HB1:=qh (Boxed.new w [.slice Avr W.ch.rg.length cvr,.int .i64 W.ch.fr,.int .i64 W.ch.to,vp,vt,.slice Avl W.ld.pl.length cvl,vw,vs,vse,vha] 56)
 have HB2:=qh (Boxed.new (w.alloc (.cells #[.slice Avr W.ch.rg.length cvr,.int .i64 W.ch.fr,.int .i64 W.ch.to,vp,vt,.slice Avl W.ld.pl.length cvl,vw,vs,vse,vha] 56)) [.string d.nm,vd,vwi,.string d.pl,.string d.se,.string d.ha,vci] 101)
 have E1:=nil_no he
 have E2:=str_ne he
 have Hsrc:=qh (srcL_3 (W:=W) he)
 have Hset:=qh (mdL_d H.out.ok.2.2.2.1 d.se)
 rw [Hsrc.out]
 clear he
 go_enter Tryz.func54,Tryz.ntmps54
 go_upto_region 2 with fail
 obtain ⟨wx,hwx⟩:∃ y,y=(((w.alloc (.cells #[.slice Avr W.ch.rg.length cvr,.int .i64 W.ch.fr,.int .i64 W.ch.to,vp,vt,.slice Avl W.ld.pl.length cvl,vw,vs,vse,vha] 56)).alloc (.cells #[.string d.nm,vd,vwi,.string d.pl,.string d.se,.string d.ha,vci] 101)).alloc (.cells #[.int .i64 W.ch.fr,.int .i64 W.ch.to] 111)):=⟨_,rfl⟩
 have HX:=qh (show Ext w wx from by rw [hwx];exact (((Ext.refl _).alloc _).alloc _).alloc _)
 have B1:=qh (show Boxed wx w.heap.size [.slice Avr W.ch.rg.length cvr,.int .i64 W.ch.fr,.int .i64 W.ch.to,vp,vt,.slice Avl W.ld.pl.length cvl,vw,vs,vse,vha] from by rw [hwx];exact (HB1.out.ext ((Ext.refl _).alloc _)).ext ((Ext.refl _).alloc _))
 have B2:=qh (show Boxed wx (w.heap.size+1) [.string d.nm,vd,vwi,.string d.pl,.string d.se,.string d.ha,vci] from by rw [hwx];have h:=HB2.out.ext ((Ext.refl _).alloc (.cells #[.int .i64 W.ch.fr,.int .i64 W.ch.to] 111));rw [World.size_alloc] at h;exact h)
 have Hr:=qh (show RowSp wx w.heap.size 111 (.slice (some ⟨w.heap.size+1+1,0,none⟩) 1 1) (chS W) from by rw [hwx];have h:=rowSp1 ((w.alloc (.cells #[.slice Avr W.ch.rg.length cvr,.int .i64 W.ch.fr,.int .i64 W.ch.to,vp,vt,.slice Avl W.ld.pl.length cvl,vw,vs,vse,vha] 56)).alloc (.cells #[.string d.nm,vd,vwi,.string d.pl,.string d.se,.string d.ha,vci] 101)) 111 W.ch.fr W.ch.to;simp only [World.size_alloc] at h;exact ownsRow_mono h (by omega))
 rw [← hwx]
 clear hwx HB1 HB2
 have b0:=B1.out.cell 0 rfl
 have b1:=B1.out.cell 1 rfl
 have b2:=B1.out.cell 2 rfl
 have b3:=B1.out.cell 3 rfl
 have b4:=B1.out.cell 4 rfl
 have b5:=B1.out.cell 5 rfl
 have b6:=B1.out.cell 6 rfl
 have b7:=B1.out.cell 7 rfl
 have b8:=B1.out.cell 8 rfl
 have b9:=B1.out.cell 9 rfl
 have bg:=B1.out.1
 have e0:=B2.out.cell 0 rfl
 have e1:=B2.out.cell 1 rfl
 have e2:=B2.out.cell 2 rfl
 have e3:=B2.out.cell 3 rfl
 have e4:=B2.out.cell 4 rfl
 have e5:=B2.out.cell 5 rfl
 have e6:=B2.out.cell 6 rfl
 have eg:=B2.out.1
 go_wp2_with fail
 refine Calls.mono (impl_markDays _ W.se d.se _ (H.out.at_.se.up HX.out) H.out.ok.2.2.2.1) ?_
 rintro e wa ⟨ua,rfl,hxa,hoa⟩
 have Hoa:=qh (show RowSp wa _ 111 ua (mkL (mdL W.se d.se)) from hoa)
 clear hoa
 go_wp2_with fail
 refine Calls.mono (impl_met _ _ (chS W) (mkL (mdL W.se d.se)) _ (Hr.out.read.up hxa) Hoa.out.read (setd_len Hch.out Hset.out) Hch.out.bd Hset.out.bd) ?_
 rintro e wb ⟨ub,rfl,hxb,hob⟩
 obtain ⟨Ab,cb,rfl⟩:=ownsRow_len hob
 have Hob:=qh hob
 clear hob
 go_wp2_with fail
 go_ret
 have hE:=HX.out.trans hxa
 exact ⟨_,rfl,hE.trans hxb,ownsRow_mono Hob.out hE.size⟩
set_option maxRecDepth 100000 in
set_option maxHeartbeats 8000000 in
theorem impl_src_4 (vr vp vt vl vw vs vse vha vd vwi vci:Value) (W:Wrl) (ds:List Ded) (d:Ded) (w:World) (h:SrcIn w vr vp vt vl vw vs vse vha vd vwi W ds d) (he:d.ha ≠ ⟨#[]⟩) :
  Calls Tryz.prog 54 #[.agg #[vr,.int .i64 W.ch.fr,.int .i64 W.ch.to,vp,vt,vl,vw,vs,vse,vha],.agg #[.string d.nm,vd,vwi,.string d.pl,.string d.se,.string d.ha,vci],.int .i64 4] w (NewOwn 111 2 (srcL W d 4).length (spanCell (srcL W d 4)) w):=by
 obtain ⟨⟨Hrg,Hps,Htm,Hpl,Hwy,Hst,Hse,Hha⟩,hok,hdt,hwi,hin⟩:=h
 obtain ⟨Avr,cvr,rfl,nvr,kvr⟩:=Hrg.len
 obtain ⟨Avl,cvl,rfl,nvl,kvl⟩:=Hpl.len
 have H:=qh (show SrcIn w (.slice Avr W.ch.rg.length cvr) vp vt (.slice Avl W.ld.pl.length cvl) vw vs vse vha vd vwi W ds d from ⟨⟨Hrg,Hps,Htm,Hpl,Hwy,Hst,Hse,Hha⟩,hok,hdt,hwi,hin⟩)
 clear Hrg Hps Htm Hpl Hwy Hst Hse Hha hok hdt hwi hin
 have Hch:=qh (chS_d H.out.ok)
 have HB1:=qh (Boxed.new w [.slice Avr W.ch.rg.length cvr,.int .i64 W.ch.fr,.int .i64 W.ch.to,vp,vt,.slice Avl W.ld.pl.length cvl,vw,vs,vse,vha] 56)
 have HB2:=qh (Boxed.new (w.alloc (.cells #[.slice Avr W.ch.rg.length cvr,.int .i64 W.ch.fr,.int .i64 W.ch.to,vp,vt,.slice Avl W.ld.pl.length cvl,vw,vs,vse,vha] 56)) [.string d.nm,vd,vwi,.string d.pl,.string d.se,.string d.ha,vci] 101)
 have E1:=nil_no he
 have E2:=str_ne he
 have Hsrc:=qh (srcL_4 (W:=W) he)
 have Hset:=qh (mdL_d H.out.ok.2.2.2.2 d.ha)
 rw [Hsrc.out]
 clear he
 go_enter Tryz.func54,Tryz.ntmps54
 go_upto_region 2 with fail
 obtain ⟨wx,hwx⟩:∃ y,y=(((w.alloc (.cells #[.slice Avr W.ch.rg.length cvr,.int .i64 W.ch.fr,.int .i64 W.ch.to,vp,vt,.slice Avl W.ld.pl.length cvl,vw,vs,vse,vha] 56)).alloc (.cells #[.string d.nm,vd,vwi,.string d.pl,.string d.se,.string d.ha,vci] 101)).alloc (.cells #[.int .i64 W.ch.fr,.int .i64 W.ch.to] 111)):=⟨_,rfl⟩
 have HX:=qh (show Ext w wx from by rw [hwx];exact (((Ext.refl _).alloc _).alloc _).alloc _)
 have B1:=qh (show Boxed wx w.heap.size [.slice Avr W.ch.rg.length cvr,.int .i64 W.ch.fr,.int .i64 W.ch.to,vp,vt,.slice Avl W.ld.pl.length cvl,vw,vs,vse,vha] from by rw [hwx];exact (HB1.out.ext ((Ext.refl _).alloc _)).ext ((Ext.refl _).alloc _))
 have B2:=qh (show Boxed wx (w.heap.size+1) [.string d.nm,vd,vwi,.string d.pl,.string d.se,.string d.ha,vci] from by rw [hwx];have h:=HB2.out.ext ((Ext.refl _).alloc (.cells #[.int .i64 W.ch.fr,.int .i64 W.ch.to] 111));rw [World.size_alloc] at h;exact h)
 have Hr:=qh (show RowSp wx w.heap.size 111 (.slice (some ⟨w.heap.size+1+1,0,none⟩) 1 1) (chS W) from by rw [hwx];have h:=rowSp1 ((w.alloc (.cells #[.slice Avr W.ch.rg.length cvr,.int .i64 W.ch.fr,.int .i64 W.ch.to,vp,vt,.slice Avl W.ld.pl.length cvl,vw,vs,vse,vha] 56)).alloc (.cells #[.string d.nm,vd,vwi,.string d.pl,.string d.se,.string d.ha,vci] 101)) 111 W.ch.fr W.ch.to;simp only [World.size_alloc] at h;exact ownsRow_mono h (by omega))
 rw [← hwx]
 clear hwx HB1 HB2
 have b0:=B1.out.cell 0 rfl
 have b1:=B1.out.cell 1 rfl
 have b2:=B1.out.cell 2 rfl
 have b3:=B1.out.cell 3 rfl
 have b4:=B1.out.cell 4 rfl
 have b5:=B1.out.cell 5 rfl
 have b6:=B1.out.cell 6 rfl
 have b7:=B1.out.cell 7 rfl
 have b8:=B1.out.cell 8 rfl
 have b9:=B1.out.cell 9 rfl
 have bg:=B1.out.1
 have e0:=B2.out.cell 0 rfl
 have e1:=B2.out.cell 1 rfl
 have e2:=B2.out.cell 2 rfl
 have e3:=B2.out.cell 3 rfl
 have e4:=B2.out.cell 4 rfl
 have e5:=B2.out.cell 5 rfl
 have e6:=B2.out.cell 6 rfl
 have eg:=B2.out.1
 go_wp2_with fail
 refine Calls.mono (impl_markDays _ W.ha d.ha _ (H.out.at_.ha.up HX.out) H.out.ok.2.2.2.2) ?_
 rintro e wa ⟨ua,rfl,hxa,hoa⟩
 have Hoa:=qh (show RowSp wa _ 111 ua (mkL (mdL W.ha d.ha)) from hoa)
 clear hoa
 go_wp2_with fail
 refine Calls.mono (impl_met _ _ (chS W) (mkL (mdL W.ha d.ha)) _ (Hr.out.read.up hxa) Hoa.out.read (setd_len Hch.out Hset.out) Hch.out.bd Hset.out.bd) ?_
 rintro e wb ⟨ub,rfl,hxb,hob⟩
 obtain ⟨Ab,cb,rfl⟩:=ownsRow_len hob
 have Hob:=qh hob
 clear hob
 go_wp2_with fail
 go_ret
 have hE:=HX.out.trans hxa
 exact ⟨_,rfl,hE.trans hxb,ownsRow_mono Hob.out hE.size⟩
set_option maxRecDepth 100000 in
set_option maxHeartbeats 8000000 in
theorem impl_src_2n (vr vp vt vl vw vs vse vha vd vwi vci:Value) (W:Wrl) (ds:List Ded) (d:Ded) (w:World) (h:SrcIn w vr vp vt vl vw vs vse vha vd vwi W ds d) (he:d.pl=⟨#[]⟩) :
  Calls Tryz.prog 54 #[.agg #[vr,.int .i64 W.ch.fr,.int .i64 W.ch.to,vp,vt,vl,vw,vs,vse,vha],.agg #[.string d.nm,vd,vwi,.string d.pl,.string d.se,.string d.ha,vci],.int .i64 2] w (NewOwn 111 2 (srcL W d 2).length (spanCell (srcL W d 2)) w):=by
 obtain ⟨⟨Hrg,Hps,Htm,Hpl,Hwy,Hst,Hse,Hha⟩,hok,hdt,hwi,hin⟩:=h
 obtain ⟨Avr,cvr,rfl,nvr,kvr⟩:=Hrg.len
 obtain ⟨Avl,cvl,rfl,nvl,kvl⟩:=Hpl.len
 have H:=qh (show SrcIn w (.slice Avr W.ch.rg.length cvr) vp vt (.slice Avl W.ld.pl.length cvl) vw vs vse vha vd vwi W ds d from ⟨⟨Hrg,Hps,Htm,Hpl,Hwy,Hst,Hse,Hha⟩,hok,hdt,hwi,hin⟩)
 clear Hrg Hps Htm Hpl Hwy Hst Hse Hha hok hdt hwi hin
 have Hch:=qh (chS_d H.out.ok)
 have HB1:=qh (Boxed.new w [.slice Avr W.ch.rg.length cvr,.int .i64 W.ch.fr,.int .i64 W.ch.to,vp,vt,.slice Avl W.ld.pl.length cvl,vw,vs,vse,vha] 56)
 have HB2:=qh (Boxed.new (w.alloc (.cells #[.slice Avr W.ch.rg.length cvr,.int .i64 W.ch.fr,.int .i64 W.ch.to,vp,vt,.slice Avl W.ld.pl.length cvl,vw,vs,vse,vha] 56)) [.string d.nm,vd,vwi,.string d.pl,.string d.se,.string d.ha,vci] 101)
 have E1:=nil_is he
 have E2:=str_is he
 have Hsrc:=qh (srcL_no (W:=W) (d:=d) (s:=2) (by simp [he]))
 clear he
 go_enter Tryz.func54,Tryz.ntmps54
 go_wp2_with fail
 go_ret
 rw [Hsrc.out]
 have h:=rowSp1 ((w.alloc (.cells #[.slice Avr W.ch.rg.length cvr,.int .i64 W.ch.fr,.int .i64 W.ch.to,vp,vt,.slice Avl W.ld.pl.length cvl,vw,vs,vse,vha] 56)).alloc (.cells #[.string d.nm,vd,vwi,.string d.pl,.string d.se,.string d.ha,vci] 101)) 111 W.ch.fr W.ch.to
 simp only [World.size_alloc] at h
 exact ⟨_,rfl,(((Ext.refl _).alloc _).alloc _).alloc _,ownsRow_mono h (by omega)⟩
set_option maxRecDepth 100000 in
set_option maxHeartbeats 8000000 in
theorem impl_src_3n (vr vp vt vl vw vs vse vha vd vwi vci:Value) (W:Wrl) (ds:List Ded) (d:Ded) (w:World) (h:SrcIn w vr vp vt vl vw vs vse vha vd vwi W ds d) (he:d.se=⟨#[]⟩) :
  Calls Tryz.prog 54 #[.agg #[vr,.int .i64 W.ch.fr,.int .i64 W.ch.to,vp,vt,vl,vw,vs,vse,vha],.agg #[.string d.nm,vd,vwi,.string d.pl,.string d.se,.string d.ha,vci],.int .i64 3] w (NewOwn 111 2 (srcL W d 3).length (spanCell (srcL W d 3)) w):=by
 obtain ⟨⟨Hrg,Hps,Htm,Hpl,Hwy,Hst,Hse,Hha⟩,hok,hdt,hwi,hin⟩:=h
 obtain ⟨Avr,cvr,rfl,nvr,kvr⟩:=Hrg.len
 obtain ⟨Avl,cvl,rfl,nvl,kvl⟩:=Hpl.len
 have H:=qh (show SrcIn w (.slice Avr W.ch.rg.length cvr) vp vt (.slice Avl W.ld.pl.length cvl) vw vs vse vha vd vwi W ds d from ⟨⟨Hrg,Hps,Htm,Hpl,Hwy,Hst,Hse,Hha⟩,hok,hdt,hwi,hin⟩)
 clear Hrg Hps Htm Hpl Hwy Hst Hse Hha hok hdt hwi hin
 have Hch:=qh (chS_d H.out.ok)
 have HB1:=qh (Boxed.new w [.slice Avr W.ch.rg.length cvr,.int .i64 W.ch.fr,.int .i64 W.ch.to,vp,vt,.slice Avl W.ld.pl.length cvl,vw,vs,vse,vha] 56)
 have HB2:=qh (Boxed.new (w.alloc (.cells #[.slice Avr W.ch.rg.length cvr,.int .i64 W.ch.fr,.int .i64 W.ch.to,vp,vt,.slice Avl W.ld.pl.length cvl,vw,vs,vse,vha] 56)) [.string d.nm,vd,vwi,.string d.pl,.string d.se,.string d.ha,vci] 101)
 have E1:=nil_is he
 have E2:=str_is he
 have Hsrc:=qh (srcL_no (W:=W) (d:=d) (s:=3) (by simp [he]))
 clear he
 go_enter Tryz.func54,Tryz.ntmps54
 go_wp2_with fail
 go_ret
 rw [Hsrc.out]
 have h:=rowSp1 ((w.alloc (.cells #[.slice Avr W.ch.rg.length cvr,.int .i64 W.ch.fr,.int .i64 W.ch.to,vp,vt,.slice Avl W.ld.pl.length cvl,vw,vs,vse,vha] 56)).alloc (.cells #[.string d.nm,vd,vwi,.string d.pl,.string d.se,.string d.ha,vci] 101)) 111 W.ch.fr W.ch.to
 simp only [World.size_alloc] at h
 exact ⟨_,rfl,(((Ext.refl _).alloc _).alloc _).alloc _,ownsRow_mono h (by omega)⟩
set_option maxRecDepth 100000 in
set_option maxHeartbeats 8000000 in
theorem impl_src_4n (vr vp vt vl vw vs vse vha vd vwi vci:Value) (W:Wrl) (ds:List Ded) (d:Ded) (w:World) (h:SrcIn w vr vp vt vl vw vs vse vha vd vwi W ds d) (he:d.ha=⟨#[]⟩) :
  Calls Tryz.prog 54 #[.agg #[vr,.int .i64 W.ch.fr,.int .i64 W.ch.to,vp,vt,vl,vw,vs,vse,vha],.agg #[.string d.nm,vd,vwi,.string d.pl,.string d.se,.string d.ha,vci],.int .i64 4] w (NewOwn 111 2 (srcL W d 4).length (spanCell (srcL W d 4)) w):=by
 obtain ⟨⟨Hrg,Hps,Htm,Hpl,Hwy,Hst,Hse,Hha⟩,hok,hdt,hwi,hin⟩:=h
 obtain ⟨Avr,cvr,rfl,nvr,kvr⟩:=Hrg.len
 obtain ⟨Avl,cvl,rfl,nvl,kvl⟩:=Hpl.len
 have H:=qh (show SrcIn w (.slice Avr W.ch.rg.length cvr) vp vt (.slice Avl W.ld.pl.length cvl) vw vs vse vha vd vwi W ds d from ⟨⟨Hrg,Hps,Htm,Hpl,Hwy,Hst,Hse,Hha⟩,hok,hdt,hwi,hin⟩)
 clear Hrg Hps Htm Hpl Hwy Hst Hse Hha hok hdt hwi hin
 have Hch:=qh (chS_d H.out.ok)
 have HB1:=qh (Boxed.new w [.slice Avr W.ch.rg.length cvr,.int .i64 W.ch.fr,.int .i64 W.ch.to,vp,vt,.slice Avl W.ld.pl.length cvl,vw,vs,vse,vha] 56)
 have HB2:=qh (Boxed.new (w.alloc (.cells #[.slice Avr W.ch.rg.length cvr,.int .i64 W.ch.fr,.int .i64 W.ch.to,vp,vt,.slice Avl W.ld.pl.length cvl,vw,vs,vse,vha] 56)) [.string d.nm,vd,vwi,.string d.pl,.string d.se,.string d.ha,vci] 101)
 have E1:=nil_is he
 have E2:=str_is he
 have Hsrc:=qh (srcL_no (W:=W) (d:=d) (s:=4) (by simp [he]))
 clear he
 go_enter Tryz.func54,Tryz.ntmps54
 go_wp2_with fail
 go_ret
 rw [Hsrc.out]
 have h:=rowSp1 ((w.alloc (.cells #[.slice Avr W.ch.rg.length cvr,.int .i64 W.ch.fr,.int .i64 W.ch.to,vp,vt,.slice Avl W.ld.pl.length cvl,vw,vs,vse,vha] 56)).alloc (.cells #[.string d.nm,vd,vwi,.string d.pl,.string d.se,.string d.ha,vci] 101)) 111 W.ch.fr W.ch.to
 simp only [World.size_alloc] at h
 exact ⟨_,rfl,(((Ext.refl _).alloc _).alloc _).alloc _,ownsRow_mono h (by omega)⟩
theorem impl_src (vr vp vt vl vw vs vse vha vd vwi vci:Value) (W:Wrl) (ds:List Ded) (d:Ded) (s:Int) (w:World) (h:SrcIn w vr vp vt vl vw vs vse vha vd vwi W ds d) (h0:0 ≤ s) (h4:s ≤ 4) :
  Calls Tryz.prog 54 #[.agg #[vr,.int .i64 W.ch.fr,.int .i64 W.ch.to,vp,vt,vl,vw,vs,vse,vha],.agg #[.string d.nm,vd,vwi,.string d.pl,.string d.se,.string d.ha,vci],.int .i64 s] w (NewOwn 111 2 (srcL W d s).length (spanCell (srcL W d s)) w):=by
 have hc:s=0 ∨ s=1 ∨ s=2 ∨ s=3 ∨ s=4:=by omega
 rcases hc with rfl | rfl | rfl | rfl | rfl
 ·exact impl_src_0 vr vp vt vl vw vs vse vha vd vwi vci W ds d w h
 ·exact impl_src_1 vr vp vt vl vw vs vse vha vd vwi vci W ds d w h
 ·by_cases he:d.pl=⟨#[]⟩
  ·exact impl_src_2n vr vp vt vl vw vs vse vha vd vwi vci W ds d w h he
  ·exact impl_src_2 vr vp vt vl vw vs vse vha vd vwi vci W ds d w h he
 ·by_cases he:d.se=⟨#[]⟩
  ·exact impl_src_3n vr vp vt vl vw vs vse vha vd vwi vci W ds d w h he
  ·exact impl_src_3 vr vp vt vl vw vs vse vha vd vwi vci W ds d w h he
 ·by_cases he:d.ha=⟨#[]⟩
  ·exact impl_src_4n vr vp vt vl vw vs vse vha vd vwi vci W ds d w h he
  ·exact impl_src_4 vr vp vt vl vw vs vse vha vd vwi vci W ds d w h he
noncomputable def srcTo (W:Wrl) (d:Ded):Nat → List (List Sp)
 | 0=>[]
 | k+1=>srcTo W d k ++ [srcL W d k]
theorem srcTo_len (W:Wrl) (d:Ded):∀ k,(srcTo W d k).length=k
 | 0=>rfl
 | k+1=>by show (srcTo W d k ++ [_]).length=_;rw [List.length_append,srcTo_len W d k];rfl
theorem srcTo_at (W:Wrl) (d:Ded):∀ k i,i < k → setAt (srcTo W d k) i=srcL W d i
 | 0,i,h=>absurd h (by omega)
 | k+1,i,h=>by
  show setAt (srcTo W d k ++ [_]) i=_
  rw [setAt_push _ _ (by rw [srcTo_len];omega),srcTo_len]
  by_cases e:i=k
  ·subst e;rw [if_pos rfl]
  ·rw [if_neg e];exact srcTo_at W d k i (by omega)
theorem mtTo_congr {s:List Sp} {f g:Nat → List Sp} {p:Nat → Prop}:∀ k,(∀ i,i < k → f i=g i) → mtTo s f p k=mtTo s g p k
 | 0,_=>rfl
 | k+1,h=>by
  have e:=mtTo_congr (s:=s) (p:=p) k (fun i hi=>h i (by omega))
  show (bif B (p k) then metL (mtTo s f p k) (f k) else mtTo s f p k)=(bif B (p k) then metL (mtTo s g p k) (g k) else mtTo s g p k)
  rw [e,h k (by omega)]
theorem own_all (W:Wrl) (d:Ded) (but:Int):mtTo (oneS 0 730499) (fun k=>setAt (srcTo W d 5) k) (fun k=>(k:Int) ≠ but) 5=ownL W d but :=
 mtTo_congr 5 (fun i hi=>srcTo_at W d 5 i hi)
def NewSetsBy (T:Nat) (l:List (List Sp)) (w:World) (e:Ending) (w' : World):Prop:=∃ v lo,e=.returned v∧Ext w w' ∧ w.heap.size ≤ lo∧SetsBy T w' lo v l
theorem SetsBy.read {T:Nat} {w:World} {lo:Nat} {v:Value} {l:List (List Sp)} (h:SetsBy T w lo v l):Sets w 0 w.heap.size v l:=h.sets.sets.mono (Nat.zero_le _) (Nat.le_refl _)
set_option maxRecDepth 100000 in
set_option maxHeartbeats 8000000 in
theorem impl_allSources (vr vp vt vl vw vs vse vha vd vwi vci:Value) (W:Wrl) (ds:List Ded) (d:Ded) (w:World) (h:SrcIn w vr vp vt vl vw vs vse vha vd vwi W ds d) :
  Calls Tryz.prog 72 #[.agg #[vr,.int .i64 W.ch.fr,.int .i64 W.ch.to,vp,vt,vl,vw,vs,vse,vha],.agg #[.string d.nm,vd,vwi,.string d.pl,.string d.se,.string d.ha,vci]] w (NewSetsBy 40 (srcTo W d 5) w):=by
 have H:=qh h
 have HB1:=qh (Boxed.new w [vr,.int .i64 W.ch.fr,.int .i64 W.ch.to,vp,vt,vl,vw,vs,vse,vha] 56)
 have HB2:=qh (Boxed.new (w.alloc (.cells #[vr,.int .i64 W.ch.fr,.int .i64 W.ch.to,vp,vt,vl,vw,vs,vse,vha] 56)) [.string d.nm,vd,vwi,.string d.pl,.string d.se,.string d.ha,vci] 101)
 clear h
 go_enter Tryz.func72,Tryz.ntmps72
 go_upto_region 1 with fail
 obtain ⟨wx,hwx⟩:∃ y,y=((w.alloc (.cells #[vr,.int .i64 W.ch.fr,.int .i64 W.ch.to,vp,vt,vl,vw,vs,vse,vha] 56)).alloc (.cells #[.string d.nm,vd,vwi,.string d.pl,.string d.se,.string d.ha,vci] 101)):=⟨_,rfl⟩
 have HX:=qh (show Ext w wx from by rw [hwx];exact ((Ext.refl _).alloc _).alloc _)
 have B1:=qh (show Boxed wx w.heap.size [vr,.int .i64 W.ch.fr,.int .i64 W.ch.to,vp,vt,vl,vw,vs,vse,vha] from by rw [hwx];exact HB1.out.ext ((Ext.refl _).alloc _))
 have B2:=qh (show Boxed wx (w.heap.size+1) [.string d.nm,vd,vwi,.string d.pl,.string d.se,.string d.ha,vci] from by rw [hwx];have h:=HB2.out;rw [World.size_alloc] at h;exact h)
 rw [← hwx]
 clear hwx HB1 HB2
 have hzx:=HX.out.size
 go_wp2_with fail
 go_loopg [5,6] 5 (fun q u5 i wr=>∃ j:Nat,j+q=5∧i=.int .i64 j∧Ext wx wr∧Hid (SetsBy 40 wr wx.heap.size u5 (srcTo W d j)))
 case atStart =>
  refine ⟨0,rfl,rfl,(Ext.refl _).alloc _,qh (SetsBy.of_empty (.inl ?_))⟩
  exact World.ownsRow_made wx #[] 0 (Nat.le_refl _) (Nat.zero_le _) rfl
 case round =>
  obtain ⟨j,hj,rfl,hxr,Hs⟩:=hrel
  have Hxr:=qh hxr
  have HXr:=qh (HX.out.trans hxr)
  have hlen:=srcTo_len W d j
  have b0:=(B1.out.ext hxr).cell 0 rfl
  have b1:=(B1.out.ext hxr).cell 1 rfl
  have b2:=(B1.out.ext hxr).cell 2 rfl
  have b3:=(B1.out.ext hxr).cell 3 rfl
  have b4:=(B1.out.ext hxr).cell 4 rfl
  have b5:=(B1.out.ext hxr).cell 5 rfl
  have b6:=(B1.out.ext hxr).cell 6 rfl
  have b7:=(B1.out.ext hxr).cell 7 rfl
  have b8:=(B1.out.ext hxr).cell 8 rfl
  have b9:=(B1.out.ext hxr).cell 9 rfl
  have bg:=(B1.out.ext hxr).1
  have e0:=(B2.out.ext hxr).cell 0 rfl
  have e1:=(B2.out.ext hxr).cell 1 rfl
  have e2:=(B2.out.ext hxr).cell 2 rfl
  have e3:=(B2.out.ext hxr).cell 3 rfl
  have e4:=(B2.out.ext hxr).cell 4 rfl
  have e5:=(B2.out.ext hxr).cell 5 rfl
  have e6:=(B2.out.ext hxr).cell 6 rfl
  have eg:=(B2.out.ext hxr).1
  by_cases hlt:j < 5
  ·have d0:decide ((j:Int) ≤ 4)=true:=decide_eq_true (by omega)
   have d0n:decide (j ≤ 4)=true:=decide_eq_true (by omega)
   obtain ⟨L,eL⟩:∃ L,srcTo W d j=L:=⟨_,rfl⟩
   have HL:=qh eL
   rw [eL] at Hs hlen
   obtain ⟨f,hsf⟩:=Hs.out
   obtain ⟨A5,c5,rfl⟩:=hsf.1.len
   rw [hlen] at hsf ⊢
   have Hsf:=qh hsf
   clear Hs hsf eL hxr
   have hzr:=Hxr.out.size
   go_wp2_with fail
   refine Calls.mono (impl_src vr vp vt vl vw vs vse vha vd vwi vci W ds d j _ (H.out.up HXr.out) (by omega) (by omega)) ?_
   rintro e wa ⟨ua,rfl,hxa,hoa⟩
   have Hoa:=qh (show RowSp wa wr.heap.size 111 ua (srcL W d j) from hoa)
   obtain ⟨Aa,ca,rfl⟩:=ownsRow_len hoa
   have Hxa:=qh hxa
   have hza:=hxa.size
   obtain ⟨n,en⟩:∃ n,(srcL W d j).length=n:=⟨_,rfl⟩
   have Hn:=qh en
   rw [en] at Hoa ⊢
   clear hoa hxa en
   clear b0 b1 b2 b3 b4 b5 b6 b7 b8 b9 bg e0 e1 e2 e3 e4 e5 e6 eg
   go_wp2_with (at_builtin;refine wpList_append_row _ rfl _ _ 75 rfl wx.heap.size 40 1 24 Tryz.underlying75 (by kernel_rfl) (by omega) _ j 1 _ rfl (by have h9:=(Hsf.out.ext (show Ext wr (wa.alloc (.cells #[.slice Aa n ca] 40)) from Hxa.out.alloc _)).1;rw [hlen] at h9;exact h9) (.inr (by omega)) 0 _ _ (fun _=>.slice Aa n ca) rfl (Boxed.new wa [.slice Aa n ca] 40).row1 (fun _ _=>rfl) (by unfold maxLen;omega) (by omega) (by simp;omega) ?_;intro v3 w3 hown3 hput3;have Hown3:=qh hown3;have Hput3:=qh hput3;obtain ⟨Av3,cv3,rfl⟩:=ownsRow_len hown3;clear hown3 hput3)
   go_roundg (5 - (j+1))
   case measure=>omega
   case rel =>
    obtain ⟨gu,hgu,hou⟩:=Own.of_owned Hoa.out
    have hs3:SetsBy 40 w3 wx.heap.size (.slice Av3 (j+1) cv3) (srcTo W d (j+1)):=by
     show SetsBy _ _ _ _ (srcTo W d j ++ [srcL W d j])
     rw [HL.out]
     refine SetsF.push (gu:=gu) (u:=.slice Aa n ca) Hsf.out (Hxa.out.alloc (.cells #[.slice Aa n ca] 40)) (fun hp=>(hgu hp).2) hzr ?_ Hput3.out ?_
     ·exact hou.ext ((Ext.refl _).alloc _)
     ·rw [hlen];exact Hown3.out
    exact ⟨j+1,by omega,by go_num,Hput3.out.ext ((Hxr.out.trans Hxa.out).alloc _) (Nat.le_refl _),qh hs3⟩
  ·obtain rfl:j=5:=by omega
   obtain ⟨f,hsf⟩:=Hs.out
   obtain ⟨A5,c5,rfl⟩:=hsf.1.len
   have Hsf:=qh hsf
   clear hsf
   clear b0 b1 b2 b3 b4 b5 b6 b7 b8 b9 bg e0 e1 e2 e3 e4 e5 e6 eg
   go_wp2_with fail
   go_ret
   exact ⟨_,wx.heap.size,rfl,HXr.out,hzx,f,Hsf.out⟩
set_option maxRecDepth 100000 in
set_option maxHeartbeats 8000000 in
theorem impl_metAll (v:Value) (L:List (List Sp)) (but:Int) (w:World) (h:Sets w 0 w.heap.size v L) (hl:L.length ≤ 8) (hd:∀ i,i < L.length → SetD (setAt L i)) :
  Calls Tryz.prog 77 #[v,.int .i64 but] w (NewOwn 111 2 (mtTo (oneS 0 730499) (fun k=>setAt L k) (fun k=>(k:Int) ≠ but) L.length).length (spanCell (mtTo (oneS 0 730499) (fun k=>setAt L k) (fun k=>(k:Int) ≠ but) L.length)) w):=by
 obtain ⟨A,c,rfl,hn,hc⟩:=h.len
 have H:=qh h
 have HD:=qh hd
 have HM:=qh (fun k (hk:k ≤ L.length)=>(mtTo_ok (f:=fun k=>setAt L k) (p:=fun k=>(k:Int) ≠ but) all_d k (fun i hi _=>hd i (by omega))).1)
 clear h hd
 have Hr0:=qh (rowSp1 w 111 0 730499)
 go_enter Tryz.func77,Tryz.ntmps77
 go_wp2_with fail
 go_loopg [5,6,7,12] L.length (fun q u5 u6 u7 i wr=>∃ j:Nat,j+q=L.length∧i=.int .i64 j∧Ext w wr∧Hid (RowSp wr w.heap.size 111 u5 (mtTo (oneS 0 730499) (fun k=>setAt L k) (fun k=>(k:Int) ≠ but) j)))
 case atStart=>exact ⟨0,by omega,rfl,exts,Hr0⟩
 clear Hr0
 case round =>
  obtain ⟨j,hj,rfl,hx,Hr⟩:=hrel
  have Hx:=qh hx
  by_cases hlt:j < L.length
  ·obtain ⟨b,off,u,rfl,_,hb,h1,h2⟩:=(H.out.ext hx (Nat.le_refl _)).at_ hlt
   have H2:=qh (h2.mono (Nat.le_refl _) hx.size)
   have hbr:b < wr.heap.size:=Nat.lt_of_lt_of_le hb hx.size
   have hji:(j:Int) < (L.length:Int):=by omega
   clear h2 hx
   by_cases he:(j:Int)=but
   ·have E1:decide ((j:Int)=but)=true:=decide_eq_true he
    have E2:((j:Int) == but)=true:=beq_iff_eq.2 he
    have E3:((j:Int) != but)=false:=by rw [bne,E2];rfl
    have Hm:=qh (mtTo_no (s:=oneS 0 730499) (f:=fun k=>setAt L k) (p:=fun k=>(k:Int) ≠ but) (k:=j) (fun hh=>hh he))
    clear he
    go_wp2_with fail
    go_roundg (L.length - (j+1))
    case measure=>omega
    case rel=>exact ⟨j+1,by omega,by go_num,Hx.out.trans exts,qh (by rw [Hm.out];exact Hr.out.ext exts)⟩
   ·have E1:decide ((j:Int)=but)=false:=decide_eq_false he
    have E2:((j:Int) == but)=false:=beq_eq_false_iff_ne.2 he
    have E3:((j:Int) != but)=true:=by rw [bne,E2];rfl
    have Hm:=qh (mtTo_yes (s:=oneS 0 730499) (f:=fun k=>setAt L k) (p:=fun k=>(k:Int) ≠ but) (k:=j) he)
    clear he
    go_wp2_with fail
    refine Calls.mono (impl_met _ _ (mtTo (oneS 0 730499) (fun k=>setAt L k) (fun k=>(k:Int) ≠ but) j) (setAt L j) _ (Hr.out.read.up exts) (H2.out.up exts) (setd_len (HM.out j (by omega)) (HD.out j hlt)) (HM.out j (by omega)).bd (HD.out j hlt).bd) ?_
    rintro e wb ⟨ub,rfl,hxb,hob⟩
    have Hob:=qh (show RowSp wb _ 111 ub (mtTo (oneS 0 730499) (fun k=>setAt L k) (fun k=>(k:Int) ≠ but) (j+1)) from by rw [Hm.out];exact hob)
    have hxw:=Hx.out.size
    clear hob h1
    go_wp2_with fail
    go_roundg (L.length - (j+1))
    case measure=>omega
    case rel=>exact ⟨j+1,by omega,by go_num,Hx.out.trans exts,qh (ownsRow_mono Hob.out hxw)⟩
  ·obtain rfl:j=L.length:=by omega
   obtain ⟨A5,c5,rfl⟩:=ownsRow_len Hr.out
   go_wp2_with fail
   go_ret
   exact ⟨_,rfl,Hx.out,Hr.out⟩
set_option maxRecDepth 100000 in
set_option maxHeartbeats 8000000 in
theorem impl_ownDays (vr vp vt vl vw vs vse vha vd vwi vci:Value) (W:Wrl) (ds:List Ded) (d:Ded) (w:World) (h:SrcIn w vr vp vt vl vw vs vse vha vd vwi W ds d) :
  Calls Tryz.prog 75 #[.agg #[vr,.int .i64 W.ch.fr,.int .i64 W.ch.to,vp,vt,vl,vw,vs,vse,vha],.agg #[.string d.nm,vd,vwi,.string d.pl,.string d.se,.string d.ha,vci]] w (NewOwn 111 2 (ownL W d (-1)).length (spanCell (ownL W d (-1))) w):=by
 have H:=qh h
 have Hown:=qh (own_all W d (-1))
 clear h
 go_enter Tryz.func75,Tryz.ntmps75
 go_wp2_with fail
 refine Calls.mono (impl_allSources vr vp vt vl vw vs vse vha vd vwi vci W ds d _ (H.out.up exts)) ?_
 rintro e wa ⟨ua,lo,rfl,hxa,hlo,hsa⟩
 have Hsa:=qh hsa
 have HXa:=qh (show Ext w wa from exts)
 clear hsa hxa
 go_wp2_with fail
 refine Calls.mono (impl_metAll _ (srcTo W d 5) (-1) _ Hsa.out.read (by rw [srcTo_len];omega) (fun i hi=>by rw [srcTo_len] at hi;rw [srcTo_at W d 5 i hi];exact (srcL_d H.out.ok H.out.inn i).1)) ?_
 rw [srcTo_len,Hown.out]
 rintro e wb ⟨ub,rfl,hxb,hob⟩
 obtain ⟨Ab,cb,rfl⟩:=ownsRow_len hob
 have Hob:=qh hob
 clear hob
 go_wp2_with fail
 go_ret
 exact ⟨_,rfl,HXa.out.trans hxb,ownsRow_mono Hob.out HXa.out.size⟩
set_option maxRecDepth 100000 in
set_option maxHeartbeats 8000000 in
theorem spec_l17Own (vr vp vt vl vw vs vse vha vd vwi vci:Value) (W:Wrl) (ds:List Ded) (d:Ded) (but:Int) (w:World) (h:SrcIn w vr vp vt vl vw vs vse vha vd vwi W ds d) :
  Calls Tryz.prog 74 #[.agg #[vr,.int .i64 W.ch.fr,.int .i64 W.ch.to,vp,vt,vl,vw,vs,vse,vha],.agg #[.string d.nm,vd,vwi,.string d.pl,.string d.se,.string d.ha,vci],.int .i64 but] w (NewOwn 111 2 (ownL W d but).length (spanCell (ownL W d but)) w):=by
 have H:=qh h
 have Hown:=qh (own_same h.ok h.inn but)
 have HM:=qh (fun k=>own_part h.ok h.inn but k (chS W) (chS_d h.ok))
 have HB1:=qh (Boxed.new w [vr,.int .i64 W.ch.fr,.int .i64 W.ch.to,vp,vt,vl,vw,vs,vse,vha] 56)
 have HB2:=qh (Boxed.new (w.alloc (.cells #[vr,.int .i64 W.ch.fr,.int .i64 W.ch.to,vp,vt,vl,vw,vs,vse,vha] 56)) [.string d.nm,vd,vwi,.string d.pl,.string d.se,.string d.ha,vci] 101)
 rw [← Hown.out]
 clear h
 go_enter Tryz.func74,Tryz.ntmps74
 go_upto_region 2 with fail
 obtain ⟨wx,hwx⟩:∃ y,y=(((w.alloc (.cells #[vr,.int .i64 W.ch.fr,.int .i64 W.ch.to,vp,vt,vl,vw,vs,vse,vha] 56)).alloc (.cells #[.string d.nm,vd,vwi,.string d.pl,.string d.se,.string d.ha,vci] 101)).alloc (.cells #[.int .i64 W.ch.fr,.int .i64 W.ch.to] 111)):=⟨_,rfl⟩
 have HX:=qh (show Ext w wx from by rw [hwx];exact (((Ext.refl _).alloc _).alloc _).alloc _)
 have B1:=qh (show Boxed wx w.heap.size [vr,.int .i64 W.ch.fr,.int .i64 W.ch.to,vp,vt,vl,vw,vs,vse,vha] from by rw [hwx];exact (HB1.out.ext ((Ext.refl _).alloc _)).ext ((Ext.refl _).alloc _))
 have B2:=qh (show Boxed wx (w.heap.size+1) [.string d.nm,vd,vwi,.string d.pl,.string d.se,.string d.ha,vci] from by rw [hwx];have h:=HB2.out.ext ((Ext.refl _).alloc (.cells #[.int .i64 W.ch.fr,.int .i64 W.ch.to] 111));rw [World.size_alloc] at h;exact h)
 have Hr0:=qh (show RowSp wx w.heap.size 111 (.slice (some ⟨w.heap.size+1+1,0,none⟩) 1 1) (chS W) from by rw [hwx];have h:=rowSp1 ((w.alloc (.cells #[vr,.int .i64 W.ch.fr,.int .i64 W.ch.to,vp,vt,vl,vw,vs,vse,vha] 56)).alloc (.cells #[.string d.nm,vd,vwi,.string d.pl,.string d.se,.string d.ha,vci] 101)) 111 W.ch.fr W.ch.to;simp only [World.size_alloc] at h;exact ownsRow_mono h (by omega))
 rw [← hwx]
 clear hwx HB1 HB2
 go_wp2_with fail
 go_loopg [7,8] 5 (fun q u7 i wr=>∃ j:Nat,j+q=5∧i=.int .i64 j∧Ext wx wr∧Hid (RowSp wr w.heap.size 111 u7 (mtTo (chS W) (fun k=>srcL W d k) (fun k=>(k:Int) ≠ but) j)))
 case atStart=>exact ⟨0,rfl,rfl,Ext.refl _,Hr0⟩
 clear Hr0
 case round =>
  obtain ⟨j,hj,rfl,hxr,Hr⟩:=hrel
  have Hxr:=qh hxr
  have HXr:=qh (HX.out.trans hxr)
  have b0:=(B1.out.ext hxr).cell 0 rfl
  have b1:=(B1.out.ext hxr).cell 1 rfl
  have b2:=(B1.out.ext hxr).cell 2 rfl
  have b3:=(B1.out.ext hxr).cell 3 rfl
  have b4:=(B1.out.ext hxr).cell 4 rfl
  have b5:=(B1.out.ext hxr).cell 5 rfl
  have b6:=(B1.out.ext hxr).cell 6 rfl
  have b7:=(B1.out.ext hxr).cell 7 rfl
  have b8:=(B1.out.ext hxr).cell 8 rfl
  have b9:=(B1.out.ext hxr).cell 9 rfl
  have bg:=(B1.out.ext hxr).1
  have e0:=(B2.out.ext hxr).cell 0 rfl
  have e1:=(B2.out.ext hxr).cell 1 rfl
  have e2:=(B2.out.ext hxr).cell 2 rfl
  have e3:=(B2.out.ext hxr).cell 3 rfl
  have e4:=(B2.out.ext hxr).cell 4 rfl
  have e5:=(B2.out.ext hxr).cell 5 rfl
  have e6:=(B2.out.ext hxr).cell 6 rfl
  have eg:=(B2.out.ext hxr).1
  clear hxr
  by_cases hlt:j < 5
  ·have d0:decide ((j:Int) ≤ 4)=true:=decide_eq_true (by omega)
   have d0n:decide (j ≤ 4)=true:=decide_eq_true (by omega)
   by_cases he:(j:Int)=but
   ·have E1:decide ((j:Int)=but)=true:=decide_eq_true he
    have E2:((j:Int) == but)=true:=beq_iff_eq.2 he
    have E3:((j:Int) != but)=false:=by rw [bne,E2];rfl
    have Hm:=qh (mtTo_no (s:=chS W) (f:=fun k=>srcL W d k) (p:=fun k=>(k:Int) ≠ but) (k:=j) (fun hh=>hh he))
    clear he
    go_wp2_with fail
    go_roundg (5 - (j+1))
    case measure=>omega
    case rel=>exact ⟨j+1,by omega,by go_num,Hxr.out,qh (by rw [Hm.out];exact Hr.out)⟩
   ·have E1:decide ((j:Int)=but)=false:=decide_eq_false he
    have E2:((j:Int) == but)=false:=beq_eq_false_iff_ne.2 he
    have E3:((j:Int) != but)=true:=by rw [bne,E2];rfl
    have Hm:=qh (mtTo_yes (s:=chS W) (f:=fun k=>srcL W d k) (p:=fun k=>(k:Int) ≠ but) (k:=j) he)
    have HSd:=qh (srcL_d H.out.ok H.out.inn j).1
    clear he
    go_wp2_with fail
    refine Calls.mono (spec_src vr vp vt vl vw vs vse vha vd vwi vci W ds d j _ (H.out.up HXr.out) (by omega) (by omega)) ?_
    rintro e wa ⟨ua,rfl,hxa,hoa⟩
    have Hoa:=qh (show RowSp wa wr.heap.size 111 ua (srcL W d j) from hoa)
    have Hxa:=qh hxa
    clear hoa hxa
    clear b0 b1 b2 b3 b4 b5 b6 b7 b8 b9 bg e0 e1 e2 e3 e4 e5 e6 eg
    go_wp2_with fail
    refine Calls.mono (spec_l02Meet _ _ (mtTo (chS W) (fun k=>srcL W d k) (fun k=>(k:Int) ≠ but) j) (srcL W d j) _ (Hr.out.read.up Hxa.out) Hoa.out.read (setd_len (HM.out j) HSd.out) (HM.out j).bd HSd.out.bd) ?_
    rintro e wb ⟨ub,rfl,hxb,hob⟩
    have Hob:=qh (show RowSp wb _ 111 ub (mtTo (chS W) (fun k=>srcL W d k) (fun k=>(k:Int) ≠ but) (j+1)) from by rw [Hm.out];exact hob)
    have hxw:=(HXr.out.trans Hxa.out).size
    clear hob
    go_wp2_with fail
    go_roundg (5 - (j+1))
    case measure=>omega
    case rel=>exact ⟨j+1,by omega,by go_num,(Hxr.out.trans Hxa.out).trans hxb,qh (ownsRow_mono Hob.out hxw)⟩
  ·obtain rfl:j=5:=by omega
   obtain ⟨A5,c5,rfl⟩:=ownsRow_len Hr.out
   clear b0 b1 b2 b3 b4 b5 b6 b7 b8 b9 bg e0 e1 e2 e3 e4 e5 e6 eg
   go_wp2_with fail
   go_ret
   exact ⟨_,rfl,HXr.out,Hr.out⟩
theorem impl_lim_yes (A:Option Addr) (m c:Nat) (w:World) (h:m ≤ 300):Calls Tryz.prog 53 #[.slice A m c] w (RetX (.tuple #[.slice A m c,.int .i64 0]) w):=by
 have T1:decide ((300:Int) < (m:Int))=false:=decide_eq_false (by omega)
 have T2:decide (300 < m)=false:=decide_eq_false (by omega)
 go_enter Tryz.func53,Tryz.ntmps53
 go_wp2_with fail
 go_ret2
 exact ⟨rfl,Ext.refl _⟩
theorem impl_lim_no (A:Option Addr) (m c:Nat) (w:World) (hm:m ≤ 9223372036854775807) (h:¬ m ≤ 300):Calls Tryz.prog 53 #[.slice A m c] w (RetX (.tuple #[.slice none 0 0,.int .i64 3]) w):=by
 have T1:decide ((300:Int) < (m:Int))=true:=decide_eq_true (by omega)
 have T2:decide (300 < m)=true:=decide_eq_true (by omega)
 go_enter Tryz.func53,Tryz.ntmps53
 go_wp2_with fail
 go_ret2
 exact ⟨rfl,Ext.refl _⟩
theorem spec_lim_yes (A:Option Addr) (m c:Nat) (w:World) (h:m ≤ 300):Calls Tryz.prog 43 #[.slice A m c] w (RetX (.tuple #[.slice A m c,.int .i64 0]) w):=by
 have T1:decide ((300:Int) < (m:Int))=false:=decide_eq_false (by omega)
 have T2:decide (300 < m)=false:=decide_eq_false (by omega)
 go_enter Tryz.func43,Tryz.ntmps43
 go_wp2_with fail
 go_ret2
 exact ⟨rfl,Ext.refl _⟩
theorem spec_lim_no (A:Option Addr) (m c:Nat) (w:World) (hm:m ≤ 9223372036854775807) (h:¬ m ≤ 300):Calls Tryz.prog 43 #[.slice A m c] w (RetX (.tuple #[.slice none 0 0,.int .i64 3]) w):=by
 have T1:decide ((300:Int) < (m:Int))=true:=decide_eq_true (by omega)
 have T2:decide (300 < m)=true:=decide_eq_true (by omega)
 go_enter Tryz.func43,Tryz.ntmps43
 go_wp2_with fail
 go_ret2
 exact ⟨rfl,Ext.refl _⟩
theorem lim_is {l:List Sp} (h:l.length ≤ 300):lmE l=0∧lmL l=l:=⟨if_pos h,if_pos h⟩
theorem lim_not {l:List Sp} (h:¬ l.length ≤ 300):lmE l=3∧lmL l=[]:=⟨if_neg h,if_neg h⟩
theorem dcE_bad {W:Wrl} {ds:List Ded} {i:Int} {ok:Prop} (h:ddE W ds i ≠ 0):dcE W ds i ok=ddE W ds i:=if_neg h
theorem dcE_rng {W:Wrl} {ds:List Ded} {i:Int} {ok:Prop} (h:ddE W ds i=0) (h2:¬ ok):dcE W ds i ok=2:=by unfold dcE;rw [if_pos h,B_false h2];rfl
theorem dcE_ok {W:Wrl} {ds:List Ded} {i:Int} {ok:Prop} (h:ddE W ds i=0) (h2:ok):dcE W ds i ok=0:=by unfold dcE;rw [if_pos h,B_true h2];rfl
noncomputable def dcQ (W:Wrl) (ds:List Ded) (i:Int) (q:Bool):Int:=if ddE W ds i=0 then (bif q then 0 else 2) else ddE W ds i
theorem dcQ_is {W:Wrl} {ds:List Ded} {i:Int} {ok:Prop} {q:Bool} (h:B ok=q):dcQ W ds i q=dcE W ds i ok:=by subst h;rfl
theorem src_in {w:World} {vr vp vt vl vw vs vse vha vd vwi:Value} {W:Wrl} {l:List Ded} {k:Nat} (h:WrlAt w 0 w.heap.size vr vp vt vl vw vs vse vha W) (hok:DedsOk W l) (hk:k < l.length) (hd:Clss w 0 w.heap.size vd (dedAt l k).dt) (hw:Wits w 0 w.heap.size vwi (dedAt l k).wi) :
  SrcIn w vr vp vt vl vw vs vse vha vd vwi W l (dedAt l k):=⟨h,hok.1,hd,hw,(hok.2.2 k hk).1⟩
set_option maxRecDepth 100000 in
set_option maxHeartbeats 8000000 in
theorem spec_l17Code_q (vr vp vt vl vw vs vse vha v:Value) (W:Wrl) (l:List Ded) (i:Int) (q:Bool) (w:World) (h:WrlAt w 0 w.heap.size vr vp vt vl vw vs vse vha W) (hd:Deds w 0 w.heap.size v l) (hsm:WSm W) (hnm:DsNm l) :
  Calls Tryz.prog 41 #[.agg #[vr,.int .i64 W.ch.fr,.int .i64 W.ch.to,vp,vt,vl,vw,vs,vse,vha],v,.int .i64 i,.bool q] w (RetX (.int .i64 (dcQ W l i q)) w):=by
 obtain ⟨A,c,rfl,hn,hc⟩:=hd.len
 have H:=qh h
 have Hd:=qh hd
 clear h hd
 obtain ⟨q1,e1⟩:∃ b,B (DedsOk W l)=b:=⟨_,rfl⟩
 obtain ⟨q2,e2⟩:∃ b,B (0 ≤ i∧i ≤ (l.length:Int) - 1)=b:=⟨_,rfl⟩
 have Hq1:=qh e1
 have Hq2:=qh e2
 clear e1 e2
 have W1:IntKind.i64.wrap ((l.length:Int) - 1)=(l.length:Int) - 1:=IntWalk.i64_in _ (by omega)
 have HE:Hid (dcQ W l i q=(if ddE W l i=0 then (bif q then 0 else 2) else ddE W l i)):=qh rfl
 go_enter Tryz.func41,Tryz.ntmps41
 go_wp2_with fail
 refine Calls.mono (spec_AreDeeds vr vp vt vl vw vs vse vha _ W l _ (H.out.up exts) (Hd.out.up exts) hsm hnm) ?_
 rintro e w1 ⟨rfl,hx1⟩
 rw [Hq1.out]
 have hx:Ext w w1:=exts
 cases q1
 case false =>
  have E:=qh (ddE_no (i:=i) (B_not.1 Hq1.out))
  go_wp2_with fail
  go_ret
  exact ⟨ret_int (by rw [HE.out,E.out];rfl),hx⟩
 cases q
 case false =>
  have E:=qh (show dcQ W l i false=2 from by
   rw [HE.out]
   by_cases h2:0 ≤ i∧i ≤ (l.length:Int) - 1
   ·rw [ddE_ok (B_iff.1 Hq1.out) h2];rfl
   ·rw [ddE_rng (B_iff.1 Hq1.out) h2];rfl)
  go_wp2_with fail
  go_ret
  exact ⟨ret_int E.out.symm,hx⟩
 go_wp2_with fail
 refine Calls.mono (spec_l01In_q Hq2.out _) ?_
 rintro e w2 ⟨rfl,rfl⟩
 cases q2
 case false =>
  have E:=qh (ddE_rng (B_iff.1 Hq1.out) (B_not.1 Hq2.out))
  go_wp2_with fail
  go_ret
  exact ⟨ret_int (by rw [HE.out,E.out];rfl),hx⟩
 have E:=qh (ddE_ok (B_iff.1 Hq1.out) (B_iff.1 Hq2.out))
 go_wp2_with fail
 go_ret
 exact ⟨ret_int (by rw [HE.out,E.out];rfl),hx⟩
theorem sdE_no_impl {W:Wrl} {l:List Ded} {i s:Int} (h:dcE W l i (InR s 0 4) ≠ 0):sdE W l i s=dcE W l i (InR s 0 4)∧sdL W l i s=[]:=⟨if_neg h,if_neg h⟩
theorem sdE_ok_impl {W:Wrl} {l:List Ded} {i s:Int} (h:dcE W l i (InR s 0 4)=0):sdE W l i s=lmE (srcL W (dedAt l i.toNat) s)∧sdL W l i s=lmL (srcL W (dedAt l i.toNat) s):=⟨if_pos h,if_pos h⟩
set_option maxRecDepth 100000 in
set_option maxHeartbeats 8000000 in
theorem impl_SourceDays (vr vp vt vl vw vs vse vha v:Value) (W:Wrl) (l:List Ded) (i:Int) (s:Int) (w:World) (h:WrlAt w 0 w.heap.size vr vp vt vl vw vs vse vha W) (hd:Deds w 0 w.heap.size v l) :
  Calls Tryz.prog 13 #[.agg #[vr,.int .i64 W.ch.fr,.int .i64 W.ch.to,vp,vt,vl,vw,vs,vse,vha],v,.int .i64 i,.int .i64 s] w (NewSpsD (sdL W l i s) (sdE W l i s) w):=by
 obtain ⟨A,c,rfl,hn,hc⟩:=hd.len
 have H:=qh h
 have Hd:=qh hd
 have HB:=qh (Boxed.new w [vr,.int .i64 W.ch.fr,.int .i64 W.ch.to,vp,vt,vl,vw,vs,vse,vha] 56)
 clear h hd
 go_enter Tryz.func13,Tryz.ntmps13
 go_wp2_with fail
 refine Calls.mono (impl_checkDeed vr vp vt vl vw vs vse vha _ W l i _ (H.out.up exts) (Hd.out.up exts)) ?_
 rintro e w1 ⟨rfl,hx1⟩
 have hx:Ext w w1:=exts
 by_cases h0:ddE W l i=0
 case neg =>
  have Hv:=qh (sdE_no_impl (W:=W) (l:=l) (i:=i) (s:=s) (by rw [dcE_bad h0];exact h0))
  have Hc:=qh (show dcE W l i (InR s 0 4)=ddE W l i from dcE_bad h0)
  generalize ddE W l i=r at *
  have n1:(r == 0)=false:=by simpa using h0
  have n2:decide (r=0)=false:=decide_eq_false h0
  go_wp2_with fail
  go_ret2
  rw [Hv.out.1,Hv.out.2,Hc.out]
  exact NewSpsD.nil _ hx
 obtain ⟨q,eq⟩:∃ q,B (InR s 0 4)=q:=⟨_,rfl⟩
 have Hq:=qh eq
 have Hw:=qh (fun W0=>impl_within_q (n:=s) (lo:=0) (hi:=4) (b:=q) eq W0)
 clear eq
 cases q
 case false =>
  have Hc:=qh (dcE_rng (ok:=InR s 0 4) h0 (B_not.1 Hq.out))
  have Hv:=qh (sdE_no_impl (W:=W) (l:=l) (i:=i) (s:=s) (by rw [Hc.out];omega))
  rw [h0]
  clear h0
  go_wp2_with fail
  refine Calls.mono (Hw.out _) ?_
  rintro e w2 ⟨rfl,rfl⟩
  go_wp2_with fail
  go_ret2
  rw [Hv.out.1,Hv.out.2,Hc.out]
  exact NewSpsD.nil _ hx
 have hs:0 ≤ s∧s ≤ 4:=B_iff.1 Hq.out
 have Hv:=qh (sdE_ok_impl (W:=W) (l:=l) (i:=i) (s:=s) (dcE_ok h0 (B_iff.1 Hq.out)))
 rw [h0]
 obtain ⟨hok,hi0,hk0,hik⟩:=ddE_zero h0
 obtain ⟨k,rfl⟩:∃ k:Nat,i=(k:Int):=⟨i.toNat,by omega⟩
 have hk:k < l.length:=by omega
 have hki:(k:Int) < (l.length:Int):=by omega
 have HSI:=qh (fun (vd vwi:Value) (w' : World) (hX:Ext w w') (h1:Clss w' 0 w'.heap.size vd (dedAt l k).dt) (h2:Wits w' 0 w'.heap.size vwi (dedAt l k).wi)=>src_in (H.out.up hX) hok hk h1 h2)
 clear hok hk0 hik
 clear h0
 have b0:=(HB.out.ext hx1).cell 0 rfl
 have b1:=(HB.out.ext hx1).cell 1 rfl
 have b2:=(HB.out.ext hx1).cell 2 rfl
 have b3:=(HB.out.ext hx1).cell 3 rfl
 have b4:=(HB.out.ext hx1).cell 4 rfl
 have b5:=(HB.out.ext hx1).cell 5 rfl
 have b6:=(HB.out.ext hx1).cell 6 rfl
 have b7:=(HB.out.ext hx1).cell 7 rfl
 have b8:=(HB.out.ext hx1).cell 8 rfl
 have b9:=(HB.out.ext hx1).cell 9 rfl
 have bg:=(HB.out.ext hx1).1
 obtain ⟨kb,ko,vd,vwi,vci,eA,_,kg,d0,d1,d2,d3,d4,d5,d6,kd,kw,kc⟩:=(Hd.out.up hx).at_ hk
 obtain ⟨Ac,cc,rfl,hcn,hcc⟩:=kc.len
 subst eA
 have Kd:=qh kd
 have Kw:=qh kw
 clear kd kw kc
 clear hx1
 have HL:=qh (show (srcL W (dedAt l k) s).length ≤ 365250 from SetD.len (srcL_d (HSI.out _ _ w1 hx Kd.out Kw.out).ok (HSI.out _ _ w1 hx Kd.out Kw.out).inn s).1)
 obtain ⟨X,eX⟩:∃ X,srcL W (dedAt l k) s=X:=⟨_,rfl⟩
 have HX:=qh eX
 rw [eX] at HL
 clear eX
 by_cases hl:X.length ≤ 300
 ·have Hl:=qh (lim_is hl)
  go_wp2_with fail
  refine Calls.mono (Hw.out _) ?_
  rintro e w2 ⟨rfl,rfl⟩
  go_wp2_with fail
  go_region_held3 (fun w' => w'.cell? ⟨w.heap.size,0,none⟩=some (vr)∧w'.cell? ⟨w.heap.size,1,none⟩=some (.int .i64 W.ch.fr)∧w'.cell? ⟨w.heap.size,2,none⟩=some (.int .i64 W.ch.to)∧w'.cell? ⟨w.heap.size,3,none⟩=some (vp)∧w'.cell? ⟨w.heap.size,4,none⟩=some (vt)∧w'.cell? ⟨w.heap.size,5,none⟩=some (vl)∧w'.cell? ⟨w.heap.size,6,none⟩=some (vw)∧w'.cell? ⟨w.heap.size,7,none⟩=some (vs)∧w'.cell? ⟨w.heap.size,8,none⟩=some (vse)∧w'.cell? ⟨w.heap.size,9,none⟩=some (vha)∧w'.cell? ⟨kb,ko+k * 7,none⟩=some (.string (dedAt l k).nm)∧w'.cell? ⟨kb,ko+k * 7+1,none⟩=some (vd)∧w'.cell? ⟨kb,ko+k * 7+2,none⟩=some (vwi)∧w'.cell? ⟨kb,ko+k * 7+3,none⟩=some (.string (dedAt l k).pl)∧w'.cell? ⟨kb,ko+k * 7+4,none⟩=some (.string (dedAt l k).se)∧w'.cell? ⟨kb,ko+k * 7+5,none⟩=some (.string (dedAt l k).ha)∧w'.cell? ⟨kb,ko+k * 7+6,none⟩=some (.slice Ac (dedAt l k).ci.length cc)∧Ext w1 w')
   (exact Ext.and_cell bg b0 exts (Ext.and_cell bg b1 exts (Ext.and_cell bg b2 exts (Ext.and_cell bg b3 exts (Ext.and_cell bg b4 exts (Ext.and_cell bg b5 exts (Ext.and_cell bg b6 exts (Ext.and_cell bg b7 exts (Ext.and_cell bg b8 exts (Ext.and_cell bg b9 exts (Ext.and_cell kg d0 exts (Ext.and_cell kg d1 exts (Ext.and_cell kg d2 exts (Ext.and_cell kg d3 exts (Ext.and_cell kg d4 exts (Ext.and_cell kg d5 exts (Ext.and_cell kg d6 exts exts)))))))))))))))))
   (first
    | (go_at_call 54;refine Calls.mono (impl_src vr vp vt vl vw vs vse vha _ _ _ W l (dedAt l k) s _ ((HSI.out _ _ w1 hx Kd.out Kw.out).up exts) hs.1 hs.2) ?_;rintro e wa ⟨ua,rfl,hxa,hoa⟩;rw [HX.out] at hoa;obtain ⟨Aa,ca,rfl⟩:=ownsRow_len hoa;have Hoa:=qh hoa;clear hoa)
    | (go_at_call 53;refine Calls.mono (impl_lim_yes _ _ _ _ hl) ?_;rintro e wb ⟨rfl,hxb⟩))
  have hE:Ext w1 wb:=exts
  have hN:=(show Ext w1 wa from exts).size
  have hz:=hx.size
  clear b0 b1 b2 b3 b4 b5 b6 b7 b8 b9 bg
  clear d0 d1 d2 d3 d4 d5 d6
  go_wp2_with fail
  go_ret2
  rw [Hv.out.1,Hv.out.2,Int.toNat_natCast,HX.out,Hl.out.1,Hl.out.2]
  exact NewSpsD.of (hx.trans hE) (ownsRow_mono (row_ext Hoa.out hxb) (Nat.le_trans hz (show Ext w1 _ from exts).size))
 ·have Hl:=qh (lim_not hl)
  go_wp2_with fail
  refine Calls.mono (Hw.out _) ?_
  rintro e w2 ⟨rfl,rfl⟩
  go_wp2_with fail
  go_region_held3 (fun w' => w'.cell? ⟨w.heap.size,0,none⟩=some (vr)∧w'.cell? ⟨w.heap.size,1,none⟩=some (.int .i64 W.ch.fr)∧w'.cell? ⟨w.heap.size,2,none⟩=some (.int .i64 W.ch.to)∧w'.cell? ⟨w.heap.size,3,none⟩=some (vp)∧w'.cell? ⟨w.heap.size,4,none⟩=some (vt)∧w'.cell? ⟨w.heap.size,5,none⟩=some (vl)∧w'.cell? ⟨w.heap.size,6,none⟩=some (vw)∧w'.cell? ⟨w.heap.size,7,none⟩=some (vs)∧w'.cell? ⟨w.heap.size,8,none⟩=some (vse)∧w'.cell? ⟨w.heap.size,9,none⟩=some (vha)∧w'.cell? ⟨kb,ko+k * 7,none⟩=some (.string (dedAt l k).nm)∧w'.cell? ⟨kb,ko+k * 7+1,none⟩=some (vd)∧w'.cell? ⟨kb,ko+k * 7+2,none⟩=some (vwi)∧w'.cell? ⟨kb,ko+k * 7+3,none⟩=some (.string (dedAt l k).pl)∧w'.cell? ⟨kb,ko+k * 7+4,none⟩=some (.string (dedAt l k).se)∧w'.cell? ⟨kb,ko+k * 7+5,none⟩=some (.string (dedAt l k).ha)∧w'.cell? ⟨kb,ko+k * 7+6,none⟩=some (.slice Ac (dedAt l k).ci.length cc)∧Ext w1 w')
   (exact Ext.and_cell bg b0 exts (Ext.and_cell bg b1 exts (Ext.and_cell bg b2 exts (Ext.and_cell bg b3 exts (Ext.and_cell bg b4 exts (Ext.and_cell bg b5 exts (Ext.and_cell bg b6 exts (Ext.and_cell bg b7 exts (Ext.and_cell bg b8 exts (Ext.and_cell bg b9 exts (Ext.and_cell kg d0 exts (Ext.and_cell kg d1 exts (Ext.and_cell kg d2 exts (Ext.and_cell kg d3 exts (Ext.and_cell kg d4 exts (Ext.and_cell kg d5 exts (Ext.and_cell kg d6 exts exts)))))))))))))))))
   (first
    | (go_at_call 54;refine Calls.mono (impl_src vr vp vt vl vw vs vse vha _ _ _ W l (dedAt l k) s _ ((HSI.out _ _ w1 hx Kd.out Kw.out).up exts) hs.1 hs.2) ?_;rintro e wa ⟨ua,rfl,hxa,hoa⟩;rw [HX.out] at hoa;obtain ⟨Aa,ca,rfl⟩:=ownsRow_len hoa;have Hoa:=qh hoa;clear hoa)
    | (go_at_call 53;refine Calls.mono (impl_lim_no _ _ _ _ (by have:=HL.out;omega) hl) ?_;rintro e wb ⟨rfl,hxb⟩))
  have hE:Ext w1 wb:=exts
  have hN:=(show Ext w1 wa from exts).size
  have hz:=hx.size
  clear b0 b1 b2 b3 b4 b5 b6 b7 b8 b9 bg
  clear d0 d1 d2 d3 d4 d5 d6
  go_wp2_with fail
  go_ret2
  rw [Hv.out.1,Hv.out.2,Int.toNat_natCast,HX.out,Hl.out.1,Hl.out.2]
  exact NewSpsD.nil _ (hx.trans hE)
theorem sdE_no_spec {W:Wrl} {l:List Ded} {i s:Int} (h:dcE W l i (InR s 0 4) ≠ 0):sdE W l i s=dcE W l i (InR s 0 4)∧sdL W l i s=[]:=⟨if_neg h,if_neg h⟩
theorem sdE_ok_spec {W:Wrl} {l:List Ded} {i s:Int} (h:dcE W l i (InR s 0 4)=0):sdE W l i s=lmE (srcL W (dedAt l i.toNat) s)∧sdL W l i s=lmL (srcL W (dedAt l i.toNat) s):=⟨if_pos h,if_pos h⟩
set_option maxRecDepth 100000 in
set_option maxHeartbeats 8000000 in
theorem spec_SourceDays (vr vp vt vl vw vs vse vha v:Value) (W:Wrl) (l:List Ded) (i:Int) (s:Int) (w:World) (h:WrlAt w 0 w.heap.size vr vp vt vl vw vs vse vha W) (hd:Deds w 0 w.heap.size v l) (hsm:WSm W) (hnm:DsNm l) :
  Calls Tryz.prog 10 #[.agg #[vr,.int .i64 W.ch.fr,.int .i64 W.ch.to,vp,vt,vl,vw,vs,vse,vha],v,.int .i64 i,.int .i64 s] w (NewSpsD (sdL W l i s) (sdE W l i s) w):=by
 obtain ⟨A,c,rfl,hn,hc⟩:=hd.len
 have H:=qh h
 have Hd:=qh hd
 have HB:=qh (Boxed.new w [vr,.int .i64 W.ch.fr,.int .i64 W.ch.to,vp,vt,vl,vw,vs,vse,vha] 56)
 clear h hd
 go_enter Tryz.func10,Tryz.ntmps10
 go_wp2_with fail
 obtain ⟨q,eq⟩:∃ q,B (InR s 0 4)=q:=⟨_,rfl⟩
 have Hq:=qh eq
 have Hw:=qh (fun W0=>spec_l01In_q (n:=s) (lo:=0) (hi:=4) (b:=q) eq W0)
 have HE:=qh (dcQ_is (W:=W) (ds:=l) (i:=i) eq)
 clear eq
 have b0:=0
 clear b0
 have b0:=(HB.out.ext (Ext.refl _)).cell 0 rfl
 have b1:=(HB.out.ext (Ext.refl _)).cell 1 rfl
 have b2:=(HB.out.ext (Ext.refl _)).cell 2 rfl
 have b3:=(HB.out.ext (Ext.refl _)).cell 3 rfl
 have b4:=(HB.out.ext (Ext.refl _)).cell 4 rfl
 have b5:=(HB.out.ext (Ext.refl _)).cell 5 rfl
 have b6:=(HB.out.ext (Ext.refl _)).cell 6 rfl
 have b7:=(HB.out.ext (Ext.refl _)).cell 7 rfl
 have b8:=(HB.out.ext (Ext.refl _)).cell 8 rfl
 have b9:=(HB.out.ext (Ext.refl _)).cell 9 rfl
 have bg:=(HB.out.ext (Ext.refl _)).1
 (refine wp_region_onto prog_mixed (by kernel_rfl) ?_;(repeat (go_big_quiet_step ((first | (go_at_call 42;with_reducible exact onto_callS (Hw.out _)) | (go_at_call 41;with_reducible exact onto_callX (spec_l17Code_q vr vp vt vl vw vs vse vha _ W l i q _ (H.out.up (((Ext.refl w).alloc _).trans (onto_ext _ _))) (Hd.out.up (((Ext.refl w).alloc _).trans (onto_ext _ _))) hsm hnm))))));refine onto_end ?_;intro w1 hx1)
 have hx:Ext w w1:=exts
 clear b0 b1 b2 b3 b4 b5 b6 b7 b8 b9 bg
 rw [HE.out]
 by_cases h0:dcE W l i (InR s 0 4)=0
 case neg =>
  have Hv:=qh (sdE_no_spec (W:=W) (l:=l) (i:=i) (s:=s) h0)
  clear HE
  generalize dcE W l i (InR s 0 4)=r at *
  have n1:(r == 0)=false:=by simpa using h0
  have n2:decide (r=0)=false:=decide_eq_false h0
  go_wp2_with fail
  go_ret2
  rw [Hv.out.1,Hv.out.2]
  exact NewSpsD.nil _ hx
 have hs:0 ≤ s∧s ≤ 4:=(dcE_zero h0).2
 have Hv:=qh (sdE_ok_spec (W:=W) (l:=l) (i:=i) (s:=s) h0)
 have h00:=(dcE_zero h0).1
 rw [h0]
 clear HE h0
 obtain ⟨hok,hi0,hk0,hik⟩:=ddE_zero h00
 obtain ⟨k,rfl⟩:∃ k:Nat,i=(k:Int):=⟨i.toNat,by omega⟩
 have hk:k < l.length:=by omega
 have hki:(k:Int) < (l.length:Int):=by omega
 have HSI:=qh (fun (vd vwi:Value) (w' : World) (hX:Ext w w') (h1:Clss w' 0 w'.heap.size vd (dedAt l k).dt) (h2:Wits w' 0 w'.heap.size vwi (dedAt l k).wi)=>src_in (H.out.up hX) hok hk h1 h2)
 clear hok hk0 hik
 clear h00
 have b0:=(HB.out.ext hx1).cell 0 rfl
 have b1:=(HB.out.ext hx1).cell 1 rfl
 have b2:=(HB.out.ext hx1).cell 2 rfl
 have b3:=(HB.out.ext hx1).cell 3 rfl
 have b4:=(HB.out.ext hx1).cell 4 rfl
 have b5:=(HB.out.ext hx1).cell 5 rfl
 have b6:=(HB.out.ext hx1).cell 6 rfl
 have b7:=(HB.out.ext hx1).cell 7 rfl
 have b8:=(HB.out.ext hx1).cell 8 rfl
 have b9:=(HB.out.ext hx1).cell 9 rfl
 have bg:=(HB.out.ext hx1).1
 obtain ⟨kb,ko,vd,vwi,vci,eA,_,kg,d0,d1,d2,d3,d4,d5,d6,kd,kw,kc⟩:=(Hd.out.up hx).at_ hk
 obtain ⟨Ac,cc,rfl,hcn,hcc⟩:=kc.len
 subst eA
 have Kd:=qh kd
 have Kw:=qh kw
 clear kd kw kc
 clear hx1
 have HL:=qh (show (srcL W (dedAt l k) s).length ≤ 365250 from SetD.len (srcL_d (HSI.out _ _ w1 hx Kd.out Kw.out).ok (HSI.out _ _ w1 hx Kd.out Kw.out).inn s).1)
 obtain ⟨X,eX⟩:∃ X,srcL W (dedAt l k) s=X:=⟨_,rfl⟩
 have HX:=qh eX
 rw [eX] at HL
 clear eX
 by_cases hl:X.length ≤ 300
 ·have Hl:=qh (lim_is hl)
  go_wp2_with fail
  go_region_held3 (fun w' => w'.cell? ⟨w.heap.size,0,none⟩=some (vr)∧w'.cell? ⟨w.heap.size,1,none⟩=some (.int .i64 W.ch.fr)∧w'.cell? ⟨w.heap.size,2,none⟩=some (.int .i64 W.ch.to)∧w'.cell? ⟨w.heap.size,3,none⟩=some (vp)∧w'.cell? ⟨w.heap.size,4,none⟩=some (vt)∧w'.cell? ⟨w.heap.size,5,none⟩=some (vl)∧w'.cell? ⟨w.heap.size,6,none⟩=some (vw)∧w'.cell? ⟨w.heap.size,7,none⟩=some (vs)∧w'.cell? ⟨w.heap.size,8,none⟩=some (vse)∧w'.cell? ⟨w.heap.size,9,none⟩=some (vha)∧w'.cell? ⟨kb,ko+k * 7,none⟩=some (.string (dedAt l k).nm)∧w'.cell? ⟨kb,ko+k * 7+1,none⟩=some (vd)∧w'.cell? ⟨kb,ko+k * 7+2,none⟩=some (vwi)∧w'.cell? ⟨kb,ko+k * 7+3,none⟩=some (.string (dedAt l k).pl)∧w'.cell? ⟨kb,ko+k * 7+4,none⟩=some (.string (dedAt l k).se)∧w'.cell? ⟨kb,ko+k * 7+5,none⟩=some (.string (dedAt l k).ha)∧w'.cell? ⟨kb,ko+k * 7+6,none⟩=some (.slice Ac (dedAt l k).ci.length cc)∧Ext w1 w')
   (exact Ext.and_cell bg b0 exts (Ext.and_cell bg b1 exts (Ext.and_cell bg b2 exts (Ext.and_cell bg b3 exts (Ext.and_cell bg b4 exts (Ext.and_cell bg b5 exts (Ext.and_cell bg b6 exts (Ext.and_cell bg b7 exts (Ext.and_cell bg b8 exts (Ext.and_cell bg b9 exts (Ext.and_cell kg d0 exts (Ext.and_cell kg d1 exts (Ext.and_cell kg d2 exts (Ext.and_cell kg d3 exts (Ext.and_cell kg d4 exts (Ext.and_cell kg d5 exts (Ext.and_cell kg d6 exts exts)))))))))))))))))
   (first
    | (go_at_call 44;refine Calls.mono (spec_src vr vp vt vl vw vs vse vha _ _ _ W l (dedAt l k) s _ ((HSI.out _ _ w1 hx Kd.out Kw.out).up exts) hs.1 hs.2) ?_;rintro e wa ⟨ua,rfl,hxa,hoa⟩;rw [HX.out] at hoa;obtain ⟨Aa,ca,rfl⟩:=ownsRow_len hoa;have Hoa:=qh hoa;clear hoa)
    | (go_at_call 43;refine Calls.mono (spec_lim_yes _ _ _ _ hl) ?_;rintro e wb ⟨rfl,hxb⟩))
  have hE:Ext w1 wb:=exts
  have hN:=(show Ext w1 wa from exts).size
  have hz:=hx.size
  clear b0 b1 b2 b3 b4 b5 b6 b7 b8 b9 bg
  clear d0 d1 d2 d3 d4 d5 d6
  go_wp2_with fail
  go_ret2
  rw [Hv.out.1,Hv.out.2,Int.toNat_natCast,HX.out,Hl.out.1,Hl.out.2]
  exact NewSpsD.of (hx.trans hE) (ownsRow_mono (row_ext Hoa.out hxb) (Nat.le_trans hz (show Ext w1 _ from exts).size))
 ·have Hl:=qh (lim_not hl)
  go_wp2_with fail
  go_region_held3 (fun w' => w'.cell? ⟨w.heap.size,0,none⟩=some (vr)∧w'.cell? ⟨w.heap.size,1,none⟩=some (.int .i64 W.ch.fr)∧w'.cell? ⟨w.heap.size,2,none⟩=some (.int .i64 W.ch.to)∧w'.cell? ⟨w.heap.size,3,none⟩=some (vp)∧w'.cell? ⟨w.heap.size,4,none⟩=some (vt)∧w'.cell? ⟨w.heap.size,5,none⟩=some (vl)∧w'.cell? ⟨w.heap.size,6,none⟩=some (vw)∧w'.cell? ⟨w.heap.size,7,none⟩=some (vs)∧w'.cell? ⟨w.heap.size,8,none⟩=some (vse)∧w'.cell? ⟨w.heap.size,9,none⟩=some (vha)∧w'.cell? ⟨kb,ko+k * 7,none⟩=some (.string (dedAt l k).nm)∧w'.cell? ⟨kb,ko+k * 7+1,none⟩=some (vd)∧w'.cell? ⟨kb,ko+k * 7+2,none⟩=some (vwi)∧w'.cell? ⟨kb,ko+k * 7+3,none⟩=some (.string (dedAt l k).pl)∧w'.cell? ⟨kb,ko+k * 7+4,none⟩=some (.string (dedAt l k).se)∧w'.cell? ⟨kb,ko+k * 7+5,none⟩=some (.string (dedAt l k).ha)∧w'.cell? ⟨kb,ko+k * 7+6,none⟩=some (.slice Ac (dedAt l k).ci.length cc)∧Ext w1 w')
   (exact Ext.and_cell bg b0 exts (Ext.and_cell bg b1 exts (Ext.and_cell bg b2 exts (Ext.and_cell bg b3 exts (Ext.and_cell bg b4 exts (Ext.and_cell bg b5 exts (Ext.and_cell bg b6 exts (Ext.and_cell bg b7 exts (Ext.and_cell bg b8 exts (Ext.and_cell bg b9 exts (Ext.and_cell kg d0 exts (Ext.and_cell kg d1 exts (Ext.and_cell kg d2 exts (Ext.and_cell kg d3 exts (Ext.and_cell kg d4 exts (Ext.and_cell kg d5 exts (Ext.and_cell kg d6 exts exts)))))))))))))))))
   (first
    | (go_at_call 44;refine Calls.mono (spec_src vr vp vt vl vw vs vse vha _ _ _ W l (dedAt l k) s _ ((HSI.out _ _ w1 hx Kd.out Kw.out).up exts) hs.1 hs.2) ?_;rintro e wa ⟨ua,rfl,hxa,hoa⟩;rw [HX.out] at hoa;obtain ⟨Aa,ca,rfl⟩:=ownsRow_len hoa;have Hoa:=qh hoa;clear hoa)
    | (go_at_call 43;refine Calls.mono (spec_lim_no _ _ _ _ (by have:=HL.out;omega) hl) ?_;rintro e wb ⟨rfl,hxb⟩))
  have hE:Ext w1 wb:=exts
  have hN:=(show Ext w1 wa from exts).size
  have hz:=hx.size
  clear b0 b1 b2 b3 b4 b5 b6 b7 b8 b9 bg
  clear d0 d1 d2 d3 d4 d5 d6
  go_wp2_with fail
  go_ret2
  rw [Hv.out.1,Hv.out.2,Int.toNat_natCast,HX.out,Hl.out.1,Hl.out.2]
  exact NewSpsD.nil _ (hx.trans hE)
theorem odE_no_impl {W:Wrl} {l:List Ded} {i:Int} (h:ddE W l i ≠ 0):odE W l i=ddE W l i∧odL W l i=[]:=⟨if_neg h,if_neg h⟩
theorem odE_ok_impl {W:Wrl} {l:List Ded} {i:Int} (h:ddE W l i=0):odE W l i=lmE (ownL W (dedAt l i.toNat) (-1))∧odL W l i=lmL (ownL W (dedAt l i.toNat) (-1)):=⟨if_pos h,if_pos h⟩
set_option maxRecDepth 100000 in
set_option maxHeartbeats 8000000 in
theorem impl_OwnDays (vr vp vt vl vw vs vse vha v:Value) (W:Wrl) (l:List Ded) (i:Int) (w:World) (h:WrlAt w 0 w.heap.size vr vp vt vl vw vs vse vha W) (hd:Deds w 0 w.heap.size v l) :
  Calls Tryz.prog 27 #[.agg #[vr,.int .i64 W.ch.fr,.int .i64 W.ch.to,vp,vt,vl,vw,vs,vse,vha],v,.int .i64 i] w (NewSpsD (odL W l i) (odE W l i) w):=by
 obtain ⟨A,c,rfl,hn,hc⟩:=hd.len
 have H:=qh h
 have Hd:=qh hd
 have HB:=qh (Boxed.new w [vr,.int .i64 W.ch.fr,.int .i64 W.ch.to,vp,vt,vl,vw,vs,vse,vha] 56)
 clear h hd
 go_enter Tryz.func27,Tryz.ntmps27
 go_wp2_with fail
 refine Calls.mono (impl_checkDeed vr vp vt vl vw vs vse vha _ W l i _ (H.out.up exts) (Hd.out.up exts)) ?_
 rintro e w1 ⟨rfl,hx1⟩
 have hx:Ext w w1:=exts
 by_cases h0:ddE W l i=0
 case neg =>
  have Hv:=qh (odE_no_impl (W:=W) (l:=l) (i:=i) h0)
  have Hc:=qh (show ddE W l i=ddE W l i from rfl)
  generalize ddE W l i=r at *
  have n1:(r == 0)=false:=by simpa using h0
  have n2:decide (r=0)=false:=decide_eq_false h0
  go_wp2_with fail
  go_ret2
  rw [Hv.out.1,Hv.out.2]
  exact NewSpsD.nil _ hx
 have Hv:=qh (odE_ok_impl h0)
 rw [h0]
 obtain ⟨hok,hi0,hk0,hik⟩:=ddE_zero h0
 obtain ⟨k,rfl⟩:∃ k:Nat,i=(k:Int):=⟨i.toNat,by omega⟩
 have hk:k < l.length:=by omega
 have hki:(k:Int) < (l.length:Int):=by omega
 have HSI:=qh (fun (vd vwi:Value) (w' : World) (hX:Ext w w') (h1:Clss w' 0 w'.heap.size vd (dedAt l k).dt) (h2:Wits w' 0 w'.heap.size vwi (dedAt l k).wi)=>src_in (H.out.up hX) hok hk h1 h2)
 clear hok hk0 hik
 clear h0
 have b0:=(HB.out.ext hx1).cell 0 rfl
 have b1:=(HB.out.ext hx1).cell 1 rfl
 have b2:=(HB.out.ext hx1).cell 2 rfl
 have b3:=(HB.out.ext hx1).cell 3 rfl
 have b4:=(HB.out.ext hx1).cell 4 rfl
 have b5:=(HB.out.ext hx1).cell 5 rfl
 have b6:=(HB.out.ext hx1).cell 6 rfl
 have b7:=(HB.out.ext hx1).cell 7 rfl
 have b8:=(HB.out.ext hx1).cell 8 rfl
 have b9:=(HB.out.ext hx1).cell 9 rfl
 have bg:=(HB.out.ext hx1).1
 obtain ⟨kb,ko,vd,vwi,vci,eA,_,kg,d0,d1,d2,d3,d4,d5,d6,kd,kw,kc⟩:=(Hd.out.up hx).at_ hk
 obtain ⟨Ac,cc,rfl,hcn,hcc⟩:=kc.len
 subst eA
 have Kd:=qh kd
 have Kw:=qh kw
 clear kd kw kc
 clear hx1
 have HL:=qh (show (ownL W (dedAt l k) (-1)).length ≤ 365250 from SetD.len (ownL_d (HSI.out _ _ w1 hx Kd.out Kw.out).ok (HSI.out _ _ w1 hx Kd.out Kw.out).inn (-1)).1)
 obtain ⟨X,eX⟩:∃ X,ownL W (dedAt l k) (-1)=X:=⟨_,rfl⟩
 have HX:=qh eX
 rw [eX] at HL
 clear eX
 by_cases hl:X.length ≤ 300
 ·have Hl:=qh (lim_is hl)
  go_wp2_with fail
  go_region_held3 (fun w' => w'.cell? ⟨w.heap.size,0,none⟩=some (vr)∧w'.cell? ⟨w.heap.size,1,none⟩=some (.int .i64 W.ch.fr)∧w'.cell? ⟨w.heap.size,2,none⟩=some (.int .i64 W.ch.to)∧w'.cell? ⟨w.heap.size,3,none⟩=some (vp)∧w'.cell? ⟨w.heap.size,4,none⟩=some (vt)∧w'.cell? ⟨w.heap.size,5,none⟩=some (vl)∧w'.cell? ⟨w.heap.size,6,none⟩=some (vw)∧w'.cell? ⟨w.heap.size,7,none⟩=some (vs)∧w'.cell? ⟨w.heap.size,8,none⟩=some (vse)∧w'.cell? ⟨w.heap.size,9,none⟩=some (vha)∧w'.cell? ⟨kb,ko+k * 7,none⟩=some (.string (dedAt l k).nm)∧w'.cell? ⟨kb,ko+k * 7+1,none⟩=some (vd)∧w'.cell? ⟨kb,ko+k * 7+2,none⟩=some (vwi)∧w'.cell? ⟨kb,ko+k * 7+3,none⟩=some (.string (dedAt l k).pl)∧w'.cell? ⟨kb,ko+k * 7+4,none⟩=some (.string (dedAt l k).se)∧w'.cell? ⟨kb,ko+k * 7+5,none⟩=some (.string (dedAt l k).ha)∧w'.cell? ⟨kb,ko+k * 7+6,none⟩=some (.slice Ac (dedAt l k).ci.length cc)∧Ext w1 w')
   (exact Ext.and_cell bg b0 exts (Ext.and_cell bg b1 exts (Ext.and_cell bg b2 exts (Ext.and_cell bg b3 exts (Ext.and_cell bg b4 exts (Ext.and_cell bg b5 exts (Ext.and_cell bg b6 exts (Ext.and_cell bg b7 exts (Ext.and_cell bg b8 exts (Ext.and_cell bg b9 exts (Ext.and_cell kg d0 exts (Ext.and_cell kg d1 exts (Ext.and_cell kg d2 exts (Ext.and_cell kg d3 exts (Ext.and_cell kg d4 exts (Ext.and_cell kg d5 exts (Ext.and_cell kg d6 exts exts)))))))))))))))))
   (first
    | (go_at_call 75;refine Calls.mono (impl_ownDays vr vp vt vl vw vs vse vha _ _ _ W l (dedAt l k) _ ((HSI.out _ _ w1 hx Kd.out Kw.out).up exts)) ?_;rintro e wa ⟨ua,rfl,hxa,hoa⟩;rw [HX.out] at hoa;obtain ⟨Aa,ca,rfl⟩:=ownsRow_len hoa;have Hoa:=qh hoa;clear hoa)
    | (go_at_call 53;refine Calls.mono (impl_lim_yes _ _ _ _ hl) ?_;rintro e wb ⟨rfl,hxb⟩))
  have hE:Ext w1 wb:=exts
  have hN:=(show Ext w1 wa from exts).size
  have hz:=hx.size
  clear b0 b1 b2 b3 b4 b5 b6 b7 b8 b9 bg
  clear d0 d1 d2 d3 d4 d5 d6
  go_wp2_with fail
  go_ret2
  rw [Hv.out.1,Hv.out.2,Int.toNat_natCast,HX.out,Hl.out.1,Hl.out.2]
  exact NewSpsD.of (hx.trans hE) (ownsRow_mono (row_ext Hoa.out hxb) (Nat.le_trans hz (show Ext w1 _ from exts).size))
 ·have Hl:=qh (lim_not hl)
  go_wp2_with fail
  go_region_held3 (fun w' => w'.cell? ⟨w.heap.size,0,none⟩=some (vr)∧w'.cell? ⟨w.heap.size,1,none⟩=some (.int .i64 W.ch.fr)∧w'.cell? ⟨w.heap.size,2,none⟩=some (.int .i64 W.ch.to)∧w'.cell? ⟨w.heap.size,3,none⟩=some (vp)∧w'.cell? ⟨w.heap.size,4,none⟩=some (vt)∧w'.cell? ⟨w.heap.size,5,none⟩=some (vl)∧w'.cell? ⟨w.heap.size,6,none⟩=some (vw)∧w'.cell? ⟨w.heap.size,7,none⟩=some (vs)∧w'.cell? ⟨w.heap.size,8,none⟩=some (vse)∧w'.cell? ⟨w.heap.size,9,none⟩=some (vha)∧w'.cell? ⟨kb,ko+k * 7,none⟩=some (.string (dedAt l k).nm)∧w'.cell? ⟨kb,ko+k * 7+1,none⟩=some (vd)∧w'.cell? ⟨kb,ko+k * 7+2,none⟩=some (vwi)∧w'.cell? ⟨kb,ko+k * 7+3,none⟩=some (.string (dedAt l k).pl)∧w'.cell? ⟨kb,ko+k * 7+4,none⟩=some (.string (dedAt l k).se)∧w'.cell? ⟨kb,ko+k * 7+5,none⟩=some (.string (dedAt l k).ha)∧w'.cell? ⟨kb,ko+k * 7+6,none⟩=some (.slice Ac (dedAt l k).ci.length cc)∧Ext w1 w')
   (exact Ext.and_cell bg b0 exts (Ext.and_cell bg b1 exts (Ext.and_cell bg b2 exts (Ext.and_cell bg b3 exts (Ext.and_cell bg b4 exts (Ext.and_cell bg b5 exts (Ext.and_cell bg b6 exts (Ext.and_cell bg b7 exts (Ext.and_cell bg b8 exts (Ext.and_cell bg b9 exts (Ext.and_cell kg d0 exts (Ext.and_cell kg d1 exts (Ext.and_cell kg d2 exts (Ext.and_cell kg d3 exts (Ext.and_cell kg d4 exts (Ext.and_cell kg d5 exts (Ext.and_cell kg d6 exts exts)))))))))))))))))
   (first
    | (go_at_call 75;refine Calls.mono (impl_ownDays vr vp vt vl vw vs vse vha _ _ _ W l (dedAt l k) _ ((HSI.out _ _ w1 hx Kd.out Kw.out).up exts)) ?_;rintro e wa ⟨ua,rfl,hxa,hoa⟩;rw [HX.out] at hoa;obtain ⟨Aa,ca,rfl⟩:=ownsRow_len hoa;have Hoa:=qh hoa;clear hoa)
    | (go_at_call 53;refine Calls.mono (impl_lim_no _ _ _ _ (by have:=HL.out;omega) hl) ?_;rintro e wb ⟨rfl,hxb⟩))
  have hE:Ext w1 wb:=exts
  have hN:=(show Ext w1 wa from exts).size
  have hz:=hx.size
  clear b0 b1 b2 b3 b4 b5 b6 b7 b8 b9 bg
  clear d0 d1 d2 d3 d4 d5 d6
  go_wp2_with fail
  go_ret2
  rw [Hv.out.1,Hv.out.2,Int.toNat_natCast,HX.out,Hl.out.1,Hl.out.2]
  exact NewSpsD.nil _ (hx.trans hE)
theorem odE_no_spec {W:Wrl} {l:List Ded} {i:Int} (h:ddE W l i ≠ 0):odE W l i=ddE W l i∧odL W l i=[]:=⟨if_neg h,if_neg h⟩
theorem odE_ok_spec {W:Wrl} {l:List Ded} {i:Int} (h:ddE W l i=0):odE W l i=lmE (ownL W (dedAt l i.toNat) (-1))∧odL W l i=lmL (ownL W (dedAt l i.toNat) (-1)):=⟨if_pos h,if_pos h⟩
set_option maxRecDepth 100000 in
set_option maxHeartbeats 8000000 in
theorem spec_OwnDays (vr vp vt vl vw vs vse vha v:Value) (W:Wrl) (l:List Ded) (i:Int) (w:World) (h:WrlAt w 0 w.heap.size vr vp vt vl vw vs vse vha W) (hd:Deds w 0 w.heap.size v l) (hsm:WSm W) (hnm:DsNm l) :
  Calls Tryz.prog 26 #[.agg #[vr,.int .i64 W.ch.fr,.int .i64 W.ch.to,vp,vt,vl,vw,vs,vse,vha],v,.int .i64 i] w (NewSpsD (odL W l i) (odE W l i) w):=by
 obtain ⟨A,c,rfl,hn,hc⟩:=hd.len
 have H:=qh h
 have Hd:=qh hd
 have HB:=qh (Boxed.new w [vr,.int .i64 W.ch.fr,.int .i64 W.ch.to,vp,vt,vl,vw,vs,vse,vha] 56)
 clear h hd
 go_enter Tryz.func26,Tryz.ntmps26
 go_wp2_with fail
 refine Calls.mono (spec_l17Code vr vp vt vl vw vs vse vha _ W l i _ (H.out.up exts) (Hd.out.up exts) hsm hnm) ?_
 rintro e w1 ⟨rfl,hx1⟩
 have hx:Ext w w1:=exts
 by_cases h0:ddE W l i=0
 case neg =>
  have Hv:=qh (odE_no_spec (W:=W) (l:=l) (i:=i) h0)
  generalize ddE W l i=r at *
  have n1:(r == 0)=false:=by simpa using h0
  have n2:decide (r=0)=false:=decide_eq_false h0
  go_wp2_with fail
  go_ret2
  rw [Hv.out.1,Hv.out.2]
  exact NewSpsD.nil _ hx
 have Hv:=qh (odE_ok_spec h0)
 rw [h0]
 obtain ⟨hok,hi0,hk0,hik⟩:=ddE_zero h0
 obtain ⟨k,rfl⟩:∃ k:Nat,i=(k:Int):=⟨i.toNat,by omega⟩
 have hk:k < l.length:=by omega
 have hki:(k:Int) < (l.length:Int):=by omega
 have HSI:=qh (fun (vd vwi:Value) (w' : World) (hX:Ext w w') (h1:Clss w' 0 w'.heap.size vd (dedAt l k).dt) (h2:Wits w' 0 w'.heap.size vwi (dedAt l k).wi)=>src_in (H.out.up hX) hok hk h1 h2)
 clear hok hk0 hik
 clear h0
 have b0:=(HB.out.ext hx1).cell 0 rfl
 have b1:=(HB.out.ext hx1).cell 1 rfl
 have b2:=(HB.out.ext hx1).cell 2 rfl
 have b3:=(HB.out.ext hx1).cell 3 rfl
 have b4:=(HB.out.ext hx1).cell 4 rfl
 have b5:=(HB.out.ext hx1).cell 5 rfl
 have b6:=(HB.out.ext hx1).cell 6 rfl
 have b7:=(HB.out.ext hx1).cell 7 rfl
 have b8:=(HB.out.ext hx1).cell 8 rfl
 have b9:=(HB.out.ext hx1).cell 9 rfl
 have bg:=(HB.out.ext hx1).1
 obtain ⟨kb,ko,vd,vwi,vci,eA,_,kg,d0,d1,d2,d3,d4,d5,d6,kd,kw,kc⟩:=(Hd.out.up hx).at_ hk
 obtain ⟨Ac,cc,rfl,hcn,hcc⟩:=kc.len
 subst eA
 have Kd:=qh kd
 have Kw:=qh kw
 clear kd kw kc
 clear hx1
 have HL:=qh (show (ownL W (dedAt l k) (-1)).length ≤ 365250 from SetD.len (ownL_d (HSI.out _ _ w1 hx Kd.out Kw.out).ok (HSI.out _ _ w1 hx Kd.out Kw.out).inn (-1)).1)
 obtain ⟨X,eX⟩:∃ X,ownL W (dedAt l k) (-1)=X:=⟨_,rfl⟩
 have HX:=qh eX
 rw [eX] at HL
 clear eX
 by_cases hl:X.length ≤ 300
 ·have Hl:=qh (lim_is hl)
  go_wp2_with fail
  go_region_held3 (fun w' => w'.cell? ⟨w.heap.size,0,none⟩=some (vr)∧w'.cell? ⟨w.heap.size,1,none⟩=some (.int .i64 W.ch.fr)∧w'.cell? ⟨w.heap.size,2,none⟩=some (.int .i64 W.ch.to)∧w'.cell? ⟨w.heap.size,3,none⟩=some (vp)∧w'.cell? ⟨w.heap.size,4,none⟩=some (vt)∧w'.cell? ⟨w.heap.size,5,none⟩=some (vl)∧w'.cell? ⟨w.heap.size,6,none⟩=some (vw)∧w'.cell? ⟨w.heap.size,7,none⟩=some (vs)∧w'.cell? ⟨w.heap.size,8,none⟩=some (vse)∧w'.cell? ⟨w.heap.size,9,none⟩=some (vha)∧w'.cell? ⟨kb,ko+k * 7,none⟩=some (.string (dedAt l k).nm)∧w'.cell? ⟨kb,ko+k * 7+1,none⟩=some (vd)∧w'.cell? ⟨kb,ko+k * 7+2,none⟩=some (vwi)∧w'.cell? ⟨kb,ko+k * 7+3,none⟩=some (.string (dedAt l k).pl)∧w'.cell? ⟨kb,ko+k * 7+4,none⟩=some (.string (dedAt l k).se)∧w'.cell? ⟨kb,ko+k * 7+5,none⟩=some (.string (dedAt l k).ha)∧w'.cell? ⟨kb,ko+k * 7+6,none⟩=some (.slice Ac (dedAt l k).ci.length cc)∧Ext w1 w')
   (exact Ext.and_cell bg b0 exts (Ext.and_cell bg b1 exts (Ext.and_cell bg b2 exts (Ext.and_cell bg b3 exts (Ext.and_cell bg b4 exts (Ext.and_cell bg b5 exts (Ext.and_cell bg b6 exts (Ext.and_cell bg b7 exts (Ext.and_cell bg b8 exts (Ext.and_cell bg b9 exts (Ext.and_cell kg d0 exts (Ext.and_cell kg d1 exts (Ext.and_cell kg d2 exts (Ext.and_cell kg d3 exts (Ext.and_cell kg d4 exts (Ext.and_cell kg d5 exts (Ext.and_cell kg d6 exts exts)))))))))))))))))
   (first
    | (go_at_call 74;refine Calls.mono (spec_l17Own vr vp vt vl vw vs vse vha _ _ _ W l (dedAt l k) (-1) _ ((HSI.out _ _ w1 hx Kd.out Kw.out).up exts)) ?_;rintro e wa ⟨ua,rfl,hxa,hoa⟩;rw [HX.out] at hoa;obtain ⟨Aa,ca,rfl⟩:=ownsRow_len hoa;have Hoa:=qh hoa;clear hoa)
    | (go_at_call 43;refine Calls.mono (spec_lim_yes _ _ _ _ hl) ?_;rintro e wb ⟨rfl,hxb⟩))
  have hE:Ext w1 wb:=exts
  have hN:=(show Ext w1 wa from exts).size
  have hz:=hx.size
  clear b0 b1 b2 b3 b4 b5 b6 b7 b8 b9 bg
  clear d0 d1 d2 d3 d4 d5 d6
  go_wp2_with fail
  go_ret2
  rw [Hv.out.1,Hv.out.2,Int.toNat_natCast,HX.out,Hl.out.1,Hl.out.2]
  exact NewSpsD.of (hx.trans hE) (ownsRow_mono (row_ext Hoa.out hxb) (Nat.le_trans hz (show Ext w1 _ from exts).size))
 ·have Hl:=qh (lim_not hl)
  go_wp2_with fail
  go_region_held3 (fun w' => w'.cell? ⟨w.heap.size,0,none⟩=some (vr)∧w'.cell? ⟨w.heap.size,1,none⟩=some (.int .i64 W.ch.fr)∧w'.cell? ⟨w.heap.size,2,none⟩=some (.int .i64 W.ch.to)∧w'.cell? ⟨w.heap.size,3,none⟩=some (vp)∧w'.cell? ⟨w.heap.size,4,none⟩=some (vt)∧w'.cell? ⟨w.heap.size,5,none⟩=some (vl)∧w'.cell? ⟨w.heap.size,6,none⟩=some (vw)∧w'.cell? ⟨w.heap.size,7,none⟩=some (vs)∧w'.cell? ⟨w.heap.size,8,none⟩=some (vse)∧w'.cell? ⟨w.heap.size,9,none⟩=some (vha)∧w'.cell? ⟨kb,ko+k * 7,none⟩=some (.string (dedAt l k).nm)∧w'.cell? ⟨kb,ko+k * 7+1,none⟩=some (vd)∧w'.cell? ⟨kb,ko+k * 7+2,none⟩=some (vwi)∧w'.cell? ⟨kb,ko+k * 7+3,none⟩=some (.string (dedAt l k).pl)∧w'.cell? ⟨kb,ko+k * 7+4,none⟩=some (.string (dedAt l k).se)∧w'.cell? ⟨kb,ko+k * 7+5,none⟩=some (.string (dedAt l k).ha)∧w'.cell? ⟨kb,ko+k * 7+6,none⟩=some (.slice Ac (dedAt l k).ci.length cc)∧Ext w1 w')
   (exact Ext.and_cell bg b0 exts (Ext.and_cell bg b1 exts (Ext.and_cell bg b2 exts (Ext.and_cell bg b3 exts (Ext.and_cell bg b4 exts (Ext.and_cell bg b5 exts (Ext.and_cell bg b6 exts (Ext.and_cell bg b7 exts (Ext.and_cell bg b8 exts (Ext.and_cell bg b9 exts (Ext.and_cell kg d0 exts (Ext.and_cell kg d1 exts (Ext.and_cell kg d2 exts (Ext.and_cell kg d3 exts (Ext.and_cell kg d4 exts (Ext.and_cell kg d5 exts (Ext.and_cell kg d6 exts exts)))))))))))))))))
   (first
    | (go_at_call 74;refine Calls.mono (spec_l17Own vr vp vt vl vw vs vse vha _ _ _ W l (dedAt l k) (-1) _ ((HSI.out _ _ w1 hx Kd.out Kw.out).up exts)) ?_;rintro e wa ⟨ua,rfl,hxa,hoa⟩;rw [HX.out] at hoa;obtain ⟨Aa,ca,rfl⟩:=ownsRow_len hoa;have Hoa:=qh hoa;clear hoa)
    | (go_at_call 43;refine Calls.mono (spec_lim_no _ _ _ _ (by have:=HL.out;omega) hl) ?_;rintro e wb ⟨rfl,hxb⟩))
  have hE:Ext w1 wb:=exts
  have hN:=(show Ext w1 wa from exts).size
  have hz:=hx.size
  clear b0 b1 b2 b3 b4 b5 b6 b7 b8 b9 bg
  clear d0 d1 d2 d3 d4 d5 d6
  go_wp2_with fail
  go_ret2
  rw [Hv.out.1,Hv.out.2,Int.toNat_natCast,HX.out,Hl.out.1,Hl.out.2]
  exact NewSpsD.nil _ (hx.trans hE)
end Go.Proofs.YtechbeegbhlppaaGreatDoor
namespace Go.Proofs.YtechbeegbhlppaaGreatDoor
set_option linter.unusedVariables false
set_option linter.unusedSimpArgs false
theorem lmL_small (l:List Sp):(lmL l).length ≤ 1048576:=by
 unfold lmL
 split
 ·omega
 ·simp
theorem sdL_small (W:Wrl) (l:List Ded) (i s:Int):(sdL W l i s).length ≤ 1048576:=by
 unfold sdL
 split
 ·exact lmL_small _
 ·simp
theorem odL_small (W:Wrl) (l:List Ded) (i:Int):(odL W l i).length ≤ 1048576:=by
 unfold odL
 split
 ·exact lmL_small _
 ·simp
theorem saL_small (W:Wrl) (l:List Ded) (i n:Int):(saL W l i n).length ≤ 1048576:=by
 unfold saL
 split
 ·have:=saTo_len W (dedAt l i.toNat) n 5;omega
 ·simp
theorem usL_small (W:Wrl) (l:List Ded) (i:Int):(usL W l i).length ≤ 1048576:=by
 unfold usL
 split
 ·have:=usTo_len W (dedAt l i.toNat) 5;omega
 ·simp
end Go.Proofs.YtechbeegbhlppaaGreatDoor
