/- Texts merged (a claim holds at most sixty files): Wm, Wn, Wo, Wt, Wu. -/
import Derived.Test.YtechbeegbhlppaaGreatDoorS2Wj
import Derived.Test.YtechbeegbhlppaaGreatDoorS2Wg
import Derived.Test.YtechbeegbhlppaaGreatDoorS2Vv
import Derived.Test.YtechbeegbhlppaaGreatDoorS2Jg
import Derived.Test.YtechbeegbhlppaaGreatDoorS2Mt
import Derived.Test.YtechbeegbhlppaaGreatDoorS2Qi
import Derived.Deep.RegionHeld3
import Derived.Test.YtechbeegbhlppaaGreatDoorS2Sg
import Derived.Test.YtechbeegbhlppaaGreatDoorS2A
import Derived.Deep.RegionLaw
import Derived.Deep.DeepCutAuto
namespace Go.Proofs.YtechbeegbhlppaaGreatDoor
set_option linter.unusedVariables false
set_option linter.unusedSimpArgs false
open Go.RowKit
attribute [local go_sem] cell_onto
set_option maxRecDepth 100000 in
set_option maxHeartbeats 8000000 in
theorem impl_src_0 (vr vp vt vl vw vs vse vha vd vwi vci:Value) (W:Wrl) (ds:List Ded) (d:Ded) (w:World) (h:SrcIn w vr vp vt vl vw vs vse vha vd vwi W ds d) :
  Calls Tryz.prog 54 #[.agg #[vr,.int .i64 W.ch.fr,.int .i64 W.ch.to,vp,vt,vl,vw,vs,vse,vha],.agg #[.string d.nm,vd,vwi,.string d.pl,.string d.se,.string d.ha,vci],.int .i64 0] w (NewOwn 111 2 (srcL W d 0).length (spanCell (srcL W d 0)) w):=by
 obtain ⟨⟨Hrg,Hps,Htm,Hpl,Hwy,Hst,Hse,Hha⟩,hok,hdt,hwi,hin⟩:=h
 obtain ⟨Avr,cvr,rfl,nvr,kvr⟩:=Hrg.len
 obtain ⟨Avl,cvl,rfl,nvl,kvl⟩:=Hpl.len
 have H:=qh (show SrcIn w (.slice Avr W.ch.rg.length cvr) vp vt (.slice Avl W.ld.pl.length cvl) vw vs vse vha vd vwi W ds d from ⟨⟨Hrg,Hps,Htm,Hpl,Hwy,Hst,Hse,Hha⟩,hok,hdt,hwi,hin⟩)
 clear Hrg Hps Htm Hpl Hwy Hst Hse Hha hok hdt hwi hin
 have Hch:=qh (chS_d H.out.ok)
 have HB1:=qh (Boxed.new w [.slice Avr W.ch.rg.length cvr,.int .i64 W.ch.fr,.int .i64 W.ch.to,vp,vt,.slice Avl W.ld.pl.length cvl,vw,vs,vse,vha] 56)
 have HB2:=qh (Boxed.new (w.alloc (.cells #[.slice Avr W.ch.rg.length cvr,.int .i64 W.ch.fr,.int .i64 W.ch.to,vp,vt,.slice Avl W.ld.pl.length cvl,vw,vs,vse,vha] 56)) [.string d.nm,vd,vwi,.string d.pl,.string d.se,.string d.ha,vci] 101)
 have Hsrc:=qh (srcL_0 W d)
 rw [Hsrc.out]
 go_enter Tryz.func54,Tryz.ntmps54
 go_upto_region 2 with fail
 obtain ⟨wx,hwx⟩:∃ y,y=(((w.alloc (.cells #[.slice Avr W.ch.rg.length cvr,.int .i64 W.ch.fr,.int .i64 W.ch.to,vp,vt,.slice Avl W.ld.pl.length cvl,vw,vs,vse,vha] 56)).alloc (.cells #[.string d.nm,vd,vwi,.string d.pl,.string d.se,.string d.ha,vci] 101)).alloc (.cells #[.int .i64 W.ch.fr,.int .i64 W.ch.to] 111)):=⟨_,rfl⟩
 have HX:=qh (show Ext w wx from by rw [hwx];exact (((Ext.refl _).alloc _).alloc _).alloc _)
 have B1:=qh (show Boxed wx w.heap.size [.slice Avr W.ch.rg.length cvr,.int .i64 W.ch.fr,.int .i64 W.ch.to,vp,vt,.slice Avl W.ld.pl.length cvl,vw,vs,vse,vha] from by rw [hwx];exact (HB1.out.ext ((Ext.refl _).alloc _)).ext ((Ext.refl _).alloc _))
 have B2:=qh (show Boxed wx (w.heap.size+1) [.string d.nm,vd,vwi,.string d.pl,.string d.se,.string d.ha,vci] from by rw [hwx];have h:=HB2.out.ext ((Ext.refl _).alloc (.cells #[.int .i64 W.ch.fr,.int .i64 W.ch.to] 111));rw [World.size_alloc] at h;exact h)
 have Hr:=qh (show RowSp wx w.heap.size 111 (.slice (some ⟨w.heap.size+1+1,0,none⟩) 1 1) (chS W) from by rw [hwx];have h:=rowSp1 ((w.alloc (.cells #[.slice Avr W.ch.rg.length cvr,.int .i64 W.ch.fr,.int .i64 W.ch.to,vp,vt,.slice Avl W.ld.pl.length cvl,vw,vs,vse,vha] 56)).alloc (.cells #[.string d.nm,vd,vwi,.string d.pl,.string d.se,.string d.ha,vci] 101)) 111 W.ch.fr W.ch.to;simp only [World.size_alloc] at h;exact ownsRow_mono h (by omega))
 rw [← hwx]
 clear hwx HB1 HB2
 have b0:=B1.out.cell 0 rfl
 have b1:=B1.out.cell 1 rfl
 have b2:=B1.out.cell 2 rfl
 have b3:=B1.out.cell 3 rfl
 have b4:=B1.out.cell 4 rfl
 have b5:=B1.out.cell 5 rfl
 have b6:=B1.out.cell 6 rfl
 have b7:=B1.out.cell 7 rfl
 have b8:=B1.out.cell 8 rfl
 have b9:=B1.out.cell 9 rfl
 have bg:=B1.out.1
 have e0:=B2.out.cell 0 rfl
 have e1:=B2.out.cell 1 rfl
 have e2:=B2.out.cell 2 rfl
 have e3:=B2.out.cell 3 rfl
 have e4:=B2.out.cell 4 rfl
 have e5:=B2.out.cell 5 rfl
 have e6:=B2.out.cell 6 rfl
 have eg:=B2.out.1
 go_wp2_with fail
 refine Calls.mono (impl_fittingDays _ _ W.ch.rg d.dt W.ch.fr W.ch.to H.out.inn.2.1.2 H.out.ok.1.2.1.1 H.out.ok.1.2.2.1.2 H.out.ok.1.2.2.2.1 _ (H.out.at_.rg.up HX.out) (H.out.dt.up HX.out) (rg_days H.out.ok)) ?_
 rintro e wb ⟨ub,rfl,hxb,hob⟩
 obtain ⟨Ab,cb,rfl⟩:=ownsRow_len hob
 have Hob:=qh hob
 clear hob
 clear b0 b1 b2 b3 b4 b5 b6 b7 b8 b9 bg e0 e1 e2 e3 e4 e5 e6 eg
 go_wp2_with fail
 go_ret
 exact ⟨_,rfl,HX.out.trans hxb,ownsRow_mono Hob.out HX.out.size⟩
set_option maxRecDepth 100000 in
set_option maxHeartbeats 8000000 in
theorem impl_src_1 (vr vp vt vl vw vs vse vha vd vwi vci:Value) (W:Wrl) (ds:List Ded) (d:Ded) (w:World) (h:SrcIn w vr vp vt vl vw vs vse vha vd vwi W ds d) :
  Calls Tryz.prog 54 #[.agg #[vr,.int .i64 W.ch.fr,.int .i64 W.ch.to,vp,vt,vl,vw,vs,vse,vha],.agg #[.string d.nm,vd,vwi,.string d.pl,.string d.se,.string d.ha,vci],.int .i64 1] w (NewOwn 111 2 (srcL W d 1).length (spanCell (srcL W d 1)) w):=by
 obtain ⟨⟨Hrg,Hps,Htm,Hpl,Hwy,Hst,Hse,Hha⟩,hok,hdt,hwi,hin⟩:=h
 obtain ⟨Avr,cvr,rfl,nvr,kvr⟩:=Hrg.len
 obtain ⟨Avl,cvl,rfl,nvl,kvl⟩:=Hpl.len
 have H:=qh (show SrcIn w (.slice Avr W.ch.rg.length cvr) vp vt (.slice Avl W.ld.pl.length cvl) vw vs vse vha vd vwi W ds d from ⟨⟨Hrg,Hps,Htm,Hpl,Hwy,Hst,Hse,Hha⟩,hok,hdt,hwi,hin⟩)
 clear Hrg Hps Htm Hpl Hwy Hst Hse Hha hok hdt hwi hin
 have Hch:=qh (chS_d H.out.ok)
 have HB1:=qh (Boxed.new w [.slice Avr W.ch.rg.length cvr,.int .i64 W.ch.fr,.int .i64 W.ch.to,vp,vt,.slice Avl W.ld.pl.length cvl,vw,vs,vse,vha] 56)
 have HB2:=qh (Boxed.new (w.alloc (.cells #[.slice Avr W.ch.rg.length cvr,.int .i64 W.ch.fr,.int .i64 W.ch.to,vp,vt,.slice Avl W.ld.pl.length cvl,vw,vs,vse,vha] 56)) [.string d.nm,vd,vwi,.string d.pl,.string d.se,.string d.ha,vci] 101)
 obtain ⟨Awi,cwi,rfl,nwi,kwi⟩:=H.out.wi.len
 obtain ⟨f,ef⟩:∃ f:Nat → List Sp,(fun k=>wdL W.pp (witAt d.wi k))=f:=⟨_,rfl⟩
 have HF:=qh (show ∀ k,wdL W.pp (witAt d.wi k)=f k from fun k=>congrFun ef k)
 have Hsrc:=qh (show srcL W d 1=mtTo (chS W) f (fun _=>True) d.wi.length from by rw [← ef];exact srcL_1 W d)
 have HFD:=qh (fun k (hk:k < d.wi.length)=>show SetD (f k) from by rw [← HF.out];exact wdL_d H.out.ok.2.1 (H.out.inn.2.2.1.2 k hk))
 have HD:=qh (fun k (hk:k ≤ d.wi.length)=>(mtTo_ok (f:=f) (p:=fun _=>True) Hch.out k (fun i hi _=>HFD.out i (by omega))).1)
 have hl12:=H.out.inn.2.2.1.1
 rw [Hsrc.out]
 clear ef
 go_enter Tryz.func54,Tryz.ntmps54
 go_upto_region 2 with fail
 obtain ⟨wx,hwx⟩:∃ y,y=(((w.alloc (.cells #[.slice Avr W.ch.rg.length cvr,.int .i64 W.ch.fr,.int .i64 W.ch.to,vp,vt,.slice Avl W.ld.pl.length cvl,vw,vs,vse,vha] 56)).alloc (.cells #[.string d.nm,vd,.slice Awi d.wi.length cwi,.string d.pl,.string d.se,.string d.ha,vci] 101)).alloc (.cells #[.int .i64 W.ch.fr,.int .i64 W.ch.to] 111)):=⟨_,rfl⟩
 have HX:=qh (show Ext w wx from by rw [hwx];exact (((Ext.refl _).alloc _).alloc _).alloc _)
 have B1:=qh (show Boxed wx w.heap.size [.slice Avr W.ch.rg.length cvr,.int .i64 W.ch.fr,.int .i64 W.ch.to,vp,vt,.slice Avl W.ld.pl.length cvl,vw,vs,vse,vha] from by rw [hwx];exact (HB1.out.ext ((Ext.refl _).alloc _)).ext ((Ext.refl _).alloc _))
 have B2:=qh (show Boxed wx (w.heap.size+1) [.string d.nm,vd,.slice Awi d.wi.length cwi,.string d.pl,.string d.se,.string d.ha,vci] from by rw [hwx];have h:=HB2.out.ext ((Ext.refl _).alloc (.cells #[.int .i64 W.ch.fr,.int .i64 W.ch.to] 111));rw [World.size_alloc] at h;exact h)
 have Hr:=qh (show RowSp wx w.heap.size 111 (.slice (some ⟨w.heap.size+1+1,0,none⟩) 1 1) (chS W) from by rw [hwx];have h:=rowSp1 ((w.alloc (.cells #[.slice Avr W.ch.rg.length cvr,.int .i64 W.ch.fr,.int .i64 W.ch.to,vp,vt,.slice Avl W.ld.pl.length cvl,vw,vs,vse,vha] 56)).alloc (.cells #[.string d.nm,vd,.slice Awi d.wi.length cwi,.string d.pl,.string d.se,.string d.ha,vci] 101)) 111 W.ch.fr W.ch.to;simp only [World.size_alloc] at h;exact ownsRow_mono h (by omega))
 rw [← hwx]
 clear hwx HB1 HB2
 have b0:=B1.out.cell 0 rfl
 have b1:=B1.out.cell 1 rfl
 have b2:=B1.out.cell 2 rfl
 have b3:=B1.out.cell 3 rfl
 have b4:=B1.out.cell 4 rfl
 have b5:=B1.out.cell 5 rfl
 have b6:=B1.out.cell 6 rfl
 have b7:=B1.out.cell 7 rfl
 have b8:=B1.out.cell 8 rfl
 have b9:=B1.out.cell 9 rfl
 have bg:=B1.out.1
 have e0:=B2.out.cell 0 rfl
 have e1:=B2.out.cell 1 rfl
 have e2:=B2.out.cell 2 rfl
 have e3:=B2.out.cell 3 rfl
 have e4:=B2.out.cell 4 rfl
 have e5:=B2.out.cell 5 rfl
 have e6:=B2.out.cell 6 rfl
 have eg:=B2.out.1
 go_wp2_with fail
 go_loopg [7,9,10,11,34] d.wi.length (fun q u7 u9 u10 u11 i wr=>∃ j:Nat,j+q=d.wi.length∧i=.int .i64 j∧Hid (Ext wx wr)∧Hid (RowSp wr w.heap.size 111 u7 (mtTo (chS W) f (fun _=>True) j)))
 case atStart=>exact ⟨0,by omega,rfl,qh (Ext.refl _),Hr⟩
 clear b0 b1 b2 b3 b4 b5 b6 b7 b8 b9 bg e0 e1 e2 e3 e4 e5 e6 eg
 clear Hr
 case round =>
  obtain ⟨j,hj,rfl,Hxr,Hr⟩:=hrel
  have HXr:=qh (HX.out.trans Hxr.out)
  have b3:=(B1.out.ext Hxr.out).cell 3 rfl
  have b4:=(B1.out.ext Hxr.out).cell 4 rfl
  have bg:=(B1.out.ext Hxr.out).1
  by_cases hlt:j < d.wi.length
  ·obtain ⟨b,off,rfl,_,hb,h1,h2⟩:=(H.out.wi.ext HXr.out (Nat.le_refl _)).at_ hlt
   have hbr:b < wr.heap.size:=Nat.lt_of_lt_of_le hb HXr.out.size
   have hji:(j:Int) < (d.wi.length:Int):=by omega
   have Hm:=qh (mtTo_yes (s:=chS W) (f:=f) (p:=fun _=>True) (k:=j) trivial)
   go_wp2_with fail
   refine Calls.mono (impl_witnessDays _ _ W.pp (witAt d.wi j) _ (H.out.at_.ps.up (HXr.out.trans exts)) (H.out.at_.tm.up (HXr.out.trans exts)) H.out.ok.2.1 (H.out.inn.2.2.1.2 j hlt)) ?_
   rintro e wa ⟨ua,rfl,hxa,hoa⟩
   have Hoa:=qh (show RowSp wa _ 111 ua (f j) from by rw [← HF.out];exact hoa)
   have Hxa:=qh (show Ext wr wa from exts)
   clear hoa hxa h1 h2 b3 b4 bg
   go_wp2_with fail
   refine Calls.mono (impl_met _ _ (mtTo (chS W) f (fun _=>True) j) (f j) _ (Hr.out.read.up (Hxa.out.trans exts)) (Hoa.out.read.up exts) (setd_len (HD.out j (by omega)) (HFD.out j hlt)) (HD.out j (by omega)).bd (HFD.out j hlt).bd) ?_
   rintro e wb ⟨ub,rfl,hxb,hob⟩
   have Hob:=qh (show RowSp wb _ 111 ub (mtTo (chS W) f (fun _=>True) (j+1)) from by rw [Hm.out];exact hob)
   have Hn:=qh (show w.heap.size ≤ wa.heap.size from Nat.le_trans HXr.out.size Hxa.out.size)
   clear hob
   go_wp2_with fail
   go_roundg (d.wi.length - (j+1))
   case measure=>omega
   case rel=>exact ⟨j+1,by omega,by go_num,qh (Hxr.out.trans (Hxa.out.trans hxb)),qh (ownsRow_mono Hob.out Hn.out)⟩
  ·obtain rfl:j=d.wi.length:=by omega
   obtain ⟨A7,c7,rfl⟩:=ownsRow_len Hr.out
   clear b3 b4 bg
   go_wp2_with fail
   go_ret
   exact ⟨_,rfl,HXr.out,Hr.out⟩
set_option maxRecDepth 100000 in
set_option maxHeartbeats 8000000 in
theorem impl_src_2 (vr vp vt vl vw vs vse vha vd vwi vci:Value) (W:Wrl) (ds:List Ded) (d:Ded) (w:World) (h:SrcIn w vr vp vt vl vw vs vse vha vd vwi W ds d) (he:d.pl ≠ ⟨#[]⟩) :
  Calls Tryz.prog 54 #[.agg #[vr,.int .i64 W.ch.fr,.int .i64 W.ch.to,vp,vt,vl,vw,vs,vse,vha],.agg #[.string d.nm,vd,vwi,.string d.pl,.string d.se,.string d.ha,vci],.int .i64 2] w (NewOwn 111 2 (srcL W d 2).length (spanCell (srcL W d 2)) w):=by
 obtain ⟨⟨Hrg,Hps,Htm,Hpl,Hwy,Hst,Hse,Hha⟩,hok,hdt,hwi,hin⟩:=h
 obtain ⟨Avr,cvr,rfl,nvr,kvr⟩:=Hrg.len
 obtain ⟨Avl,cvl,rfl,nvl,kvl⟩:=Hpl.len
 have H:=qh (show SrcIn w (.slice Avr W.ch.rg.length cvr) vp vt (.slice Avl W.ld.pl.length cvl) vw vs vse vha vd vwi W ds d from ⟨⟨Hrg,Hps,Htm,Hpl,Hwy,Hst,Hse,Hha⟩,hok,hdt,hwi,hin⟩)
 clear Hrg Hps Htm Hpl Hwy Hst Hse Hha hok hdt hwi hin
 have Hch:=qh (chS_d H.out.ok)
 have HB1:=qh (Boxed.new w [.slice Avr W.ch.rg.length cvr,.int .i64 W.ch.fr,.int .i64 W.ch.to,vp,vt,.slice Avl W.ld.pl.length cvl,vw,vs,vse,vha] 56)
 have HB2:=qh (Boxed.new (w.alloc (.cells #[.slice Avr W.ch.rg.length cvr,.int .i64 W.ch.fr,.int .i64 W.ch.to,vp,vt,.slice Avl W.ld.pl.length cvl,vw,vs,vse,vha] 56)) [.string d.nm,vd,vwi,.string d.pl,.string d.se,.string d.ha,vci] 101)
 have E1:=nil_no he
 have E2:=str_ne he
 have Hsrc:=qh (srcL_2 (W:=W) he)
 have Htr:=qh (pl_tr H.out.ok H.out.inn he)
 have Hset:=qh (mkL_d (cdL_ok Htr.out.2 (placeOf W d) H.out.ok.2.2.1.2.1).2)
 rw [Hsrc.out]
 clear he
 go_enter Tryz.func54,Tryz.ntmps54
 go_upto_region 2 with fail
 obtain ⟨wx,hwx⟩:∃ y,y=(((w.alloc (.cells #[.slice Avr W.ch.rg.length cvr,.int .i64 W.ch.fr,.int .i64 W.ch.to,vp,vt,.slice Avl W.ld.pl.length cvl,vw,vs,vse,vha] 56)).alloc (.cells #[.string d.nm,vd,vwi,.string d.pl,.string d.se,.string d.ha,vci] 101)).alloc (.cells #[.int .i64 W.ch.fr,.int .i64 W.ch.to] 111)):=⟨_,rfl⟩
 have HX:=qh (show Ext w wx from by rw [hwx];exact (((Ext.refl _).alloc _).alloc _).alloc _)
 have B1:=qh (show Boxed wx w.heap.size [.slice Avr W.ch.rg.length cvr,.int .i64 W.ch.fr,.int .i64 W.ch.to,vp,vt,.slice Avl W.ld.pl.length cvl,vw,vs,vse,vha] from by rw [hwx];exact (HB1.out.ext ((Ext.refl _).alloc _)).ext ((Ext.refl _).alloc _))
 have B2:=qh (show Boxed wx (w.heap.size+1) [.string d.nm,vd,vwi,.string d.pl,.string d.se,.string d.ha,vci] from by rw [hwx];have h:=HB2.out.ext ((Ext.refl _).alloc (.cells #[.int .i64 W.ch.fr,.int .i64 W.ch.to] 111));rw [World.size_alloc] at h;exact h)
 have Hr:=qh (show RowSp wx w.heap.size 111 (.slice (some ⟨w.heap.size+1+1,0,none⟩) 1 1) (chS W) from by rw [hwx];have h:=rowSp1 ((w.alloc (.cells #[.slice Avr W.ch.rg.length cvr,.int .i64 W.ch.fr,.int .i64 W.ch.to,vp,vt,.slice Avl W.ld.pl.length cvl,vw,vs,vse,vha] 56)).alloc (.cells #[.string d.nm,vd,vwi,.string d.pl,.string d.se,.string d.ha,vci] 101)) 111 W.ch.fr W.ch.to;simp only [World.size_alloc] at h;exact ownsRow_mono h (by omega))
 rw [← hwx]
 clear hwx HB1 HB2
 have b0:=B1.out.cell 0 rfl
 have b1:=B1.out.cell 1 rfl
 have b2:=B1.out.cell 2 rfl
 have b3:=B1.out.cell 3 rfl
 have b4:=B1.out.cell 4 rfl
 have b5:=B1.out.cell 5 rfl
 have b6:=B1.out.cell 6 rfl
 have b7:=B1.out.cell 7 rfl
 have b8:=B1.out.cell 8 rfl
 have b9:=B1.out.cell 9 rfl
 have bg:=B1.out.1
 have e0:=B2.out.cell 0 rfl
 have e1:=B2.out.cell 1 rfl
 have e2:=B2.out.cell 2 rfl
 have e3:=B2.out.cell 3 rfl
 have e4:=B2.out.cell 4 rfl
 have e5:=B2.out.cell 5 rfl
 have e6:=B2.out.cell 6 rfl
 have eg:=B2.out.1
 go_wp2_with fail
 refine Calls.mono (slices_Index_strs _ W.ld.pl d.pl _ (H.out.at_.pl.up HX.out)) ?_
 rintro e w1 ⟨rfl,hx1⟩
 clear b0 b1 b2 b3 b4 b5 b6 b7 b8 b9 bg e0 e1 e2 e3 e4 e5 e6 eg
 have tmp:=qh (HX.out.trans hx1)
 clear HX
 have HX:=tmp
 clear tmp
 have tmp:=qh (Hr.out.ext hx1)
 clear Hr
 have Hr:=tmp
 clear tmp
 have tmp:=qh (B1.out.ext hx1)
 clear B1
 have B1:=tmp
 clear tmp
 have tmp:=qh (B2.out.ext hx1)
 clear B2
 have B2:=tmp
 clear tmp hx1
 have b0:=B1.out.cell 0 rfl
 have b1:=B1.out.cell 1 rfl
 have b2:=B1.out.cell 2 rfl
 have b3:=B1.out.cell 3 rfl
 have b4:=B1.out.cell 4 rfl
 have b5:=B1.out.cell 5 rfl
 have b6:=B1.out.cell 6 rfl
 have b7:=B1.out.cell 7 rfl
 have b8:=B1.out.cell 8 rfl
 have b9:=B1.out.cell 9 rfl
 have bg:=B1.out.1
 have e0:=B2.out.cell 0 rfl
 have e1:=B2.out.cell 1 rfl
 have e2:=B2.out.cell 2 rfl
 have e3:=B2.out.cell 3 rfl
 have e4:=B2.out.cell 4 rfl
 have e5:=B2.out.cell 5 rfl
 have e6:=B2.out.cell 6 rfl
 have eg:=B2.out.1
 go_wp2_with fail
 go_region_held3 (fun w' => w'.cell? ⟨w.heap.size,5,none⟩=some (.slice Avl W.ld.pl.length cvl)∧w'.cell? ⟨w.heap.size,6,none⟩=some (vw)∧w'.cell? ⟨w.heap.size,7,none⟩=some (vs)∧w'.cell? ⟨w.heap.size+1,3,none⟩=some (.string d.pl)∧Ext w1 w')
  (exact Ext.and_cell bg b5 exts (Ext.and_cell bg b6 exts (Ext.and_cell bg b7 exts (Ext.and_cell eg e3 exts exts))))
  (first
   | (go_at_call 119;refine Calls.mono (impl_travels _ _ W.ld _ (H.out.at_.pl.up (HX.out.trans exts)) (H.out.at_.wy.up (HX.out.trans exts)) H.out.ok.2.2.1.1) ?_;rintro e wm ⟨mb,mo,mc,mgs,mos,mcs,rfl,hxm,hmm⟩;have Hmm:=qh hmm;clear hmm)
   | (go_at_call 118;refine Calls.mono (impl_couldBeDays _ W.st (placeOf W d) W.ld.pl.length _ _ _ _ _ _ _ (trvM W.ld.pl.length W.ld.wy) _ (Hmm.out.ext exts) H.out.ok.2.2.1.1.1.2 (H.out.at_.st.up (HX.out.trans exts)) H.out.ok.2.2.1.2.1 Htr.out.1.1 Htr.out.1.2 Htr.out.2) ?_;rintro e wa ⟨ua,rfl,hxa,hoa⟩;have Hoa:=qh (show RowSp wa _ 111 ua (mkL (cdL (plD W d) W.st (placeOf W d))) from hoa);clear hoa)
   | (go_at_call 116;refine Calls.mono (impl_met _ _ (chS W) (mkL (cdL (plD W d) W.st (placeOf W d))) _ (Hr.out.read.up exts) (Hoa.out.read.up exts) (setd_len Hch.out Hset.out) Hch.out.bd Hset.out.bd) ?_;rintro e wb ⟨ub,rfl,hxb,hob⟩;obtain ⟨Ab,cb,rfl⟩:=ownsRow_len hob;have Hob:=qh hob;clear hob))
 have hE:Ext w1 wb:=exts
 have hN:=(show Ext w1 wa from exts).size
 have hz:=HX.out.size
 clear b0 b1 b2 b3 b4 b5 b6 b7 b8 b9 bg e0 e1 e2 e3 e4 e5 e6 eg
 go_wp2_with fail
 go_ret
 exact ⟨_,rfl,HX.out.trans hE,ownsRow_mono Hob.out (by omega)⟩
set_option maxRecDepth 100000 in
set_option maxHeartbeats 8000000 in
theorem impl_src_3 (vr vp vt vl vw vs vse vha vd vwi vci:Value) (W:Wrl) (ds:List Ded) (d:Ded) (w:World) (h:SrcIn w vr vp vt vl vw vs vse vha vd vwi W ds d) (he:d.se ≠ ⟨#[]⟩) :
  Calls Tryz.prog 54 #[.agg #[vr,.int .i64 W.ch.fr,.int .i64 W.ch.to,vp,vt,vl,vw,vs,vse,vha],.agg #[.string d.nm,vd,vwi,.string d.pl,.string d.se,.string d.ha,vci],.int .i64 3] w (NewOwn 111 2 (srcL W d 3).length (spanCell (srcL W d 3)) w):=by
 obtain ⟨⟨Hrg,Hps,Htm,Hpl,Hwy,Hst,Hse,Hha⟩,hok,hdt,hwi,hin⟩:=h
 obtain ⟨Avr,cvr,rfl,nvr,kvr⟩:=Hrg.len
 obtain ⟨Avl,cvl,rfl,nvl,kvl⟩:=Hpl.len
 have H:=qh (show SrcIn w (.slice Avr W.ch.rg.length cvr) vp vt (.slice Avl W.ld.pl.length cvl) vw vs vse vha vd vwi W ds d from ⟨⟨Hrg,Hps,Htm,Hpl,Hwy,Hst,Hse,Hha⟩,hok,hdt,hwi,hin⟩)
 clear Hrg Hps Htm Hpl Hwy Hst Hse Hha hok hdt hwi hin
 have Hch:=qh (chS_d H.out.ok)
 have HB1:=qh (Boxed.new w [.slice Avr W.ch.rg.length cvr,.int .i64 W.ch.fr,.int .i64 W.ch.to,vp,vt,.slice Avl W.ld.pl.length cvl,vw,vs,vse,vha] 56)
 have HB2:=qh (Boxed.new (w.alloc (.cells #[.slice Avr W.ch.rg.length cvr,.int .i64 W.ch.fr,.int .i64 W.ch.to,vp,vt,.slice Avl W.ld.pl.length cvl,vw,vs,vse,vha] 56)) [.string d.nm,vd,vwi,.string d.pl,.string d.se,.string d.ha,vci] 101)
 have E1:=nil_no he
 have E2:=str_ne he
 have Hsrc:=qh (srcL_3 (W:=W) he)
 have Hset:=qh (mdL_d H.out.ok.2.2.2.1 d.se)
 rw [Hsrc.out]
 clear he
 go_enter Tryz.func54,Tryz.ntmps54
 go_upto_region 2 with fail
 obtain ⟨wx,hwx⟩:∃ y,y=(((w.alloc (.cells #[.slice Avr W.ch.rg.length cvr,.int .i64 W.ch.fr,.int .i64 W.ch.to,vp,vt,.slice Avl W.ld.pl.length cvl,vw,vs,vse,vha] 56)).alloc (.cells #[.string d.nm,vd,vwi,.string d.pl,.string d.se,.string d.ha,vci] 101)).alloc (.cells #[.int .i64 W.ch.fr,.int .i64 W.ch.to] 111)):=⟨_,rfl⟩
 have HX:=qh (show Ext w wx from by rw [hwx];exact (((Ext.refl _).alloc _).alloc _).alloc _)
 have B1:=qh (show Boxed wx w.heap.size [.slice Avr W.ch.rg.length cvr,.int .i64 W.ch.fr,.int .i64 W.ch.to,vp,vt,.slice Avl W.ld.pl.length cvl,vw,vs,vse,vha] from by rw [hwx];exact (HB1.out.ext ((Ext.refl _).alloc _)).ext ((Ext.refl _).alloc _))
 have B2:=qh (show Boxed wx (w.heap.size+1) [.string d.nm,vd,vwi,.string d.pl,.string d.se,.string d.ha,vci] from by rw [hwx];have h:=HB2.out.ext ((Ext.refl _).alloc (.cells #[.int .i64 W.ch.fr,.int .i64 W.ch.to] 111));rw [World.size_alloc] at h;exact h)
 have Hr:=qh (show RowSp wx w.heap.size 111 (.slice (some ⟨w.heap.size+1+1,0,none⟩) 1 1) (chS W) from by rw [hwx];have h:=rowSp1 ((w.alloc (.cells #[.slice Avr W.ch.rg.length cvr,.int .i64 W.ch.fr,.int .i64 W.ch.to,vp,vt,.slice Avl W.ld.pl.length cvl,vw,vs,vse,vha] 56)).alloc (.cells #[.string d.nm,vd,vwi,.string d.pl,.string d.se,.string d.ha,vci] 101)) 111 W.ch.fr W.ch.to;simp only [World.size_alloc] at h;exact ownsRow_mono h (by omega))
 rw [← hwx]
 clear hwx HB1 HB2
 have b0:=B1.out.cell 0 rfl
 have b1:=B1.out.cell 1 rfl
 have b2:=B1.out.cell 2 rfl
 have b3:=B1.out.cell 3 rfl
 have b4:=B1.out.cell 4 rfl
 have b5:=B1.out.cell 5 rfl
 have b6:=B1.out.cell 6 rfl
 have b7:=B1.out.cell 7 rfl
 have b8:=B1.out.cell 8 rfl
 have b9:=B1.out.cell 9 rfl
 have bg:=B1.out.1
 have e0:=B2.out.cell 0 rfl
 have e1:=B2.out.cell 1 rfl
 have e2:=B2.out.cell 2 rfl
 have e3:=B2.out.cell 3 rfl
 have e4:=B2.out.cell 4 rfl
 have e5:=B2.out.cell 5 rfl
 have e6:=B2.out.cell 6 rfl
 have eg:=B2.out.1
 go_wp2_with fail
 refine Calls.mono (impl_markDays _ W.se d.se _ (H.out.at_.se.up HX.out) H.out.ok.2.2.2.1) ?_
 rintro e wa ⟨ua,rfl,hxa,hoa⟩
 have Hoa:=qh (show RowSp wa _ 111 ua (mkL (mdL W.se d.se)) from hoa)
 clear hoa
 go_wp2_with fail
 refine Calls.mono (impl_met _ _ (chS W) (mkL (mdL W.se d.se)) _ (Hr.out.read.up hxa) Hoa.out.read (setd_len Hch.out Hset.out) Hch.out.bd Hset.out.bd) ?_
 rintro e wb ⟨ub,rfl,hxb,hob⟩
 obtain ⟨Ab,cb,rfl⟩:=ownsRow_len hob
 have Hob:=qh hob
 clear hob
 go_wp2_with fail
 go_ret
 have hE:=HX.out.trans hxa
 exact ⟨_,rfl,hE.trans hxb,ownsRow_mono Hob.out hE.size⟩
set_option maxRecDepth 100000 in
set_option maxHeartbeats 8000000 in
theorem impl_src_4 (vr vp vt vl vw vs vse vha vd vwi vci:Value) (W:Wrl) (ds:List Ded) (d:Ded) (w:World) (h:SrcIn w vr vp vt vl vw vs vse vha vd vwi W ds d) (he:d.ha ≠ ⟨#[]⟩) :
  Calls Tryz.prog 54 #[.agg #[vr,.int .i64 W.ch.fr,.int .i64 W.ch.to,vp,vt,vl,vw,vs,vse,vha],.agg #[.string d.nm,vd,vwi,.string d.pl,.string d.se,.string d.ha,vci],.int .i64 4] w (NewOwn 111 2 (srcL W d 4).length (spanCell (srcL W d 4)) w):=by
 obtain ⟨⟨Hrg,Hps,Htm,Hpl,Hwy,Hst,Hse,Hha⟩,hok,hdt,hwi,hin⟩:=h
 obtain ⟨Avr,cvr,rfl,nvr,kvr⟩:=Hrg.len
 obtain ⟨Avl,cvl,rfl,nvl,kvl⟩:=Hpl.len
 have H:=qh (show SrcIn w (.slice Avr W.ch.rg.length cvr) vp vt (.slice Avl W.ld.pl.length cvl) vw vs vse vha vd vwi W ds d from ⟨⟨Hrg,Hps,Htm,Hpl,Hwy,Hst,Hse,Hha⟩,hok,hdt,hwi,hin⟩)
 clear Hrg Hps Htm Hpl Hwy Hst Hse Hha hok hdt hwi hin
 have Hch:=qh (chS_d H.out.ok)
 have HB1:=qh (Boxed.new w [.slice Avr W.ch.rg.length cvr,.int .i64 W.ch.fr,.int .i64 W.ch.to,vp,vt,.slice Avl W.ld.pl.length cvl,vw,vs,vse,vha] 56)
 have HB2:=qh (Boxed.new (w.alloc (.cells #[.slice Avr W.ch.rg.length cvr,.int .i64 W.ch.fr,.int .i64 W.ch.to,vp,vt,.slice Avl W.ld.pl.length cvl,vw,vs,vse,vha] 56)) [.string d.nm,vd,vwi,.string d.pl,.string d.se,.string d.ha,vci] 101)
 have E1:=nil_no he
 have E2:=str_ne he
 have Hsrc:=qh (srcL_4 (W:=W) he)
 have Hset:=qh (mdL_d H.out.ok.2.2.2.2 d.ha)
 rw [Hsrc.out]
 clear he
 go_enter Tryz.func54,Tryz.ntmps54
 go_upto_region 2 with fail
 obtain ⟨wx,hwx⟩:∃ y,y=(((w.alloc (.cells #[.slice Avr W.ch.rg.length cvr,.int .i64 W.ch.fr,.int .i64 W.ch.to,vp,vt,.slice Avl W.ld.pl.length cvl,vw,vs,vse,vha] 56)).alloc (.cells #[.string d.nm,vd,vwi,.string d.pl,.string d.se,.string d.ha,vci] 101)).alloc (.cells #[.int .i64 W.ch.fr,.int .i64 W.ch.to] 111)):=⟨_,rfl⟩
 have HX:=qh (show Ext w wx from by rw [hwx];exact (((Ext.refl _).alloc _).alloc _).alloc _)
 have B1:=qh (show Boxed wx w.heap.size [.slice Avr W.ch.rg.length cvr,.int .i64 W.ch.fr,.int .i64 W.ch.to,vp,vt,.slice Avl W.ld.pl.length cvl,vw,vs,vse,vha] from by rw [hwx];exact (HB1.out.ext ((Ext.refl _).alloc _)).ext ((Ext.refl _).alloc _))
 have B2:=qh (show Boxed wx (w.heap.size+1) [.string d.nm,vd,vwi,.string d.pl,.string d.se,.string d.ha,vci] from by rw [hwx];have h:=HB2.out.ext ((Ext.refl _).alloc (.cells #[.int .i64 W.ch.fr,.int .i64 W.ch.to] 111));rw [World.size_alloc] at h;exact h)
 have Hr:=qh (show RowSp wx w.heap.size 111 (.slice (some ⟨w.heap.size+1+1,0,none⟩) 1 1) (chS W) from by rw [hwx];have h:=rowSp1 ((w.alloc (.cells #[.slice Avr W.ch.rg.length cvr,.int .i64 W.ch.fr,.int .i64 W.ch.to,vp,vt,.slice Avl W.ld.pl.length cvl,vw,vs,vse,vha] 56)).alloc (.cells #[.string d.nm,vd,vwi,.string d.pl,.string d.se,.string d.ha,vci] 101)) 111 W.ch.fr W.ch.to;simp only [World.size_alloc] at h;exact ownsRow_mono h (by omega))
 rw [← hwx]
 clear hwx HB1 HB2
 have b0:=B1.out.cell 0 rfl
 have b1:=B1.out.cell 1 rfl
 have b2:=B1.out.cell 2 rfl
 have b3:=B1.out.cell 3 rfl
 have b4:=B1.out.cell 4 rfl
 have b5:=B1.out.cell 5 rfl
 have b6:=B1.out.cell 6 rfl
 have b7:=B1.out.cell 7 rfl
 have b8:=B1.out.cell 8 rfl
 have b9:=B1.out.cell 9 rfl
 have bg:=B1.out.1
 have e0:=B2.out.cell 0 rfl
 have e1:=B2.out.cell 1 rfl
 have e2:=B2.out.cell 2 rfl
 have e3:=B2.out.cell 3 rfl
 have e4:=B2.out.cell 4 rfl
 have e5:=B2.out.cell 5 rfl
 have e6:=B2.out.cell 6 rfl
 have eg:=B2.out.1
 go_wp2_with fail
 refine Calls.mono (impl_markDays _ W.ha d.ha _ (H.out.at_.ha.up HX.out) H.out.ok.2.2.2.2) ?_
 rintro e wa ⟨ua,rfl,hxa,hoa⟩
 have Hoa:=qh (show RowSp wa _ 111 ua (mkL (mdL W.ha d.ha)) from hoa)
 clear hoa
 go_wp2_with fail
 refine Calls.mono (impl_met _ _ (chS W) (mkL (mdL W.ha d.ha)) _ (Hr.out.read.up hxa) Hoa.out.read (setd_len Hch.out Hset.out) Hch.out.bd Hset.out.bd) ?_
 rintro e wb ⟨ub,rfl,hxb,hob⟩
 obtain ⟨Ab,cb,rfl⟩:=ownsRow_len hob
 have Hob:=qh hob
 clear hob
 go_wp2_with fail
 go_ret
 have hE:=HX.out.trans hxa
 exact ⟨_,rfl,hE.trans hxb,ownsRow_mono Hob.out hE.size⟩
set_option maxRecDepth 100000 in
set_option maxHeartbeats 8000000 in
theorem impl_src_2n (vr vp vt vl vw vs vse vha vd vwi vci:Value) (W:Wrl) (ds:List Ded) (d:Ded) (w:World) (h:SrcIn w vr vp vt vl vw vs vse vha vd vwi W ds d) (he:d.pl=⟨#[]⟩) :
  Calls Tryz.prog 54 #[.agg #[vr,.int .i64 W.ch.fr,.int .i64 W.ch.to,vp,vt,vl,vw,vs,vse,vha],.agg #[.string d.nm,vd,vwi,.string d.pl,.string d.se,.string d.ha,vci],.int .i64 2] w (NewOwn 111 2 (srcL W d 2).length (spanCell (srcL W d 2)) w):=by
 obtain ⟨⟨Hrg,Hps,Htm,Hpl,Hwy,Hst,Hse,Hha⟩,hok,hdt,hwi,hin⟩:=h
 obtain ⟨Avr,cvr,rfl,nvr,kvr⟩:=Hrg.len
 obtain ⟨Avl,cvl,rfl,nvl,kvl⟩:=Hpl.len
 have H:=qh (show SrcIn w (.slice Avr W.ch.rg.length cvr) vp vt (.slice Avl W.ld.pl.length cvl) vw vs vse vha vd vwi W ds d from ⟨⟨Hrg,Hps,Htm,Hpl,Hwy,Hst,Hse,Hha⟩,hok,hdt,hwi,hin⟩)
 clear Hrg Hps Htm Hpl Hwy Hst Hse Hha hok hdt hwi hin
 have Hch:=qh (chS_d H.out.ok)
 have HB1:=qh (Boxed.new w [.slice Avr W.ch.rg.length cvr,.int .i64 W.ch.fr,.int .i64 W.ch.to,vp,vt,.slice Avl W.ld.pl.length cvl,vw,vs,vse,vha] 56)
 have HB2:=qh (Boxed.new (w.alloc (.cells #[.slice Avr W.ch.rg.length cvr,.int .i64 W.ch.fr,.int .i64 W.ch.to,vp,vt,.slice Avl W.ld.pl.length cvl,vw,vs,vse,vha] 56)) [.string d.nm,vd,vwi,.string d.pl,.string d.se,.string d.ha,vci] 101)
 have E1:=nil_is he
 have E2:=str_is he
 have Hsrc:=qh (srcL_no (W:=W) (d:=d) (s:=2) (by simp [he]))
 clear he
 go_enter Tryz.func54,Tryz.ntmps54
 go_wp2_with fail
 go_ret
 rw [Hsrc.out]
 have h:=rowSp1 ((w.alloc (.cells #[.slice Avr W.ch.rg.length cvr,.int .i64 W.ch.fr,.int .i64 W.ch.to,vp,vt,.slice Avl W.ld.pl.length cvl,vw,vs,vse,vha] 56)).alloc (.cells #[.string d.nm,vd,vwi,.string d.pl,.string d.se,.string d.ha,vci] 101)) 111 W.ch.fr W.ch.to
 simp only [World.size_alloc] at h
 exact ⟨_,rfl,(((Ext.refl _).alloc _).alloc _).alloc _,ownsRow_mono h (by omega)⟩
set_option maxRecDepth 100000 in
set_option maxHeartbeats 8000000 in
theorem impl_src_3n (vr vp vt vl vw vs vse vha vd vwi vci:Value) (W:Wrl) (ds:List Ded) (d:Ded) (w:World) (h:SrcIn w vr vp vt vl vw vs vse vha vd vwi W ds d) (he:d.se=⟨#[]⟩) :
  Calls Tryz.prog 54 #[.agg #[vr,.int .i64 W.ch.fr,.int .i64 W.ch.to,vp,vt,vl,vw,vs,vse,vha],.agg #[.string d.nm,vd,vwi,.string d.pl,.string d.se,.string d.ha,vci],.int .i64 3] w (NewOwn 111 2 (srcL W d 3).length (spanCell (srcL W d 3)) w):=by
 obtain ⟨⟨Hrg,Hps,Htm,Hpl,Hwy,Hst,Hse,Hha⟩,hok,hdt,hwi,hin⟩:=h
 obtain ⟨Avr,cvr,rfl,nvr,kvr⟩:=Hrg.len
 obtain ⟨Avl,cvl,rfl,nvl,kvl⟩:=Hpl.len
 have H:=qh (show SrcIn w (.slice Avr W.ch.rg.length cvr) vp vt (.slice Avl W.ld.pl.length cvl) vw vs vse vha vd vwi W ds d from ⟨⟨Hrg,Hps,Htm,Hpl,Hwy,Hst,Hse,Hha⟩,hok,hdt,hwi,hin⟩)
 clear Hrg Hps Htm Hpl Hwy Hst Hse Hha hok hdt hwi hin
 have Hch:=qh (chS_d H.out.ok)
 have HB1:=qh (Boxed.new w [.slice Avr W.ch.rg.length cvr,.int .i64 W.ch.fr,.int .i64 W.ch.to,vp,vt,.slice Avl W.ld.pl.length cvl,vw,vs,vse,vha] 56)
 have HB2:=qh (Boxed.new (w.alloc (.cells #[.slice Avr W.ch.rg.length cvr,.int .i64 W.ch.fr,.int .i64 W.ch.to,vp,vt,.slice Avl W.ld.pl.length cvl,vw,vs,vse,vha] 56)) [.string d.nm,vd,vwi,.string d.pl,.string d.se,.string d.ha,vci] 101)
 have E1:=nil_is he
 have E2:=str_is he
 have Hsrc:=qh (srcL_no (W:=W) (d:=d) (s:=3) (by simp [he]))
 clear he
 go_enter Tryz.func54,Tryz.ntmps54
 go_wp2_with fail
 go_ret
 rw [Hsrc.out]
 have h:=rowSp1 ((w.alloc (.cells #[.slice Avr W.ch.rg.length cvr,.int .i64 W.ch.fr,.int .i64 W.ch.to,vp,vt,.slice Avl W.ld.pl.length cvl,vw,vs,vse,vha] 56)).alloc (.cells #[.string d.nm,vd,vwi,.string d.pl,.string d.se,.string d.ha,vci] 101)) 111 W.ch.fr W.ch.to
 simp only [World.size_alloc] at h
 exact ⟨_,rfl,(((Ext.refl _).alloc _).alloc _).alloc _,ownsRow_mono h (by omega)⟩
set_option maxRecDepth 100000 in
set_option maxHeartbeats 8000000 in
theorem impl_src_4n (vr vp vt vl vw vs vse vha vd vwi vci:Value) (W:Wrl) (ds:List Ded) (d:Ded) (w:World) (h:SrcIn w vr vp vt vl vw vs vse vha vd vwi W ds d) (he:d.ha=⟨#[]⟩) :
  Calls Tryz.prog 54 #[.agg #[vr,.int .i64 W.ch.fr,.int .i64 W.ch.to,vp,vt,vl,vw,vs,vse,vha],.agg #[.string d.nm,vd,vwi,.string d.pl,.string d.se,.string d.ha,vci],.int .i64 4] w (NewOwn 111 2 (srcL W d 4).length (spanCell (srcL W d 4)) w):=by
 obtain ⟨⟨Hrg,Hps,Htm,Hpl,Hwy,Hst,Hse,Hha⟩,hok,hdt,hwi,hin⟩:=h
 obtain ⟨Avr,cvr,rfl,nvr,kvr⟩:=Hrg.len
 obtain ⟨Avl,cvl,rfl,nvl,kvl⟩:=Hpl.len
 have H:=qh (show SrcIn w (.slice Avr W.ch.rg.length cvr) vp vt (.slice Avl W.ld.pl.length cvl) vw vs vse vha vd vwi W ds d from ⟨⟨Hrg,Hps,Htm,Hpl,Hwy,Hst,Hse,Hha⟩,hok,hdt,hwi,hin⟩)
 clear Hrg Hps Htm Hpl Hwy Hst Hse Hha hok hdt hwi hin
 have Hch:=qh (chS_d H.out.ok)
 have HB1:=qh (Boxed.new w [.slice Avr W.ch.rg.length cvr,.int .i64 W.ch.fr,.int .i64 W.ch.to,vp,vt,.slice Avl W.ld.pl.length cvl,vw,vs,vse,vha] 56)
 have HB2:=qh (Boxed.new (w.alloc (.cells #[.slice Avr W.ch.rg.length cvr,.int .i64 W.ch.fr,.int .i64 W.ch.to,vp,vt,.slice Avl W.ld.pl.length cvl,vw,vs,vse,vha] 56)) [.string d.nm,vd,vwi,.string d.pl,.string d.se,.string d.ha,vci] 101)
 have E1:=nil_is he
 have E2:=str_is he
 have Hsrc:=qh (srcL_no (W:=W) (d:=d) (s:=4) (by simp [he]))
 clear he
 go_enter Tryz.func54,Tryz.ntmps54
 go_wp2_with fail
 go_ret
 rw [Hsrc.out]
 have h:=rowSp1 ((w.alloc (.cells #[.slice Avr W.ch.rg.length cvr,.int .i64 W.ch.fr,.int .i64 W.ch.to,vp,vt,.slice Avl W.ld.pl.length cvl,vw,vs,vse,vha] 56)).alloc (.cells #[.string d.nm,vd,vwi,.string d.pl,.string d.se,.string d.ha,vci] 101)) 111 W.ch.fr W.ch.to
 simp only [World.size_alloc] at h
 exact ⟨_,rfl,(((Ext.refl _).alloc _).alloc _).alloc _,ownsRow_mono h (by omega)⟩
theorem impl_src (vr vp vt vl vw vs vse vha vd vwi vci:Value) (W:Wrl) (ds:List Ded) (d:Ded) (s:Int) (w:World) (h:SrcIn w vr vp vt vl vw vs vse vha vd vwi W ds d) (h0:0 ≤ s) (h4:s ≤ 4) :
  Calls Tryz.prog 54 #[.agg #[vr,.int .i64 W.ch.fr,.int .i64 W.ch.to,vp,vt,vl,vw,vs,vse,vha],.agg #[.string d.nm,vd,vwi,.string d.pl,.string d.se,.string d.ha,vci],.int .i64 s] w (NewOwn 111 2 (srcL W d s).length (spanCell (srcL W d s)) w):=by
 have hc:s=0 ∨ s=1 ∨ s=2 ∨ s=3 ∨ s=4:=by omega
 rcases hc with rfl | rfl | rfl | rfl | rfl
 ·exact impl_src_0 vr vp vt vl vw vs vse vha vd vwi vci W ds d w h
 ·exact impl_src_1 vr vp vt vl vw vs vse vha vd vwi vci W ds d w h
 ·by_cases he:d.pl=⟨#[]⟩
  ·exact impl_src_2n vr vp vt vl vw vs vse vha vd vwi vci W ds d w h he
  ·exact impl_src_2 vr vp vt vl vw vs vse vha vd vwi vci W ds d w h he
 ·by_cases he:d.se=⟨#[]⟩
  ·exact impl_src_3n vr vp vt vl vw vs vse vha vd vwi vci W ds d w h he
  ·exact impl_src_3 vr vp vt vl vw vs vse vha vd vwi vci W ds d w h he
 ·by_cases he:d.ha=⟨#[]⟩
  ·exact impl_src_4n vr vp vt vl vw vs vse vha vd vwi vci W ds d w h he
  ·exact impl_src_4 vr vp vt vl vw vs vse vha vd vwi vci W ds d w h he
noncomputable def srcTo (W:Wrl) (d:Ded):Nat → List (List Sp)
 | 0=>[]
 | k+1=>srcTo W d k ++ [srcL W d k]
theorem srcTo_len (W:Wrl) (d:Ded):∀ k,(srcTo W d k).length=k
 | 0=>rfl
 | k+1=>by show (srcTo W d k ++ [_]).length=_;rw [List.length_append,srcTo_len W d k];rfl
theorem srcTo_at (W:Wrl) (d:Ded):∀ k i,i < k → setAt (srcTo W d k) i=srcL W d i
 | 0,i,h=>absurd h (by omega)
 | k+1,i,h=>by
  show setAt (srcTo W d k ++ [_]) i=_
  rw [setAt_push _ _ (by rw [srcTo_len];omega),srcTo_len]
  by_cases e:i=k
  ·subst e;rw [if_pos rfl]
  ·rw [if_neg e];exact srcTo_at W d k i (by omega)
theorem mtTo_congr {s:List Sp} {f g:Nat → List Sp} {p:Nat → Prop}:∀ k,(∀ i,i < k → f i=g i) → mtTo s f p k=mtTo s g p k
 | 0,_=>rfl
 | k+1,h=>by
  have e:=mtTo_congr (s:=s) (p:=p) k (fun i hi=>h i (by omega))
  show (bif B (p k) then metL (mtTo s f p k) (f k) else mtTo s f p k)=(bif B (p k) then metL (mtTo s g p k) (g k) else mtTo s g p k)
  rw [e,h k (by omega)]
theorem own_all (W:Wrl) (d:Ded) (but:Int):mtTo (oneS 0 730499) (fun k=>setAt (srcTo W d 5) k) (fun k=>(k:Int) ≠ but) 5=ownL W d but :=
 mtTo_congr 5 (fun i hi=>srcTo_at W d 5 i hi)
def NewSetsBy (T:Nat) (l:List (List Sp)) (w:World) (e:Ending) (w' : World):Prop:=∃ v lo,e=.returned v∧Ext w w' ∧ w.heap.size ≤ lo∧SetsBy T w' lo v l
theorem SetsBy.read {T:Nat} {w:World} {lo:Nat} {v:Value} {l:List (List Sp)} (h:SetsBy T w lo v l):Sets w 0 w.heap.size v l:=h.sets.sets.mono (Nat.zero_le _) (Nat.le_refl _)
set_option maxRecDepth 100000 in
set_option maxHeartbeats 8000000 in
theorem impl_allSources (vr vp vt vl vw vs vse vha vd vwi vci:Value) (W:Wrl) (ds:List Ded) (d:Ded) (w:World) (h:SrcIn w vr vp vt vl vw vs vse vha vd vwi W ds d) :
  Calls Tryz.prog 72 #[.agg #[vr,.int .i64 W.ch.fr,.int .i64 W.ch.to,vp,vt,vl,vw,vs,vse,vha],.agg #[.string d.nm,vd,vwi,.string d.pl,.string d.se,.string d.ha,vci]] w (NewSetsBy 40 (srcTo W d 5) w):=by
 have H:=qh h
 have HB1:=qh (Boxed.new w [vr,.int .i64 W.ch.fr,.int .i64 W.ch.to,vp,vt,vl,vw,vs,vse,vha] 56)
 have HB2:=qh (Boxed.new (w.alloc (.cells #[vr,.int .i64 W.ch.fr,.int .i64 W.ch.to,vp,vt,vl,vw,vs,vse,vha] 56)) [.string d.nm,vd,vwi,.string d.pl,.string d.se,.string d.ha,vci] 101)
 clear h
 go_enter Tryz.func72,Tryz.ntmps72
 go_upto_region 1 with fail
 obtain ⟨wx,hwx⟩:∃ y,y=((w.alloc (.cells #[vr,.int .i64 W.ch.fr,.int .i64 W.ch.to,vp,vt,vl,vw,vs,vse,vha] 56)).alloc (.cells #[.string d.nm,vd,vwi,.string d.pl,.string d.se,.string d.ha,vci] 101)):=⟨_,rfl⟩
 have HX:=qh (show Ext w wx from by rw [hwx];exact ((Ext.refl _).alloc _).alloc _)
 have B1:=qh (show Boxed wx w.heap.size [vr,.int .i64 W.ch.fr,.int .i64 W.ch.to,vp,vt,vl,vw,vs,vse,vha] from by rw [hwx];exact HB1.out.ext ((Ext.refl _).alloc _))
 have B2:=qh (show Boxed wx (w.heap.size+1) [.string d.nm,vd,vwi,.string d.pl,.string d.se,.string d.ha,vci] from by rw [hwx];have h:=HB2.out;rw [World.size_alloc] at h;exact h)
 rw [← hwx]
 clear hwx HB1 HB2
 have hzx:=HX.out.size
 go_wp2_with fail
 go_loopg [5,6] 5 (fun q u5 i wr=>∃ j:Nat,j+q=5∧i=.int .i64 j∧Ext wx wr∧Hid (SetsBy 40 wr wx.heap.size u5 (srcTo W d j)))
 case atStart =>
  refine ⟨0,rfl,rfl,(Ext.refl _).alloc _,qh (SetsBy.of_empty (.inl ?_))⟩
  exact World.ownsRow_made wx #[] 0 (Nat.le_refl _) (Nat.zero_le _) rfl
 case round =>
  obtain ⟨j,hj,rfl,hxr,Hs⟩:=hrel
  have Hxr:=qh hxr
  have HXr:=qh (HX.out.trans hxr)
  have hlen:=srcTo_len W d j
  have b0:=(B1.out.ext hxr).cell 0 rfl
  have b1:=(B1.out.ext hxr).cell 1 rfl
  have b2:=(B1.out.ext hxr).cell 2 rfl
  have b3:=(B1.out.ext hxr).cell 3 rfl
  have b4:=(B1.out.ext hxr).cell 4 rfl
  have b5:=(B1.out.ext hxr).cell 5 rfl
  have b6:=(B1.out.ext hxr).cell 6 rfl
  have b7:=(B1.out.ext hxr).cell 7 rfl
  have b8:=(B1.out.ext hxr).cell 8 rfl
  have b9:=(B1.out.ext hxr).cell 9 rfl
  have bg:=(B1.out.ext hxr).1
  have e0:=(B2.out.ext hxr).cell 0 rfl
  have e1:=(B2.out.ext hxr).cell 1 rfl
  have e2:=(B2.out.ext hxr).cell 2 rfl
  have e3:=(B2.out.ext hxr).cell 3 rfl
  have e4:=(B2.out.ext hxr).cell 4 rfl
  have e5:=(B2.out.ext hxr).cell 5 rfl
  have e6:=(B2.out.ext hxr).cell 6 rfl
  have eg:=(B2.out.ext hxr).1
  by_cases hlt:j < 5
  ·have d0:decide ((j:Int) ≤ 4)=true:=decide_eq_true (by omega)
   have d0n:decide (j ≤ 4)=true:=decide_eq_true (by omega)
   obtain ⟨L,eL⟩:∃ L,srcTo W d j=L:=⟨_,rfl⟩
   have HL:=qh eL
   rw [eL] at Hs hlen
   obtain ⟨f,hsf⟩:=Hs.out
   obtain ⟨A5,c5,rfl⟩:=hsf.1.len
   rw [hlen] at hsf ⊢
   have Hsf:=qh hsf
   clear Hs hsf eL hxr
   have hzr:=Hxr.out.size
   go_wp2_with fail
   refine Calls.mono (impl_src vr vp vt vl vw vs vse vha vd vwi vci W ds d j _ (H.out.up HXr.out) (by omega) (by omega)) ?_
   rintro e wa ⟨ua,rfl,hxa,hoa⟩
   have Hoa:=qh (show RowSp wa wr.heap.size 111 ua (srcL W d j) from hoa)
   obtain ⟨Aa,ca,rfl⟩:=ownsRow_len hoa
   have Hxa:=qh hxa
   have hza:=hxa.size
   obtain ⟨n,en⟩:∃ n,(srcL W d j).length=n:=⟨_,rfl⟩
   have Hn:=qh en
   rw [en] at Hoa ⊢
   clear hoa hxa en
   clear b0 b1 b2 b3 b4 b5 b6 b7 b8 b9 bg e0 e1 e2 e3 e4 e5 e6 eg
   go_wp2_with (at_builtin;refine wpList_append_row _ rfl _ _ 75 rfl wx.heap.size 40 1 24 Tryz.underlying75 (by kernel_rfl) (by omega) _ j 1 _ rfl (by have h9:=(Hsf.out.ext (show Ext wr (wa.alloc (.cells #[.slice Aa n ca] 40)) from Hxa.out.alloc _)).1;rw [hlen] at h9;exact h9) (.inr (by omega)) 0 _ _ (fun _=>.slice Aa n ca) rfl (Boxed.new wa [.slice Aa n ca] 40).row1 (fun _ _=>rfl) (by unfold maxLen;omega) (by omega) (by simp;omega) ?_;intro v3 w3 hown3 hput3;have Hown3:=qh hown3;have Hput3:=qh hput3;obtain ⟨Av3,cv3,rfl⟩:=ownsRow_len hown3;clear hown3 hput3)
   go_roundg (5 - (j+1))
   case measure=>omega
   case rel =>
    obtain ⟨gu,hgu,hou⟩:=Own.of_owned Hoa.out
    have hs3:SetsBy 40 w3 wx.heap.size (.slice Av3 (j+1) cv3) (srcTo W d (j+1)):=by
     show SetsBy _ _ _ _ (srcTo W d j ++ [srcL W d j])
     rw [HL.out]
     refine SetsF.push (gu:=gu) (u:=.slice Aa n ca) Hsf.out (Hxa.out.alloc (.cells #[.slice Aa n ca] 40)) (fun hp=>(hgu hp).2) hzr ?_ Hput3.out ?_
     ·exact hou.ext ((Ext.refl _).alloc _)
     ·rw [hlen];exact Hown3.out
    exact ⟨j+1,by omega,by go_num,Hput3.out.ext ((Hxr.out.trans Hxa.out).alloc _) (Nat.le_refl _),qh hs3⟩
  ·obtain rfl:j=5:=by omega
   obtain ⟨f,hsf⟩:=Hs.out
   obtain ⟨A5,c5,rfl⟩:=hsf.1.len
   have Hsf:=qh hsf
   clear hsf
   clear b0 b1 b2 b3 b4 b5 b6 b7 b8 b9 bg e0 e1 e2 e3 e4 e5 e6 eg
   go_wp2_with fail
   go_ret
   exact ⟨_,wx.heap.size,rfl,HXr.out,hzx,f,Hsf.out⟩
set_option maxRecDepth 100000 in
set_option maxHeartbeats 8000000 in
theorem impl_metAll (v:Value) (L:List (List Sp)) (but:Int) (w:World) (h:Sets w 0 w.heap.size v L) (hl:L.length ≤ 8) (hd:∀ i,i < L.length → SetD (setAt L i)) :
  Calls Tryz.prog 77 #[v,.int .i64 but] w (NewOwn 111 2 (mtTo (oneS 0 730499) (fun k=>setAt L k) (fun k=>(k:Int) ≠ but) L.length).length (spanCell (mtTo (oneS 0 730499) (fun k=>setAt L k) (fun k=>(k:Int) ≠ but) L.length)) w):=by
 obtain ⟨A,c,rfl,hn,hc⟩:=h.len
 have H:=qh h
 have HD:=qh hd
 have HM:=qh (fun k (hk:k ≤ L.length)=>(mtTo_ok (f:=fun k=>setAt L k) (p:=fun k=>(k:Int) ≠ but) all_d k (fun i hi _=>hd i (by omega))).1)
 clear h hd
 have Hr0:=qh (rowSp1 w 111 0 730499)
 go_enter Tryz.func77,Tryz.ntmps77
 go_wp2_with fail
 go_loopg [5,6,7,12] L.length (fun q u5 u6 u7 i wr=>∃ j:Nat,j+q=L.length∧i=.int .i64 j∧Ext w wr∧Hid (RowSp wr w.heap.size 111 u5 (mtTo (oneS 0 730499) (fun k=>setAt L k) (fun k=>(k:Int) ≠ but) j)))
 case atStart=>exact ⟨0,by omega,rfl,exts,Hr0⟩
 clear Hr0
 case round =>
  obtain ⟨j,hj,rfl,hx,Hr⟩:=hrel
  have Hx:=qh hx
  by_cases hlt:j < L.length
  ·obtain ⟨b,off,u,rfl,_,hb,h1,h2⟩:=(H.out.ext hx (Nat.le_refl _)).at_ hlt
   have H2:=qh (h2.mono (Nat.le_refl _) hx.size)
   have hbr:b < wr.heap.size:=Nat.lt_of_lt_of_le hb hx.size
   have hji:(j:Int) < (L.length:Int):=by omega
   clear h2 hx
   by_cases he:(j:Int)=but
   ·have E1:decide ((j:Int)=but)=true:=decide_eq_true he
    have E2:((j:Int) == but)=true:=beq_iff_eq.2 he
    have E3:((j:Int) != but)=false:=by rw [bne,E2];rfl
    have Hm:=qh (mtTo_no (s:=oneS 0 730499) (f:=fun k=>setAt L k) (p:=fun k=>(k:Int) ≠ but) (k:=j) (fun hh=>hh he))
    clear he
    go_wp2_with fail
    go_roundg (L.length - (j+1))
    case measure=>omega
    case rel=>exact ⟨j+1,by omega,by go_num,Hx.out.trans exts,qh (by rw [Hm.out];exact Hr.out.ext exts)⟩
   ·have E1:decide ((j:Int)=but)=false:=decide_eq_false he
    have E2:((j:Int) == but)=false:=beq_eq_false_iff_ne.2 he
    have E3:((j:Int) != but)=true:=by rw [bne,E2];rfl
    have Hm:=qh (mtTo_yes (s:=oneS 0 730499) (f:=fun k=>setAt L k) (p:=fun k=>(k:Int) ≠ but) (k:=j) he)
    clear he
    go_wp2_with fail
    refine Calls.mono (impl_met _ _ (mtTo (oneS 0 730499) (fun k=>setAt L k) (fun k=>(k:Int) ≠ but) j) (setAt L j) _ (Hr.out.read.up exts) (H2.out.up exts) (setd_len (HM.out j (by omega)) (HD.out j hlt)) (HM.out j (by omega)).bd (HD.out j hlt).bd) ?_
    rintro e wb ⟨ub,rfl,hxb,hob⟩
    have Hob:=qh (show RowSp wb _ 111 ub (mtTo (oneS 0 730499) (fun k=>setAt L k) (fun k=>(k:Int) ≠ but) (j+1)) from by rw [Hm.out];exact hob)
    have hxw:=Hx.out.size
    clear hob h1
    go_wp2_with fail
    go_roundg (L.length - (j+1))
    case measure=>omega
    case rel=>exact ⟨j+1,by omega,by go_num,Hx.out.trans exts,qh (ownsRow_mono Hob.out hxw)⟩
  ·obtain rfl:j=L.length:=by omega
   obtain ⟨A5,c5,rfl⟩:=ownsRow_len Hr.out
   go_wp2_with fail
   go_ret
   exact ⟨_,rfl,Hx.out,Hr.out⟩
set_option maxRecDepth 100000 in
set_option maxHeartbeats 8000000 in
theorem impl_ownDays (vr vp vt vl vw vs vse vha vd vwi vci:Value) (W:Wrl) (ds:List Ded) (d:Ded) (w:World) (h:SrcIn w vr vp vt vl vw vs vse vha vd vwi W ds d) :
  Calls Tryz.prog 75 #[.agg #[vr,.int .i64 W.ch.fr,.int .i64 W.ch.to,vp,vt,vl,vw,vs,vse,vha],.agg #[.string d.nm,vd,vwi,.string d.pl,.string d.se,.string d.ha,vci]] w (NewOwn 111 2 (ownL W d (-1)).length (spanCell (ownL W d (-1))) w):=by
 have H:=qh h
 have Hown:=qh (own_all W d (-1))
 clear h
 go_enter Tryz.func75,Tryz.ntmps75
 go_wp2_with fail
 refine Calls.mono (impl_allSources vr vp vt vl vw vs vse vha vd vwi vci W ds d _ (H.out.up exts)) ?_
 rintro e wa ⟨ua,lo,rfl,hxa,hlo,hsa⟩
 have Hsa:=qh hsa
 have HXa:=qh (show Ext w wa from exts)
 clear hsa hxa
 go_wp2_with fail
 refine Calls.mono (impl_metAll _ (srcTo W d 5) (-1) _ Hsa.out.read (by rw [srcTo_len];omega) (fun i hi=>by rw [srcTo_len] at hi;rw [srcTo_at W d 5 i hi];exact (srcL_d H.out.ok H.out.inn i).1)) ?_
 rw [srcTo_len,Hown.out]
 rintro e wb ⟨ub,rfl,hxb,hob⟩
 obtain ⟨Ab,cb,rfl⟩:=ownsRow_len hob
 have Hob:=qh hob
 clear hob
 go_wp2_with fail
 go_ret
 exact ⟨_,rfl,HXa.out.trans hxb,ownsRow_mono Hob.out HXa.out.size⟩
set_option maxRecDepth 100000 in
set_option maxHeartbeats 8000000 in
theorem spec_l17Own (vr vp vt vl vw vs vse vha vd vwi vci:Value) (W:Wrl) (ds:List Ded) (d:Ded) (but:Int) (w:World) (h:SrcIn w vr vp vt vl vw vs vse vha vd vwi W ds d) :
  Calls Tryz.prog 74 #[.agg #[vr,.int .i64 W.ch.fr,.int .i64 W.ch.to,vp,vt,vl,vw,vs,vse,vha],.agg #[.string d.nm,vd,vwi,.string d.pl,.string d.se,.string d.ha,vci],.int .i64 but] w (NewOwn 111 2 (ownL W d but).length (spanCell (ownL W d but)) w):=by
 have H:=qh h
 have Hown:=qh (own_same h.ok h.inn but)
 have HM:=qh (fun k=>own_part h.ok h.inn but k (chS W) (chS_d h.ok))
 have HB1:=qh (Boxed.new w [vr,.int .i64 W.ch.fr,.int .i64 W.ch.to,vp,vt,vl,vw,vs,vse,vha] 56)
 have HB2:=qh (Boxed.new (w.alloc (.cells #[vr,.int .i64 W.ch.fr,.int .i64 W.ch.to,vp,vt,vl,vw,vs,vse,vha] 56)) [.string d.nm,vd,vwi,.string d.pl,.string d.se,.string d.ha,vci] 101)
 rw [← Hown.out]
 clear h
 go_enter Tryz.func74,Tryz.ntmps74
 go_upto_region 2 with fail
 obtain ⟨wx,hwx⟩:∃ y,y=(((w.alloc (.cells #[vr,.int .i64 W.ch.fr,.int .i64 W.ch.to,vp,vt,vl,vw,vs,vse,vha] 56)).alloc (.cells #[.string d.nm,vd,vwi,.string d.pl,.string d.se,.string d.ha,vci] 101)).alloc (.cells #[.int .i64 W.ch.fr,.int .i64 W.ch.to] 111)):=⟨_,rfl⟩
 have HX:=qh (show Ext w wx from by rw [hwx];exact (((Ext.refl _).alloc _).alloc _).alloc _)
 have B1:=qh (show Boxed wx w.heap.size [vr,.int .i64 W.ch.fr,.int .i64 W.ch.to,vp,vt,vl,vw,vs,vse,vha] from by rw [hwx];exact (HB1.out.ext ((Ext.refl _).alloc _)).ext ((Ext.refl _).alloc _))
 have B2:=qh (show Boxed wx (w.heap.size+1) [.string d.nm,vd,vwi,.string d.pl,.string d.se,.string d.ha,vci] from by rw [hwx];have h:=HB2.out.ext ((Ext.refl _).alloc (.cells #[.int .i64 W.ch.fr,.int .i64 W.ch.to] 111));rw [World.size_alloc] at h;exact h)
 have Hr0:=qh (show RowSp wx w.heap.size 111 (.slice (some ⟨w.heap.size+1+1,0,none⟩) 1 1) (chS W) from by rw [hwx];have h:=rowSp1 ((w.alloc (.cells #[vr,.int .i64 W.ch.fr,.int .i64 W.ch.to,vp,vt,vl,vw,vs,vse,vha] 56)).alloc (.cells #[.string d.nm,vd,vwi,.string d.pl,.string d.se,.string d.ha,vci] 101)) 111 W.ch.fr W.ch.to;simp only [World.size_alloc] at h;exact ownsRow_mono h (by omega))
 rw [← hwx]
 clear hwx HB1 HB2
 go_wp2_with fail
 go_loopg [7,8] 5 (fun q u7 i wr=>∃ j:Nat,j+q=5∧i=.int .i64 j∧Ext wx wr∧Hid (RowSp wr w.heap.size 111 u7 (mtTo (chS W) (fun k=>srcL W d k) (fun k=>(k:Int) ≠ but) j)))
 case atStart=>exact ⟨0,rfl,rfl,Ext.refl _,Hr0⟩
 clear Hr0
 case round =>
  obtain ⟨j,hj,rfl,hxr,Hr⟩:=hrel
  have Hxr:=qh hxr
  have HXr:=qh (HX.out.trans hxr)
  have b0:=(B1.out.ext hxr).cell 0 rfl
  have b1:=(B1.out.ext hxr).cell 1 rfl
  have b2:=(B1.out.ext hxr).cell 2 rfl
  have b3:=(B1.out.ext hxr).cell 3 rfl
  have b4:=(B1.out.ext hxr).cell 4 rfl
  have b5:=(B1.out.ext hxr).cell 5 rfl
  have b6:=(B1.out.ext hxr).cell 6 rfl
  have b7:=(B1.out.ext hxr).cell 7 rfl
  have b8:=(B1.out.ext hxr).cell 8 rfl
  have b9:=(B1.out.ext hxr).cell 9 rfl
  have bg:=(B1.out.ext hxr).1
  have e0:=(B2.out.ext hxr).cell 0 rfl
  have e1:=(B2.out.ext hxr).cell 1 rfl
  have e2:=(B2.out.ext hxr).cell 2 rfl
  have e3:=(B2.out.ext hxr).cell 3 rfl
  have e4:=(B2.out.ext hxr).cell 4 rfl
  have e5:=(B2.out.ext hxr).cell 5 rfl
  have e6:=(B2.out.ext hxr).cell 6 rfl
  have eg:=(B2.out.ext hxr).1
  clear hxr
  by_cases hlt:j < 5
  ·have d0:decide ((j:Int) ≤ 4)=true:=decide_eq_true (by omega)
   have d0n:decide (j ≤ 4)=true:=decide_eq_true (by omega)
   by_cases he:(j:Int)=but
   ·have E1:decide ((j:Int)=but)=true:=decide_eq_true he
    have E2:((j:Int) == but)=true:=beq_iff_eq.2 he
    have E3:((j:Int) != but)=false:=by rw [bne,E2];rfl
    have Hm:=qh (mtTo_no (s:=chS W) (f:=fun k=>srcL W d k) (p:=fun k=>(k:Int) ≠ but) (k:=j) (fun hh=>hh he))
    clear he
    go_wp2_with fail
    go_roundg (5 - (j+1))
    case measure=>omega
    case rel=>exact ⟨j+1,by omega,by go_num,Hxr.out,qh (by rw [Hm.out];exact Hr.out)⟩
   ·have E1:decide ((j:Int)=but)=false:=decide_eq_false he
    have E2:((j:Int) == but)=false:=beq_eq_false_iff_ne.2 he
    have E3:((j:Int) != but)=true:=by rw [bne,E2];rfl
    have Hm:=qh (mtTo_yes (s:=chS W) (f:=fun k=>srcL W d k) (p:=fun k=>(k:Int) ≠ but) (k:=j) he)
    have HSd:=qh (srcL_d H.out.ok H.out.inn j).1
    clear he
    go_wp2_with fail
    refine Calls.mono (spec_src vr vp vt vl vw vs vse vha vd vwi vci W ds d j _ (H.out.up HXr.out) (by omega) (by omega)) ?_
    rintro e wa ⟨ua,rfl,hxa,hoa⟩
    have Hoa:=qh (show RowSp wa wr.heap.size 111 ua (srcL W d j) from hoa)
    have Hxa:=qh hxa
    clear hoa hxa
    clear b0 b1 b2 b3 b4 b5 b6 b7 b8 b9 bg e0 e1 e2 e3 e4 e5 e6 eg
    go_wp2_with fail
    refine Calls.mono (spec_l02Meet _ _ (mtTo (chS W) (fun k=>srcL W d k) (fun k=>(k:Int) ≠ but) j) (srcL W d j) _ (Hr.out.read.up Hxa.out) Hoa.out.read (setd_len (HM.out j) HSd.out) (HM.out j).bd HSd.out.bd) ?_
    rintro e wb ⟨ub,rfl,hxb,hob⟩
    have Hob:=qh (show RowSp wb _ 111 ub (mtTo (chS W) (fun k=>srcL W d k) (fun k=>(k:Int) ≠ but) (j+1)) from by rw [Hm.out];exact hob)
    have hxw:=(HXr.out.trans Hxa.out).size
    clear hob
    go_wp2_with fail
    go_roundg (5 - (j+1))
    case measure=>omega
    case rel=>exact ⟨j+1,by omega,by go_num,(Hxr.out.trans Hxa.out).trans hxb,qh (ownsRow_mono Hob.out hxw)⟩
  ·obtain rfl:j=5:=by omega
   obtain ⟨A5,c5,rfl⟩:=ownsRow_len Hr.out
   clear b0 b1 b2 b3 b4 b5 b6 b7 b8 b9 bg e0 e1 e2 e3 e4 e5 e6 eg
   go_wp2_with fail
   go_ret
   exact ⟨_,rfl,HXr.out,Hr.out⟩
theorem src_in {w:World} {vr vp vt vl vw vs vse vha vd vwi:Value} {W:Wrl} {l:List Ded} {k:Nat} (h:WrlAt w 0 w.heap.size vr vp vt vl vw vs vse vha W) (hok:DedsOk W l) (hk:k < l.length) (hd:Clss w 0 w.heap.size vd (dedAt l k).dt) (hw:Wits w 0 w.heap.size vwi (dedAt l k).wi) :
  SrcIn w vr vp vt vl vw vs vse vha vd vwi W l (dedAt l k):=⟨h,hok.1,hd,hw,(hok.2.2 k hk).1⟩
noncomputable def nwS (W:Wrl) (l:List Ded):Nat → List (List Sp)
 | 0=>[]
 | k+1=>nwS W l k ++ [ownL W (dedAt l k) (-1)]
noncomputable def nkTo (l:List Ded) (k:Nat):Nat → List Lk
 | 0=>[]
 | m+1=>nkTo l k m ++ [⟨ddIx l (strAt (dedAt l k).ci m),k,0,730499⟩]
noncomputable def nwL (l:List Ded):Nat → List Lk
 | 0=>[]
 | k+1=>nwL l k ++ nkTo l k (dedAt l k).ci.length
theorem nwS_len (W:Wrl) (l:List Ded):∀ k,(nwS W l k).length=k
 | 0=>rfl
 | k+1=>by show (nwS W l k ++ [_]).length=_;rw [List.length_append,nwS_len W l k];rfl
theorem nkTo_len (l:List Ded) (k:Nat):∀ m,(nkTo l k m).length=m
 | 0=>rfl
 | m+1=>by show (nkTo l k m ++ [_]).length=_;rw [List.length_append,nkTo_len l k m];rfl
theorem nwL_len {l:List Ded} (h:∀ i,i < l.length → (dedAt l i).ci.length ≤ 8):∀ k,k ≤ l.length → (nwL l k).length ≤ 8 * k
 | 0,_=>Nat.le_refl _
 | k+1,hk=>by
  have h1:=nwL_len h k (by omega)
  have h2:=h k (by omega)
  show (nwL l k ++ _).length ≤ _
  rw [List.length_append,nkTo_len]
  omega
noncomputable def nwN (W:Wrl) (l:List Ded):Net:=⟨nwS W l l.length,nwL l l.length⟩
noncomputable def nwE (W:Wrl) (l:List Ded):Int:=bif B (DedsOk W l) then (bif B (NetOk (nwN W l)) then 0 else 3) else 1
noncomputable def nwR (W:Wrl) (l:List Ded):Net:=bif B (DedsOk W l) then (bif B (NetOk (nwN W l)) then nwN W l else noNet) else noNet
theorem nw_no {W:Wrl} {l:List Ded} (h:¬ DedsOk W l):nwE W l=1∧nwR W l=noNet:=by unfold nwE nwR;rw [B_false h];exact ⟨rfl,rfl⟩
theorem nw_lim {W:Wrl} {l:List Ded} (h:DedsOk W l) (h2:¬ NetOk (nwN W l)):nwE W l=3∧nwR W l=noNet:=by unfold nwE nwR;rw [B_true h,B_false h2];exact ⟨rfl,rfl⟩
theorem nw_ok {W:Wrl} {l:List Ded} (h:DedsOk W l) (h2:NetOk (nwN W l)):nwE W l=0∧nwR W l=nwN W l:=by unfold nwE nwR;rw [B_true h,B_true h2];exact ⟨rfl,rfl⟩
def NewNetX2 (m:Net) (c:Int) (w:World) (e:Ending) (w' : World):Prop:=∃ s k,e=.returned (.tuple #[.agg #[s,k],.int .i64 c])∧Ext w w' ∧ NetX w' w.heap.size w'.heap.size (.agg #[s,k]) m
theorem NetG.off {TS TL:TypeId} {lo:Nat} {w w' : World} {sv kv:Value} {l:List (List Sp)} {ks:List Lk} {S:Nat → Prop} (h:NetG TS TL lo w sv kv l ks) (hx:Off S w w') (hs:∀ k,lo ≤ k → ¬ S k):NetG TS TL lo w' sv kv l ks:=by
 obtain ⟨f,g,h1,hk,h2,h3,h5⟩:=h
 exact ⟨f,g,h1.off hx hs,hk.off hx hs,fun i hi=>⟨(h2 i hi).1.off hx (fun h0=>hs _ ((h2 i hi).2 h0).1),(h2 i hi).2⟩,h3,h5⟩
theorem NetG.slices {TS TL:TypeId} {lo:Nat} {w:World} {sv kv:Value} {l:List (List Sp)} {ks:List Lk} (h:NetG TS TL lo w sv kv l ks):(∃ A c,sv=.slice A l.length c)∧∃ A c,kv=.slice A ks.length c:=by
 obtain ⟨f,g,h1,hk,_⟩:=h
 exact ⟨h1.len,hk.len⟩
theorem NetX.netIn {w:World} {lo hi:Nat} {s k:Value} {n:Net} (h:NetX w lo hi (.agg #[s,k]) n) (hh:hi ≤ w.heap.size):NetIn w s k n:=NetAt.up h.at_ hh (Ext.refl _)
theorem NetX.mono {w:World} {lo lo' hi:Nat} {v:Value} {n:Net} (h:NetX w lo hi v n) (hl:lo' ≤ lo):NetX w lo' hi v n:=by
 obtain ⟨s,k,S,gk,e,h1,h2,h3,h4⟩:=h
 exact ⟨s,k,S,gk,e,fun x hx=>⟨Nat.le_trans hl (h1 x hx).1,(h1 x hx).2⟩,h2,h3,fun hn=>⟨⟨Nat.le_trans hl (h4 hn).1.1,(h4 hn).1.2⟩,(h4 hn).2⟩⟩
theorem NetX.wide {w:World} {lo hi hi' : Nat} {v:Value} {n:Net} (h:NetX w lo hi v n) (hl:hi ≤ hi'):NetX w lo hi' v n:=by
 obtain ⟨s,k,S,gk,e,h1,h2,h3,h4⟩:=h
 exact ⟨s,k,S,gk,e,fun x hx=>⟨(h1 x hx).1,Nat.lt_of_lt_of_le (h1 x hx).2 hl⟩,h2,h3,fun hn=>⟨⟨(h4 hn).1.1,Nat.lt_of_lt_of_le (h4 hn).1.2 hl⟩,(h4 hn).2⟩⟩
theorem link_cell1 (a b c d:Int):∀ i,i < 4 → [Value.int .i64 a,.int .i64 b,.int .i64 c,.int .i64 d][i]? = some (linkCell [⟨a,b,c,d⟩] i)
 | 0,_=>rfl
 | 1,_=>rfl
 | 2,_=>rfl
 | 3,_=>rfl
 | n+4,h=>absurd h (by omega)
theorem NewNetX2.nil (c:Int) {w w' : World} (h:Ext w w'):NewNetX2 noNet c w (.returned (.tuple #[.agg #[.slice none 0 0,.slice none 0 0],.int .i64 c])) w' :=
 ⟨_,_,rfl,h,((NetG.empty 0 0 w.heap.size w').done)⟩
def NwSt (TS TL:TypeId) (w1:World) (l:List (List Sp)) (ks:List Lk) (sv kv:Value) (wr:World):Prop:=Ext w1 wr∧Boxed wr w1.heap.size [sv,kv]∧NetG TS TL (w1.heap.size+1) wr sv kv l ks
set_option maxRecDepth 100000 in
set_option maxHeartbeats 16000000 in
theorem impl_NetworkOf (vr vp vt vl vw vs vse vha v:Value) (W:Wrl) (l:List Ded) (w:World) (h:WrlAt w 0 w.heap.size vr vp vt vl vw vs vse vha W) (hd:Deds w 0 w.heap.size v l) :
  Calls Tryz.prog 31 #[.agg #[vr,.int .i64 W.ch.fr,.int .i64 W.ch.to,vp,vt,vl,vw,vs,vse,vha],v] w (NewNetX2 (nwR W l) (nwE W l) w):=by
 obtain ⟨A,c,rfl,hn,hc⟩:=hd.len
 have H:=qh h
 have Hd:=qh hd
 have HB:=qh ((Boxed.new w [vr,.int .i64 W.ch.fr,.int .i64 W.ch.to,vp,vt,vl,vw,vs,vse,vha] 56).ext ((Ext.refl _).alloc (.cells #[.slice none 0 0,.slice none 0 0] 78)))
 have HR:Hid (Boxed ((w.alloc (.cells #[vr,.int .i64 W.ch.fr,.int .i64 W.ch.to,vp,vt,vl,vw,vs,vse,vha] 56)).alloc (.cells #[.slice none 0 0,.slice none 0 0] 78)) (w.heap.size+1) [.slice none 0 0,.slice none 0 0]):=qh (by
  have h9:=Boxed.new (w.alloc (.cells #[vr,.int .i64 W.ch.fr,.int .i64 W.ch.to,vp,vt,vl,vw,vs,vse,vha] 56)) [.slice none 0 0,.slice none 0 0] 78
  rw [World.size_alloc] at h9
  exact h9)
 clear h hd
 obtain ⟨q,eq⟩:∃ q,B (DedsOk W l)=q:=⟨_,rfl⟩
 have Hq:=qh eq
 clear eq
 go_enter Tryz.func31,Tryz.ntmps31
 go_wp2_with fail
 refine Calls.mono (impl_AreDeeds vr vp vt vl vw vs vse vha _ W l _ (H.out.up exts) (Hd.out.up exts)) ?_
 rintro e w1 ⟨rfl,hx1⟩
 rw [Hq.out]
 have hx:Ext w w1:=exts
 have Hx1:=qh hx1
 have HX1:=qh hx
 have rb:=HR.out.ext hx1;have rb0:=rb.at0;have rb1:=rb.at1;have rbg:=rb.1;have Hrb:=qh rb;clear rb
 have rbf0:=Hrb.out.fz 0 (by simp)
 have rbf1:=Hrb.out.fz 1 (by simp)
 clear hx1 hx
 cases q
 case false =>
  have Hv:=qh (nw_no (B_not.1 Hq.out))
  go_wp2_with fail
  refine bodyPost_ret (v:=.tuple #[.agg #[.slice none 0 0,.slice none 0 0],.int .i64 1]) (by simp [results,Tryz.results31,go_sem, *]) rfl ?_
  rw [Hv.out.1,Hv.out.2]
  exact NewNetX2.nil 1 ((HX1.out.setCell (by show w.heap.size ≤ w.heap.size+1;omega) _).setCell (by show w.heap.size ≤ w.heap.size+1;omega) _)
 have Hok:=qh (B_iff.1 Hq.out)
 have hl8:=Hok.out.2.1
 have Hci:=qh (show ∀ i,i < l.length → (dedAt l i).ci.length ≤ 8 from fun i hi=>(Hok.out.2.2 i hi).1.2.2.2.1)
 have HSI:=qh (fun (k:Nat) (hk:k < l.length) (vd vwi:Value) (w' : World) (hX:Ext w w') (h1:Clss w' 0 w'.heap.size vd (dedAt l k).dt) (h2:Wits w' 0 w'.heap.size vwi (dedAt l k).wi)=>src_in (H.out.up hX) Hok.out hk h1 h2)
 have hrb1:w.heap.size+1 < w1.heap.size:=rbg
 have hwb1:w.heap.size < w1.heap.size:=by omega
 clear rb0 rb1 rbg rbf0 rbf1
 go_wp2_with fail
 go_loopg [7,8,10,19] l.length (fun q u7 u8 u10 i wr=>∃ (j:Nat) (sv kv:Value),j+q=l.length∧i=.int .i64 j∧NwSt 40 135 w1 (nwS W l j) (nwL l j) sv kv wr)
 case atStart=>exact ⟨0,.slice none 0 0,.slice none 0 0,by omega,rfl,(Ext.refl _).alloc _,Boxed.new w1 _ _,NetG.empty _ _ _ _⟩
 case round =>
  obtain ⟨j,sv,kv,hj,rfl,hx,hbx,hng⟩:=hrel
  obtain ⟨NS,eNS⟩:∃ x,nwS W l j=x:=⟨_,rfl⟩
  obtain ⟨NL,eNL⟩:∃ x,nwL l j=x:=⟨_,rfl⟩
  have HNS:=qh eNS
  have HNL:=qh eNL
  have hsl:NS.length=j:=by rw [← eNS];exact nwS_len W l j
  have hkl:NL.length ≤ 64:=by rw [← eNL];have:=nwL_len Hci.out j (by omega);omega
  rw [eNS,eNL] at hng
  clear eNS eNL
  obtain ⟨⟨As,cs,rfl⟩,⟨Ak,ck,rfl⟩⟩:=hng.slices
  rw [hsl] at hbx hng
  have Hxr:=qh hx
  have HXr:=qh (HX1.out.trans hx)
  have Hob:=qh hbx
  have Hsv:=qh (show ∀ b,(Value.slice As j cs).ownBlock=some b → b < wr.heap.size from by obtain ⟨f,g,hf⟩:=hng;exact hf.s.lt)
  have Hng:=qh hng
  have obg:=hbx.1
  clear hbx hng hx
  by_cases hlt:j < l.length
  ·have hji:(j:Int) < (l.length:Int):=by omega
   obtain ⟨kb,ko,vd,vwi,vci,eA,_,kg0,c0,c1,c2,c3,c4,c5,c6,kd,kw,kc⟩:=Hd.out.at_ hlt
   obtain ⟨Ac,cc,rfl,hcn,hcc⟩:=kc.len
   obtain ⟨Ad,cd,rfl,hdn,hdc⟩:=kd.len
   obtain ⟨Aw,cw,rfl,hwn,hwc⟩:=kw.len
   subst eA
   have d0:=(HXr.out.cell (p:=⟨kb,ko+j * 7,none⟩) kg0).trans c0
   have d1:=(HXr.out.cell (p:=⟨kb,ko+j * 7+1,none⟩) kg0).trans c1
   have d2:=(HXr.out.cell (p:=⟨kb,ko+j * 7+2,none⟩) kg0).trans c2
   have d3:=(HXr.out.cell (p:=⟨kb,ko+j * 7+3,none⟩) kg0).trans c3
   have d4:=(HXr.out.cell (p:=⟨kb,ko+j * 7+4,none⟩) kg0).trans c4
   have d5:=(HXr.out.cell (p:=⟨kb,ko+j * 7+5,none⟩) kg0).trans c5
   have d6:=(HXr.out.cell (p:=⟨kb,ko+j * 7+6,none⟩) kg0).trans c6
   have kg:kb < wr.heap.size:=Nat.lt_of_lt_of_le kg0 HXr.out.size
   clear c0 c1 c2 c3 c4 c5 c6
   have Kd:=qh kd
   have Kw:=qh kw
   have Kc:=qh kc
   clear kd kw kc
   have hc8:=Hci.out j hlt
   go_upto_region 7 with fail
   obtain ⟨wy,hwy⟩:∃ y,y=wr.alloc (.cells #[.string (dedAt l j).nm,.slice Ad (dedAt l j).dt.length cd,.slice Aw (dedAt l j).wi.length cw,.string (dedAt l j).pl,.string (dedAt l j).se,.string (dedAt l j).ha,.slice Ac (dedAt l j).ci.length cc] 101):=⟨_,rfl⟩
   have Hxy:=qh (show Ext wr wy from by rw [hwy];exact (Ext.refl _).alloc _)
   have Hdb:=qh (show Boxed wy wr.heap.size [.string (dedAt l j).nm,.slice Ad (dedAt l j).dt.length cd,.slice Aw (dedAt l j).wi.length cw,.string (dedAt l j).pl,.string (dedAt l j).se,.string (dedAt l j).ha,.slice Ac (dedAt l j).ci.length cc] from by rw [hwy];exact Boxed.new wr _ _)
   have hwyz:wy.heap.size=wr.heap.size+1:=by rw [hwy];exact World.size_alloc _ _
   rw [← hwy]
   clear hwy d0 d1 d2 d3 d4 d5 d6 kg
   obtain ⟨X,eX⟩:∃ X,ownL W (dedAt l j) (-1)=X:=⟨_,rfl⟩
   have HXo:=qh eX
   clear eX
   have b0:=(HB.out.ext (Hx1.out.trans (Hxr.out.trans Hxy.out))).cell 0 rfl
   have b1:=(HB.out.ext (Hx1.out.trans (Hxr.out.trans Hxy.out))).cell 1 rfl
   have b2:=(HB.out.ext (Hx1.out.trans (Hxr.out.trans Hxy.out))).cell 2 rfl
   have b3:=(HB.out.ext (Hx1.out.trans (Hxr.out.trans Hxy.out))).cell 3 rfl
   have b4:=(HB.out.ext (Hx1.out.trans (Hxr.out.trans Hxy.out))).cell 4 rfl
   have b5:=(HB.out.ext (Hx1.out.trans (Hxr.out.trans Hxy.out))).cell 5 rfl
   have b6:=(HB.out.ext (Hx1.out.trans (Hxr.out.trans Hxy.out))).cell 6 rfl
   have b7:=(HB.out.ext (Hx1.out.trans (Hxr.out.trans Hxy.out))).cell 7 rfl
   have b8:=(HB.out.ext (Hx1.out.trans (Hxr.out.trans Hxy.out))).cell 8 rfl
   have b9:=(HB.out.ext (Hx1.out.trans (Hxr.out.trans Hxy.out))).cell 9 rfl
   have bg:=(HB.out.ext (Hx1.out.trans (Hxr.out.trans Hxy.out))).1
   have e0:=Hdb.out.cell 0 rfl
   have e1:=Hdb.out.cell 1 rfl
   have e2:=Hdb.out.cell 2 rfl
   have e3:=Hdb.out.cell 3 rfl
   have e4:=Hdb.out.cell 4 rfl
   have e5:=Hdb.out.cell 5 rfl
   have e6:=Hdb.out.cell 6 rfl
   have eg:=Hdb.out.1
   have Hob1:=qh (Hob.out.ext Hxy.out)
   have Hng1:=qh (Hng.out.ext Hxy.out)
   clear Hob Hng
   have ob0:=Hob1.out.at0
   have ob1:=Hob1.out.at1
   have obf0:=Hob1.out.fz 0 (by simp)
   have obg1:=Hob1.out.1
   go_cut [30] (fun s30 wc=>∃ sv', s30=sv' ∧ Hid (NwSt 40 135 w1 (NS ++ [X]) NL sv' (.slice Ak NL.length ck) wc)∧Hid (Boxed wc wr.heap.size [.string (dedAt l j).nm,.slice Ad (dedAt l j).dt.length cd,.slice Aw (dedAt l j).wi.length cw,.string (dedAt l j).pl,.string (dedAt l j).se,.string (dedAt l j).ha,.slice Ac (dedAt l j).ci.length cc]))
   case first =>
    obtain ⟨f,g,hf⟩:=Hng1.out
    have Hf:=qh hf
    clear hf
    go_region_law (first
     | (refine step_append_row rfl (.tmp 25) (.tmp 29) 75 rfl (w1.heap.size+1) 40 1 24 Tryz.underlying75 (by kernel_rfl) (by omega) _ NS.length 1 _ rfl (Hf.out.ext exts).s (.inr (by omega)) 0 _ _ (fun _=>.slice Aa X.length ca) rfl ((Boxed.new w2 [.slice Aa X.length ca] 40).row1) (fun _ _=>rfl) (by unfold maxLen;omega) (by omega) (by have:=(show Ext wy w2 from exts).size;simp at this ⊢;omega) ?_;intro v3 w3 hown3 hput3;obtain ⟨Av3,cv3,rfl⟩:=ownsRow_len hown3;have hob3:Boxed w3 w1.heap.size [.slice As j cs,.slice Ak NL.length ck]:=Boxed.off (Hob1.out.ext exts) hput3.1 (fun hh=>by have:=hh.1;omega);have ho3:=hob3.at0;have ho3f:=hob3.fz 0 (by simp);have Hob3:=qh hob3;clear hob3)
     | (go_simp;go_at_call 75;refine Calls.mono (impl_ownDays vr vp vt vl vw vs vse vha _ _ _ W l (dedAt l j) _ ((HSI.out j hlt _ _ w (Ext.refl _) Kd.out Kw.out).up (HXr.out.trans (Hxy.out.trans exts)))) ?_;rintro e w2 ⟨ua,rfl,hx2,hoa⟩;rw [HXo.out] at hoa;obtain ⟨Aa,ca,rfl⟩:=ownsRow_len hoa;have ho2:=(Hob1.out.ext (show Ext wy w2 from exts)).at0;have ho2a:=(Hob1.out.ext (show Ext wy (w2.alloc (.cells #[.slice Aa X.length ca] 40)) from exts)).at0;(try (rw [HXo.out]))))
    all_goals
     rw [hsl] at hown3 hput3
     have hEa:Ext wy (w2.alloc (.cells #[.slice Aa X.length ca] 40)):=exts
     have Hst:Hid (NetG 40 135 (w1.heap.size+1) w3 (.slice Av3 (j+1) cv3) (.slice Ak NL.length ck) (NS ++ [X]) NL):=qh (by
      obtain ⟨gu,hgu,hou⟩:=Own.of_owned hoa
      refine NetG.pushS (gu:=gu) (u:=.slice Aa X.length ca) Hf.out hEa (fun hp=>?_) (by omega) (hou.ext ((Ext.refl _).alloc _)) hput3 (by rw [hsl];exact hown3)
      have h9:=(hgu hp).2
      refine Nat.le_trans ?_ h9
      exact Ext.size exts)
     have Hd3:=qh ((Hdb.out.ext hEa).off hput3.1 (fun hh=>by have:=Hsv.out _ hh.2.2;omega))
     have Hx3:=qh (hput3.ext ((Hxr.out.trans Hxy.out).trans hEa) (Nat.le_succ _))
     clear hown3 hput3 hoa
     go_wp2_with fail
     go_meet
     exact ⟨_,rfl,qh ⟨Hx3.out.setCell (Nat.le_refl _) _,Hob3.out.set 0 _ (by simp),Hst.out.off (Off.setCell (Off.refl (fun k=>k=w1.heap.size) w3) (.inl rfl) _) (fun k hk hh=>by omega)⟩,qh (Hd3.out.off (Off.setCell (Off.refl (fun k=>k=w1.heap.size) w3) (.inl rfl) _) (fun hh=>by omega))⟩
   case rest =>
    obtain ⟨sv', -,Hst,Hd2⟩:=hcut
    have q6:=Hd2.out.cell 6 rfl
    have qg:=Hd2.out.1
    clear b0 b1 b2 b3 b4 b5 b6 b7 b8 b9 bg e0 e1 e2 e3 e4 e5 e6 eg
    clear ob0 ob1 obf0 obg1
    have Hx2:=qh Hst.out.1
    go_wp2_with fail
    go_loopg [10,35] (dedAt l j).ci.length (fun q u10 u35 wq=>∃ (m:Nat) (kv' : Value),m+q=(dedAt l j).ci.length∧u35=.int .i64 m∧Hid (NwSt 40 135 w1 (NS ++ [X]) (NL ++ nkTo l j m) sv' kv' wq))
    case atStart=>exact ⟨0,_,by omega,rfl,by rw [show nkTo l j 0=[] from rfl,List.append_nil];exact Hst⟩
    clear Hst Hd2 q6 qg
    case round =>
     obtain ⟨m,kv', hm,rfl,Hs3⟩:=hrel
     obtain ⟨hx3,hb3,hn3⟩:=Hs3.out
     have Hx3:=qh hx3
     have HX3:=qh (HX1.out.trans hx3)
     by_cases hmt:m < (dedAt l j).ci.length
     ·obtain ⟨sb,so,rfl,_,hsb,hs1⟩:=Kc.out.at_ hmt
      have hmi:(m:Int) < ((dedAt l j).ci.length:Int):=by omega
      have sc:=(HX3.out.cell (p:=⟨sb,so+m,none⟩) hsb).trans hs1
      have sg:=Nat.lt_of_lt_of_le hsb HX3.out.size
      obtain ⟨y,ey⟩:∃ y,ddIx l (strAt (dedAt l j).ci m)=y:=⟨_,rfl⟩
      have HDI:=qh (fun (W0:World) (hX:Ext w W0)=>show Calls Tryz.prog 83 #[.slice (some ⟨kb,ko,none⟩) l.length c,.string (strAt (dedAt l j).ci m)] W0 (RetX (.int .i64 y) W0) from by rw [← ey];exact impl_deedIndex _ l _ W0 (Hd.out.up hX))
      have Hm:=qh (show nkTo l j (m+1)=nkTo l j m ++ [⟨y,j,0,730499⟩] from by rw [← ey];rfl)
      obtain ⟨KL,eK⟩:∃ KL,NL ++ nkTo l j m=KL:=⟨_,rfl⟩
      have HKL:=qh eK
      have hkl2:KL.length ≤ 72:=by rw [← eK,List.length_append,nkTo_len];omega
      rw [eK] at hn3
      obtain ⟨⟨As3,cs3,rfl⟩,⟨Ak3,ck3,rfl⟩⟩:=hn3.slices
      have Hb3:=qh hb3
      have ob1:=hb3.at1
      have ob0:=hb3.at0
      have obf1:=hb3.fz 1 (by simp)
      have obg1:=hb3.1
      have Hn3:=qh hn3
      obtain ⟨f,g,hf⟩:=hn3
      have Hf:=qh hf
      clear hf hb3 hx3 eK ey hs1
      go_wp2_with fail
      go_region_law (first
       | (refine step_append_row rfl (.tmp 40) (.tmp 46) 76 rfl (w1.heap.size+1) 135 4 32 Tryz.underlying76 (by kernel_rfl) (by omega) _ KL.length 1 _ rfl (Hf.out.ext exts).k (.inr (by omega)) 0 _ _ (linkCell [⟨y,j,0,730499⟩]) rfl ((Boxed.new w2 [.int .i64 y,.int .i64 j,.int .i64 0,.int .i64 730499] 135).row rfl (link_cell1 y j 0 730499)) (fun i _=>linkCell_one _ i) (by unfold maxLen;omega) (by omega) (by have:=(show Ext wr w2 from exts).size;simp at this ⊢;omega) ?_;intro v3 w3 hown3 hput3;obtain ⟨Av3,cv3,rfl⟩:=ownsRow_len hown3;have hob3:Boxed w3 w1.heap.size [.slice As3 (NS ++ [X]).length cs3,.slice Ak3 KL.length ck3]:=Boxed.off (Hb3.out.ext exts) hput3.1 (fun hh=>by have:=hh.1;omega);have ho3:=hob3.at1;have ho3f:=hob3.fz 1 (by simp);have Hob3:=qh hob3;clear hob3)
       | (go_simp;go_at_call 83;refine Calls.mono (HDI.out _ (HX3.out.trans exts)) ?_;rintro e w2 ⟨rfl,hx2⟩;have ho2:=(Hb3.out.ext (show Ext wr w2 from exts)).at1;have ho2a:=(Hb3.out.ext (show Ext wr (w2.alloc (.cells #[.int .i64 y,.int .i64 j,.int .i64 0,.int .i64 730499] 135)) from exts)).at1))
      all_goals
       have hEa:Ext wr (w2.alloc (.cells #[.int .i64 y,.int .i64 j,.int .i64 0,.int .i64 730499] 135)):=exts
       have Hst:=qh (NetG.pushK (lk:=⟨y,j,0,730499⟩) Hn3.out hEa hput3 hown3)
       have Hx4:=qh (hput3.ext (Hx3.out.trans hEa) (Nat.le_succ _))
       clear hown3 hput3
       go_wp2_with fail
       go_roundg ((dedAt l j).ci.length - (m+1))
       case measure=>omega
       case rel=>exact ⟨m+1,_,by omega,by go_num,qh (by
        rw [Hm.out,← List.append_assoc,HKL.out]
        exact ⟨Hx4.out.setCell (Nat.le_refl _) _,Hob3.out.set 1 _ (by simp),Hst.out.off (Off.setCell (Off.refl (fun k=>k=w1.heap.size) w3) (.inl rfl) _) (fun k hk hh=>by omega)⟩)⟩
     ·obtain rfl:m=(dedAt l j).ci.length:=by omega
      clear hx3 hb3 hn3
      go_wp2_with fail
      go_roundg (l.length - (j+1))
      case measure=>omega
      case rel=>exact ⟨j+1,sv', kv', by omega,by go_num,by
       show NwSt _ _ _ (nwS W l j ++ [ownL W (dedAt l j) (-1)]) (nwL l j ++ nkTo l j (dedAt l j).ci.length) _ _ _
       rw [HNS.out,HNL.out,HXo.out]
       exact Hs3.out⟩
  ·obtain rfl:j=l.length:=by omega
   have ob0:=Hob.out.at0
   have ob1:=Hob.out.at1
   have Hr9:=qh (HR.out.ext (Hx1.out.trans Hxr.out))
   have r0:=Hr9.out.at0
   have r1:=Hr9.out.at1
   have rf0:=Hr9.out.fz 0 (by simp)
   have rf1:=Hr9.out.fz 1 (by simp)
   have rg:=Hr9.out.1
   obtain ⟨q,eq⟩:∃ q,B (NetOk (nwN W l))=q:=⟨_,rfl⟩
   have HQ:=qh eq
   have hN:nwN W l=⟨NS,NL⟩:=by unfold nwN;rw [HNS.out,HNL.out]
   have HN:=qh hN
   rw [hN] at eq
   have HI:=qh (fun (W0:World) (hX:Ext wr W0)=>show Calls Tryz.prog 84 #[.agg #[.slice As l.length cs,.slice Ak NL.length ck]] W0 (RetX (.bool q) W0) from by rw [← eq];exact impl_IsNetwork _ _ _ W0 (NetIn.up ((Hng.out.done).netIn (Nat.le_refl _)) hX))
   have hzz:=HXr.out.size
   clear eq hN
   go_wp2_with fail
   refine Calls.mono (HI.out _ exts) ?_
   rintro e w2 ⟨rfl,hx2⟩
   have Hr2:=qh (Hr9.out.ext hx2)
   have HO2:=qh (Hob.out.ext hx2)
   have Hn2:=qh ((Hng.out.ext hx2).done)
   have HX2:=qh (HXr.out.trans hx2)
   have hz2:=hx2.size
   clear r0 r1 rf0 rf1 rg ob0 ob1 hx2
   have r0:=Hr2.out.at0
   have r1:=Hr2.out.at1
   have rf0:=Hr2.out.fz 0 (by simp)
   have rf1:=Hr2.out.fz 1 (by simp)
   have rg:=Hr2.out.1
   have ob0:=HO2.out.at0
   have ob1:=HO2.out.at1
   have og:=HO2.out.1
   cases q
   ·have Hv:=qh (nw_lim Hok.out (B_not.1 HQ.out))
    go_wp2_with fail
    refine bodyPost_ret (v:=.tuple #[.agg #[.slice none 0 0,.slice none 0 0],.int .i64 3]) (by simp [results,Tryz.results31,go_sem, *]) rfl ?_
    rw [Hv.out.1,Hv.out.2]
    exact NewNetX2.nil 3 ((HX2.out.setCell (by show w.heap.size ≤ w.heap.size+1;omega) _).setCell (by show w.heap.size ≤ w.heap.size+1;omega) _)
   ·have Hv:=qh (nw_ok Hok.out (B_iff.1 HQ.out))
    go_wp2_with fail
    refine bodyPost_ret (v:=.tuple #[.agg #[.slice As l.length cs,.slice Ak NL.length ck],.int .i64 0]) (by simp [results,Tryz.results31,go_sem, *]) rfl ?_
    rw [Hv.out.1,Hv.out.2]
    refine ⟨_,_,rfl,(HX2.out.setCell (by show w.heap.size ≤ w.heap.size+1;omega) _).setCell (by show w.heap.size ≤ w.heap.size+1;omega) _,?_⟩
    have h9:=(Hn2.out.mono (lo' := w1.heap.size) (Nat.le_succ _)).off' (R:=fun k=>k=w.heap.size+1) (Off.setCell (Off.setCell (Off.refl (fun k=>k=w.heap.size+1) w2) (p:=⟨w.heap.size+1,0,none⟩) (.inl rfl) (.slice As l.length cs)) (p:=⟨w.heap.size+1,1,none⟩) (.inl rfl) (.slice Ak NL.length ck)) (fun k h1 h2 h3=>by omega) (Nat.le_refl _)
    rw [HN.out]
    exact NetX.wide (h9.mono (by omega)) (by simp [World.setCell])
theorem NetG.bare (TS TL:TypeId) {lo a b:Nat} {w:World} (ha:a < w.heap.size) (hb:b < w.heap.size) (hne:a ≠ b):NetG TS TL lo w (.slice (some ⟨a,0,none⟩) 0 0) (.slice (some ⟨b,0,none⟩) 0 0) [] [] :=
 ⟨fun _=>.bool true,fun _=>0,.inr ⟨rfl,rfl,⟨_,rfl⟩,fun g hg=>by have hg:some a=some g:=hg;injection hg with hg;omega⟩,.inr ⟨rfl,rfl,⟨_,rfl⟩,fun g hg=>by have hg:some b=some g:=hg;injection hg with hg;omega⟩,
  fun i hi=>absurd hi (by simp),fun i j hi=>absurd hi (by simp),fun g h1 h2=>by
   have h1:some a=some g:=h1
   have h2:some b=some g:=h2
   injection h1 with h1
   injection h2 with h2
   omega⟩
set_option maxRecDepth 100000 in
set_option maxHeartbeats 16000000 in
theorem spec_NetworkOf (vr vp vt vl vw vs vse vha v:Value) (W:Wrl) (l:List Ded) (w:World) (h:WrlAt w 0 w.heap.size vr vp vt vl vw vs vse vha W) (hd:Deds w 0 w.heap.size v l) (hsm:WSm W) (hnm:DsNm l) :
  Calls Tryz.prog 30 #[.agg #[vr,.int .i64 W.ch.fr,.int .i64 W.ch.to,vp,vt,vl,vw,vs,vse,vha],v] w (NewNetX2 (nwR W l) (nwE W l) w):=by
 obtain ⟨A,c,rfl,hn,hc⟩:=hd.len
 have H:=qh h
 have Hd:=qh hd
 have HB:=qh ((Boxed.new w [vr,.int .i64 W.ch.fr,.int .i64 W.ch.to,vp,vt,vl,vw,vs,vse,vha] 56).ext ((Ext.refl _).alloc (.cells #[.slice none 0 0,.slice none 0 0] 78)))
 have HR:Hid (Boxed ((w.alloc (.cells #[vr,.int .i64 W.ch.fr,.int .i64 W.ch.to,vp,vt,vl,vw,vs,vse,vha] 56)).alloc (.cells #[.slice none 0 0,.slice none 0 0] 78)) (w.heap.size+1) [.slice none 0 0,.slice none 0 0]):=qh (by
  have h9:=Boxed.new (w.alloc (.cells #[vr,.int .i64 W.ch.fr,.int .i64 W.ch.to,vp,vt,vl,vw,vs,vse,vha] 56)) [.slice none 0 0,.slice none 0 0] 78
  rw [World.size_alloc] at h9
  exact h9)
 clear h hd
 obtain ⟨q,eq⟩:∃ q,B (DedsOk W l)=q:=⟨_,rfl⟩
 have Hq:=qh eq
 clear eq
 go_enter Tryz.func30,Tryz.ntmps30
 go_wp2_with fail
 refine Calls.mono (spec_AreDeeds vr vp vt vl vw vs vse vha _ W l _ (H.out.up exts) (Hd.out.up exts) hsm hnm) ?_
 rintro e w1 ⟨rfl,hx1⟩
 rw [Hq.out]
 have hx:Ext w w1:=exts
 have Hx1:=qh hx1
 have HX1:=qh hx
 have rb:=HR.out.ext hx1;have rb0:=rb.at0;have rb1:=rb.at1;have rbg:=rb.1;have Hrb:=qh rb;clear rb
 have rbf0:=Hrb.out.fz 0 (by simp)
 have rbf1:=Hrb.out.fz 1 (by simp)
 clear hx1 hx
 cases q
 case false =>
  have Hv:=qh (nw_no (B_not.1 Hq.out))
  go_wp2_with fail
  refine bodyPost_ret (v:=.tuple #[.agg #[.slice none 0 0,.slice none 0 0],.int .i64 1]) (by simp [results,Tryz.results30,go_sem, *]) rfl ?_
  rw [Hv.out.1,Hv.out.2]
  exact NewNetX2.nil 1 ((HX1.out.setCell (by show w.heap.size ≤ w.heap.size+1;omega) _).setCell (by show w.heap.size ≤ w.heap.size+1;omega) _)
 have Hok:=qh (B_iff.1 Hq.out)
 have hl8:=Hok.out.2.1
 have Hci:=qh (show ∀ i,i < l.length → (dedAt l i).ci.length ≤ 8 from fun i hi=>(Hok.out.2.2 i hi).1.2.2.2.1)
 have HSI:=qh (fun (k:Nat) (hk:k < l.length) (vd vwi:Value) (w' : World) (hX:Ext w w') (h1:Clss w' 0 w'.heap.size vd (dedAt l k).dt) (h2:Wits w' 0 w'.heap.size vwi (dedAt l k).wi)=>src_in (H.out.up hX) Hok.out hk h1 h2)
 have hrb1:w.heap.size+1 < w1.heap.size:=rbg
 have hwb1:w.heap.size < w1.heap.size:=by omega
 clear rb0 rb1 rbg rbf0 rbf1
 go_upto_region 4 with fail
 obtain ⟨wB,hwB⟩:∃ y,y=((w1.alloc (.cells #[] 40)).alloc (.cells #[] 135)):=⟨_,rfl⟩
 have HxB:=qh (show Ext w1 wB from by rw [hwB];exact ((Ext.refl _).alloc _).alloc _)
 have hzB:wB.heap.size=w1.heap.size+1+1:=by rw [hwB];simp
 have HXB:=qh (HX1.out.trans HxB.out)
 rw [← hwB]
 rw [← hzB]
 have hzB1:w1.heap.size+1 < wB.heap.size:=by omega
 clear hwB hzB
 go_wp2_with fail
 go_loopg [7,8] l.length (fun q i u8 wr=>∃ (j:Nat) (sv kv:Value),j+q=l.length∧i=.int .i64 j∧NwSt 40 135 wB (nwS W l j) (nwL l j) sv kv wr)
 case atStart=>exact ⟨0,.slice (some ⟨w1.heap.size,0,none⟩) 0 0,.slice (some ⟨w1.heap.size+1,0,none⟩) 0 0,by omega,rfl,(Ext.refl _).alloc _,Boxed.new wB _ _,NetG.bare _ _ (by simp;omega) (by simp;omega) (by omega)⟩
 case round =>
  obtain ⟨j,sv,kv,hj,rfl,hx,hbx,hng⟩:=hrel
  obtain ⟨NS,eNS⟩:∃ x,nwS W l j=x:=⟨_,rfl⟩
  obtain ⟨NL,eNL⟩:∃ x,nwL l j=x:=⟨_,rfl⟩
  have HNS:=qh eNS
  have HNL:=qh eNL
  have hsl:NS.length=j:=by rw [← eNS];exact nwS_len W l j
  have hkl:NL.length ≤ 64:=by rw [← eNL];have:=nwL_len Hci.out j (by omega);omega
  rw [eNS,eNL] at hng
  clear eNS eNL
  obtain ⟨⟨As,cs,rfl⟩,⟨Ak,ck,rfl⟩⟩:=hng.slices
  rw [hsl] at hbx hng
  have Hxr:=qh hx
  have HXr:=qh (HXB.out.trans hx)
  have Hob:=qh hbx
  have Hng:=qh hng
  have obg:=hbx.1
  clear hbx hng hx
  by_cases hlt:j < l.length
  ·have hji:(j:Int) < (l.length:Int):=by omega
   obtain ⟨kb,ko,vd,vwi,vci,eA,_,kg0,c0,c1,c2,c3,c4,c5,c6,kd,kw,kc⟩:=Hd.out.at_ hlt
   obtain ⟨Ac,cc,rfl,hcn,hcc⟩:=kc.len
   obtain ⟨Ad,cd,rfl,hdn,hdc⟩:=kd.len
   obtain ⟨Aw,cw,rfl,hwn,hwc⟩:=kw.len
   subst eA
   have d0:=(HXr.out.cell (p:=⟨kb,ko+j * 7,none⟩) kg0).trans c0
   have d1:=(HXr.out.cell (p:=⟨kb,ko+j * 7+1,none⟩) kg0).trans c1
   have d2:=(HXr.out.cell (p:=⟨kb,ko+j * 7+2,none⟩) kg0).trans c2
   have d3:=(HXr.out.cell (p:=⟨kb,ko+j * 7+3,none⟩) kg0).trans c3
   have d4:=(HXr.out.cell (p:=⟨kb,ko+j * 7+4,none⟩) kg0).trans c4
   have d5:=(HXr.out.cell (p:=⟨kb,ko+j * 7+5,none⟩) kg0).trans c5
   have d6:=(HXr.out.cell (p:=⟨kb,ko+j * 7+6,none⟩) kg0).trans c6
   have kg:kb < wr.heap.size:=Nat.lt_of_lt_of_le kg0 HXr.out.size
   have HC6:=qh (fun (W0:World) (hX:Ext w W0)=>show W0.cell? ⟨kb,ko+j * 7+6,none⟩=some (.slice Ac (dedAt l j).ci.length cc)∧kb < W0.heap.size from ⟨(hX.cell (p:=⟨kb,ko+j * 7+6,none⟩) kg0).trans c6,Nat.lt_of_lt_of_le kg0 hX.size⟩)
   clear c0 c1 c2 c3 c4 c5 c6
   have Kd:=qh kd
   have Kw:=qh kw
   have Kc:=qh kc
   clear kd kw kc
   have hc8:=Hci.out j hlt
   obtain ⟨X,eX⟩:∃ X,ownL W (dedAt l j) (-1)=X:=⟨_,rfl⟩
   have HXo:=qh eX
   clear eX
   have b0:=(HB.out.ext (Hx1.out.trans (HxB.out.trans Hxr.out))).cell 0 rfl
   have b1:=(HB.out.ext (Hx1.out.trans (HxB.out.trans Hxr.out))).cell 1 rfl
   have b2:=(HB.out.ext (Hx1.out.trans (HxB.out.trans Hxr.out))).cell 2 rfl
   have b3:=(HB.out.ext (Hx1.out.trans (HxB.out.trans Hxr.out))).cell 3 rfl
   have b4:=(HB.out.ext (Hx1.out.trans (HxB.out.trans Hxr.out))).cell 4 rfl
   have b5:=(HB.out.ext (Hx1.out.trans (HxB.out.trans Hxr.out))).cell 5 rfl
   have b6:=(HB.out.ext (Hx1.out.trans (HxB.out.trans Hxr.out))).cell 6 rfl
   have b7:=(HB.out.ext (Hx1.out.trans (HxB.out.trans Hxr.out))).cell 7 rfl
   have b8:=(HB.out.ext (Hx1.out.trans (HxB.out.trans Hxr.out))).cell 8 rfl
   have b9:=(HB.out.ext (Hx1.out.trans (HxB.out.trans Hxr.out))).cell 9 rfl
   have bg:=(HB.out.ext (Hx1.out.trans (HxB.out.trans Hxr.out))).1
   have ob0:=Hob.out.at0
   have obf0:=Hob.out.fz 0 (by simp)
   go_upto_region 7 with fail
   go_cut [32] (fun s32 wc=>∃ sv', s32=sv' ∧ Hid (NwSt 40 135 wB (NS ++ [X]) NL sv' (.slice Ak NL.length ck) wc))
   case first =>
    obtain ⟨f,g,hf⟩:=Hng.out
    have Hf:=qh hf
    clear hf
    go_region_law (first
     | (refine step_append_row rfl (.tmp 24) (.tmp 31) 75 rfl (wB.heap.size+1) 40 1 24 Tryz.underlying75 (by kernel_rfl) (by omega) _ NS.length 1 _ rfl (Hf.out.ext exts).s (.inr (by omega)) 0 _ _ (fun _=>.slice Aa X.length ca) rfl ((Boxed.new w2 [.slice Aa X.length ca] 40).row1) (fun _ _=>rfl) (by unfold maxLen;omega) (by omega) (by have:=(show Ext wr w2 from exts).size;simp at this ⊢;omega) ?_;intro v3 w3 hown3 hput3;obtain ⟨Av3,cv3,rfl⟩:=ownsRow_len hown3;have hob3:Boxed w3 wB.heap.size [.slice As j cs,.slice Ak NL.length ck]:=Boxed.off (Hob.out.ext exts) hput3.1 (fun hh=>by have:=hh.1;omega);have ho3:=hob3.at0;have ho3f:=hob3.fz 0 (by simp);have Hob3:=qh hob3;clear hob3)
     | (go_simp;go_at_call 74;refine Calls.mono (spec_l17Own vr vp vt vl vw vs vse vha _ _ _ W l (dedAt l j) (-1) _ ((HSI.out j hlt _ _ w (Ext.refl _) Kd.out Kw.out).up (HXr.out.trans exts))) ?_;rintro e w2 ⟨ua,rfl,hx2,hoa⟩;rw [HXo.out] at hoa;obtain ⟨Aa,ca,rfl⟩:=ownsRow_len hoa;have ho2:=(Hob.out.ext (show Ext wr w2 from exts)).at0;have ho2a:=(Hob.out.ext (show Ext wr (w2.alloc (.cells #[.slice Aa X.length ca] 40)) from exts)).at0;(try (rw [HXo.out]))))
    all_goals
     rw [hsl] at hown3 hput3
     have hEa:Ext wr (w2.alloc (.cells #[.slice Aa X.length ca] 40)):=exts
     have Hst:Hid (NetG 40 135 (wB.heap.size+1) w3 (.slice Av3 (j+1) cv3) (.slice Ak NL.length ck) (NS ++ [X]) NL):=qh (by
      obtain ⟨gu,hgu,hou⟩:=Own.of_owned hoa
      refine NetG.pushS (gu:=gu) (u:=.slice Aa X.length ca) Hf.out hEa (fun hp=>?_) (by omega) (hou.ext ((Ext.refl _).alloc _)) hput3 (by rw [hsl];exact hown3)
      have h9:=(hgu hp).2
      refine Nat.le_trans ?_ h9
      exact Ext.size exts)
     have Hx3:=qh (hput3.ext (Hxr.out.trans hEa) (Nat.le_succ _))
     clear hown3 hput3 hoa
     go_wp2_with fail
     go_meet
     exact ⟨_,rfl,qh ⟨Hx3.out.setCell (Nat.le_refl _) _,Hob3.out.set 0 _ (by simp),Hst.out.off (Off.setCell (Off.refl (fun k=>k=wB.heap.size) w3) (.inl rfl) _) (fun k hk hh=>by omega)⟩⟩
   case rest =>
    obtain ⟨sv', -,Hst⟩:=hcut
    clear b0 b1 b2 b3 b4 b5 b6 b7 b8 b9 bg
    clear ob0 obf0 d0 d1 d2 d3 d4 d5 d6 kg obg
    go_wp2_with fail
    go_loopg [8] (dedAt l j).ci.length (fun q u8 wq=>∃ (m:Nat) (kv' : Value),m+q=(dedAt l j).ci.length∧u8=.int .i64 m∧Hid (NwSt 40 135 wB (NS ++ [X]) (NL ++ nkTo l j m) sv' kv' wq))
    case atStart=>exact ⟨0,_,by omega,rfl,by rw [show nkTo l j 0=[] from rfl,List.append_nil];exact Hst⟩
    clear Hst
    case round =>
     obtain ⟨m,kv', hm,rfl,Hs3⟩:=hrel
     obtain ⟨hx3,hb3,hn3⟩:=Hs3.out
     have Hx3:=qh hx3
     have HX3:=qh (HXB.out.trans hx3)
     obtain ⟨d6,kg⟩:=HC6.out _ HX3.out
     by_cases hmt:m < (dedAt l j).ci.length
     ·obtain ⟨sb,so,rfl,_,hsb,hs1⟩:=Kc.out.at_ hmt
      have hmi:(m:Int) < ((dedAt l j).ci.length:Int):=by omega
      have sc:=(HX3.out.cell (p:=⟨sb,so+m,none⟩) hsb).trans hs1
      have sg:=Nat.lt_of_lt_of_le hsb HX3.out.size
      obtain ⟨y,ey⟩:∃ y,ddIx l (strAt (dedAt l j).ci m)=y:=⟨_,rfl⟩
      have HDI:=qh (fun (W0:World) (hX:Ext w W0)=>show Calls Tryz.prog 80 #[.slice (some ⟨kb,ko,none⟩) l.length c,.string (strAt (dedAt l j).ci m)] W0 (RetX (.int .i64 y) W0) from by rw [← ey];exact spec_l17Find _ l _ W0 (Hd.out.up hX))
      have Hm:=qh (show nkTo l j (m+1)=nkTo l j m ++ [⟨y,j,0,730499⟩] from by rw [← ey];rfl)
      obtain ⟨KL,eK⟩:∃ KL,NL ++ nkTo l j m=KL:=⟨_,rfl⟩
      have HKL:=qh eK
      have hkl2:KL.length ≤ 72:=by rw [← eK,List.length_append,nkTo_len];omega
      rw [eK] at hn3
      obtain ⟨⟨As3,cs3,rfl⟩,⟨Ak3,ck3,rfl⟩⟩:=hn3.slices
      have Hb3:=qh hb3
      have ob1:=hb3.at1
      have obf1:=hb3.fz 1 (by simp)
      have obg1:=hb3.1
      have Hn3:=qh hn3
      obtain ⟨f,g,hf⟩:=hn3
      have Hf:=qh hf
      clear hf hb3 hx3 eK ey hs1
      go_upto_region 11 with fail
      go_region_law (first
       | (refine step_append_row rfl (.tmp 45) (.tmp 58) 76 rfl (wB.heap.size+1) 135 4 32 Tryz.underlying76 (by kernel_rfl) (by omega) _ KL.length 1 _ rfl (Hf.out.ext exts).k (.inr (by omega)) 0 _ _ (linkCell [⟨y,j,0,730499⟩]) rfl ((Boxed.new w2 [.int .i64 y,.int .i64 j,.int .i64 0,.int .i64 730499] 135).row rfl (link_cell1 y j 0 730499)) (fun i _=>linkCell_one _ i) (by unfold maxLen;omega) (by omega) (by have:=(show Ext wr w2 from exts).size;simp at this ⊢;omega) ?_;intro v3 w3 hown3 hput3;obtain ⟨Av3,cv3,rfl⟩:=ownsRow_len hown3;have hob3:Boxed w3 wB.heap.size [.slice As3 (NS ++ [X]).length cs3,.slice Ak3 KL.length ck3]:=Boxed.off (Hb3.out.ext exts) hput3.1 (fun hh=>by have:=hh.1;omega);have ho3:=hob3.at1;have ho3f:=hob3.fz 1 (by simp);have Hob3:=qh hob3;clear hob3)
       | (go_simp;go_at_call 80;refine Calls.mono (HDI.out _ (HX3.out.trans exts)) ?_;rintro e w2 ⟨rfl,hx2⟩;have ho2:=(Hb3.out.ext (show Ext wr w2 from exts)).at1;have ho2a:=(Hb3.out.ext (show Ext wr (w2.alloc (.cells #[.int .i64 y,.int .i64 j,.int .i64 0,.int .i64 730499] 135)) from exts)).at1))
      all_goals
       have hEa:Ext wr (w2.alloc (.cells #[.int .i64 y,.int .i64 j,.int .i64 0,.int .i64 730499] 135)):=exts
       have Hst:=qh (NetG.pushK (lk:=⟨y,j,0,730499⟩) Hn3.out hEa hput3 hown3)
       have Hx4:=qh (hput3.ext (Hx3.out.trans hEa) (Nat.le_succ _))
       clear hown3 hput3
       go_wp2_with fail
       go_roundg ((dedAt l j).ci.length - (m+1))
       case measure=>omega
       case rel=>exact ⟨m+1,_,by omega,by go_num,qh (by
        rw [Hm.out,← List.append_assoc,HKL.out]
        exact ⟨Hx4.out.setCell (Nat.le_refl _) _,Hob3.out.set 1 _ (by simp),Hst.out.off (Off.setCell (Off.refl (fun k=>k=wB.heap.size) w3) (.inl rfl) _) (fun k hk hh=>by omega)⟩)⟩
     ·obtain rfl:m=(dedAt l j).ci.length:=by omega
      clear hx3 hb3 hn3
      go_wp2_with fail
      go_roundg (l.length - (j+1))
      case measure=>omega
      case rel=>exact ⟨j+1,sv', kv', by omega,by go_num,by
       show NwSt _ _ _ (nwS W l j ++ [ownL W (dedAt l j) (-1)]) (nwL l j ++ nkTo l j (dedAt l j).ci.length) _ _ _
       rw [HNS.out,HNL.out,HXo.out]
       exact Hs3.out⟩
  ·obtain rfl:j=l.length:=by omega
   have ob0:=Hob.out.at0
   have ob1:=Hob.out.at1
   have Hr9:=qh (HR.out.ext (Hx1.out.trans (HxB.out.trans Hxr.out)))
   have r0:=Hr9.out.at0
   have r1:=Hr9.out.at1
   have rf0:=Hr9.out.fz 0 (by simp)
   have rf1:=Hr9.out.fz 1 (by simp)
   have rg:=Hr9.out.1
   obtain ⟨q,eq⟩:∃ q,B (NetOk (nwN W l))=q:=⟨_,rfl⟩
   have HQ:=qh eq
   have hN:nwN W l=⟨NS,NL⟩:=by unfold nwN;rw [HNS.out,HNL.out]
   have HN:=qh hN
   rw [hN] at eq
   have HI:=qh (fun (W0:World) (hX:Ext wr W0)=>show Calls Tryz.prog 81 #[.agg #[.slice As l.length cs,.slice Ak NL.length ck]] W0 (RetX (.bool q) W0) from by rw [← eq];exact spec_IsNetwork _ _ _ W0 (NetIn.up ((Hng.out.done).netIn (Nat.le_refl _)) hX))
   have hzz:=HXr.out.size
   clear eq hN
   go_wp2_with fail
   refine Calls.mono (HI.out _ exts) ?_
   rintro e w2 ⟨rfl,hx2⟩
   have Hr2:=qh (Hr9.out.ext hx2)
   have HO2:=qh (Hob.out.ext hx2)
   have Hn2:=qh ((Hng.out.ext hx2).done)
   have HX2:=qh (HXr.out.trans hx2)
   have hz2:=hx2.size
   clear r0 r1 rf0 rf1 rg ob0 ob1 hx2
   have r0:=Hr2.out.at0
   have r1:=Hr2.out.at1
   have rf0:=Hr2.out.fz 0 (by simp)
   have rf1:=Hr2.out.fz 1 (by simp)
   have rg:=Hr2.out.1
   have ob0:=HO2.out.at0
   have ob1:=HO2.out.at1
   have og:=HO2.out.1
   cases q
   ·have Hv:=qh (nw_lim Hok.out (B_not.1 HQ.out))
    go_wp2_with fail
    refine bodyPost_ret (v:=.tuple #[.agg #[.slice none 0 0,.slice none 0 0],.int .i64 3]) (by simp [results,Tryz.results30,go_sem, *]) rfl ?_
    rw [Hv.out.1,Hv.out.2]
    exact NewNetX2.nil 3 ((HX2.out.setCell (by show w.heap.size ≤ w.heap.size+1;omega) _).setCell (by show w.heap.size ≤ w.heap.size+1;omega) _)
   ·have Hv:=qh (nw_ok Hok.out (B_iff.1 HQ.out))
    go_wp2_with fail
    refine bodyPost_ret (v:=.tuple #[.agg #[.slice As l.length cs,.slice Ak NL.length ck],.int .i64 0]) (by simp [results,Tryz.results30,go_sem, *]) rfl ?_
    rw [Hv.out.1,Hv.out.2]
    refine ⟨_,_,rfl,(HX2.out.setCell (by show w.heap.size ≤ w.heap.size+1;omega) _).setCell (by show w.heap.size ≤ w.heap.size+1;omega) _,?_⟩
    have h9:=(Hn2.out.mono (lo' := wB.heap.size) (Nat.le_succ _)).off' (R:=fun k=>k=w.heap.size+1) (Off.setCell (Off.setCell (Off.refl (fun k=>k=w.heap.size+1) w2) (p:=⟨w.heap.size+1,0,none⟩) (.inl rfl) (.slice As l.length cs)) (p:=⟨w.heap.size+1,1,none⟩) (.inl rfl) (.slice Ak NL.length ck)) (fun k h1 h2 h3=>by omega) (Nat.le_refl _)
    rw [HN.out]
    exact NetX.wide (h9.mono (by omega)) (by simp [World.setCell])
end Go.Proofs.YtechbeegbhlppaaGreatDoor
