/- Texts merged (a claim holds at most sixty files): Wj, Wk. -/
import Derived.Test.YtechbeegbhlppaaGreatDoorS2We
import Derived.Test.YtechbeegbhlppaaGreatDoorS2Wa
import Derived.Test.YtechbeegbhlppaaGreatDoorS2Jd
import Derived.Test.YtechbeegbhlppaaGreatDoorS2Wh
import Derived.Test.YtechbeegbhlppaaGreatDoorS2Vv
import Derived.Test.YtechbeegbhlppaaGreatDoorS2Jg
namespace Go.Proofs.YtechbeegbhlppaaGreatDoor
set_option linter.unusedVariables false
set_option linter.unusedSimpArgs false
open Go.RowKit
attribute [local go_sem] cell_onto
structure SrcIn (w:World) (vr vp vt vl vw vs vse vha vd vwi:Value) (W:Wrl) (ds:List Ded) (d:Ded):Prop where
 at_:WrlAt w 0 w.heap.size vr vp vt vl vw vs vse vha W
 ok:WrlOk W
 dt:Clss w 0 w.heap.size vd d.dt
 wi:Wits w 0 w.heap.size vwi d.wi
 inn:DedIn W ds d
theorem SrcIn.up {w w' : World} {vr vp vt vl vw vs vse vha vd vwi:Value} {W:Wrl} {ds:List Ded} {d:Ded} (h:SrcIn w vr vp vt vl vw vs vse vha vd vwi W ds d) (hx:Ext w w'):SrcIn w' vr vp vt vl vw vs vse vha vd vwi W ds d :=
 ⟨h.at_.up hx,h.ok,h.dt.up hx,h.wi.up hx,h.inn⟩
theorem rg_days {W:Wrl} (h:WrlOk W):∀ i,i < W.ch.rg.length → 0 ≤ (nspAt W.ch.rg i).fr∧(nspAt W.ch.rg i).fr ≤ 730499:=fun i hi=>(h.1.1.2 i hi).1.2.1
theorem way_ok_pl {W:Wrl} {ds:List Ded} {d:Ded} (h:WrlOk W) (hd:DedIn W ds d) (hp:d.pl ≠ ⟨#[]⟩):∀ a,a < W.ld.pl.length → (frmV W.ld.pl.length W.ld.wy (placeOf W d).toNat a < 0∧frmV W.ld.pl.length W.ld.wy (placeOf W d).toNat a = -1∧plD W d a=1000000) ∨ (0 ≤ frmV W.ld.pl.length W.ld.wy (placeOf W d).toNat a∧frmV W.ld.pl.length W.ld.wy (placeOf W d).toNat a ≤ 57600∧plD W d a=frmV W.ld.pl.length W.ld.wy (placeOf W d).toNat a):=fun a ha=>by
 obtain ⟨⟨p0,p1⟩,_⟩:=pl_tr h hd hp
 obtain ⟨⟨n1,n2⟩,w40,_,hw⟩:=h.2.2.1.1
 exact way_of hw w40 n2 (by omega) ha
theorem setd_len {a b:List Sp} (ha:SetD a) (hb:SetD b):a.length+b.length ≤ 4194304:=by have:=ha.len;have:=hb.len;omega
set_option maxHeartbeats 1000000 in
theorem spec_l13All (w:World):Calls Tryz.prog 155 #[] w (NewOwn 111 2 (oneS 0 730499).length (spanCell (oneS 0 730499)) w):=by
 go_enter Tryz.func155,Tryz.ntmps155
 go_wp2_with fail
 go_ret
 exact ⟨_,rfl,(Ext.refl _).alloc _,rowSp1 w _ 0 730499⟩
set_option maxRecDepth 100000 in
set_option maxHeartbeats 8000000 in
theorem spec_l13Signing (vp vt v:Value) (p:Ppl) (l:List Wit) (w:World) (hp:Nsps w 0 w.heap.size vp p.ps) (ht:Trms w 0 w.heap.size vt p.tm) (hv:Wits w 0 w.heap.size v l) (hok:PplOk p) (h12:l.length ≤ 12) (hx:∀ k,k < l.length → 0 ≤ psIx p.ps (witAt l k).pe) :
  Calls Tryz.prog 101 #[.agg #[vp,vt],v] w (NewOwn 111 2 (mtTo (oneS 0 730499) (fun k=>wdL p (witAt l k)) (fun _=>True) l.length).length (spanCell (mtTo (oneS 0 730499) (fun k=>wdL p (witAt l k)) (fun _=>True) l.length)) w):=by
 obtain ⟨Av,cv,rfl,hnv,hcv⟩:=hv.len
 have Hp:=qh hp
 have Ht:=qh ht
 have Hv:=qh hv
 have Hok:=qh hok
 have Hps:=qh hx
 have Hb:=qh (Boxed.new w [vp,vt] 49)
 obtain ⟨f,ef⟩:∃ f:Nat → List Sp,(fun k=>wdL p (witAt l k))=f:=⟨_,rfl⟩
 have HF:=qh (show ∀ k,wdL p (witAt l k)=f k from fun k=>congrFun ef k)
 rw [ef]
 have HD:=qh (fun k (hk:k ≤ l.length)=>(mtTo_ok (f:=f) (p:=fun _=>True) all_d k (fun i hi _=>by rw [← HF.out];exact wdL_d hok (hx i (by omega)))).1)
 have HFD:=qh (fun k (hk:k < l.length)=>show SetD (f k) from by rw [← HF.out];exact wdL_d hok (hx k hk))
 clear hp ht hv hok hx ef
 go_enter Tryz.func101,Tryz.ntmps101
 go_wp2_with fail
 refine Calls.mono (spec_l13All _) ?_
 rintro e w1 ⟨u0,rfl,hx1,ho0⟩
 have Hu0:=qh (show RowSp w1 w.heap.size 111 u0 (oneS 0 730499) from ownsRow_mono ho0 (by simp))
 have hxb1:Ext (w.alloc (.cells #[vp,vt] 49)) w1:=hx1
 clear ho0 hx1
 go_wp2_with fail
 go_loopg [5,6] l.length (fun q u5 i wr=>∃ j:Nat,j+q=l.length∧i=.int .i64 j∧Ext (w.alloc (.cells #[vp,vt] 49)) wr∧Hid (RowSp wr w.heap.size 111 u5 (mtTo (oneS 0 730499) f (fun _=>True) j)))
 case atStart=>exact ⟨0,by omega,rfl,hxb1,Hu0⟩
 case round =>
  obtain ⟨j,hj,rfl,hxr,Hr⟩:=hrel
  have HXr:=qh (show Ext w wr from exts)
  have bx:=Hb.out.ext hxr;have bx0:=bx.at0;have bx1:=bx.at1;have bxg:=bx.1;have Hbx:=qh bx;clear bx
  have hxr' := qh hxr
  by_cases hlt:j < l.length
  ·obtain ⟨b,off,rfl,_,hb,h1,h2⟩:=(Hv.out.ext HXr.out (Nat.le_refl _)).at_ hlt
   have hbr:b < wr.heap.size:=Nat.lt_of_lt_of_le hb HXr.out.size
   have hji:(j:Int) < (l.length:Int):=by omega
   have Hm:=qh (mtTo_yes (s:=oneS 0 730499) (f:=f) (p:=fun _=>True) (k:=j) trivial)
   clear hxr
   go_wp2_with fail
   go_region_held3 (fun w' => w'.cell? ⟨w.heap.size,0,none⟩=some vp∧w'.cell? ⟨w.heap.size,1,none⟩=some vt∧w'.cell? ⟨b,off+j * 2,none⟩=some (.string (witAt l j).pe)∧w'.cell? ⟨b,off+j * 2+1,none⟩=some (.string (witAt l j).of)∧Ext wr w')
    (exact Ext.and_cell bxg bx0 exts (Ext.and_cell bxg bx1 exts (Ext.and_cell hbr h1 exts (Ext.and_cell hbr h2 exts exts))))
    (first
     | (go_at_call 156;refine Calls.mono (spec_l13Could _ _ p (witAt l j) _ (Hp.out.up (HXr.out.trans exts)) (Ht.out.up (HXr.out.trans exts)) Hok.out (Hps.out j hlt)) ?_;rintro e wa ⟨ua,rfl,hxa,hoa⟩;have Hoa:=qh (show RowSp wa _ 111 ua (f j) from by rw [← HF.out];exact hoa);clear hoa)
     | (go_at_call 100;refine Calls.mono (spec_l02Meet _ _ (mtTo (oneS 0 730499) f (fun _=>True) j) (f j) _ (Hr.out.read.up exts) (Hoa.out.read.up exts) (setd_len (HD.out j (by omega)) (HFD.out j hlt)) (HD.out j (by omega)).bd (HFD.out j hlt).bd) ?_;rintro e wb ⟨ub,rfl,hxb,hob⟩;have Hob:=qh (show RowSp wb _ 111 ub (mtTo (oneS 0 730499) f (fun _=>True) (j+1)) from by rw [Hm.out];exact hob);clear hob))
   have hE:Ext wr wb:=exts
   have Hn:=qh (show w.heap.size ≤ wa.heap.size from Nat.le_trans HXr.out.size (show Ext wr wa from exts).size)
   clear h1 h2 bx0 bx1 bxg
   go_wp2_with fail
   go_roundg (l.length - (j+1))
   case measure=>omega
   case rel=>exact ⟨j+1,by omega,by go_num,hxr'.out.trans hE,qh (ownsRow_mono Hob.out Hn.out)⟩
  ·obtain rfl:j=l.length:=by omega
   go_wp2_with fail
   go_ret
   exact ⟨_,rfl,HXr.out,Hr.out⟩
set_option maxRecDepth 100000 in
set_option maxHeartbeats 8000000 in
theorem spec_src_0 (vr vp vt vl vw vs vse vha vd vwi vci:Value) (W:Wrl) (ds:List Ded) (d:Ded) (w:World) (h:SrcIn w vr vp vt vl vw vs vse vha vd vwi W ds d) :
  Calls Tryz.prog 44 #[.agg #[vr,.int .i64 W.ch.fr,.int .i64 W.ch.to,vp,vt,vl,vw,vs,vse,vha],.agg #[.string d.nm,vd,vwi,.string d.pl,.string d.se,.string d.ha,vci],.int .i64 0] w (NewOwn 111 2 (srcL W d 0).length (spanCell (srcL W d 0)) w):=by
 obtain ⟨⟨Hrg,Hps,Htm,Hpl,Hwy,Hst,Hse,Hha⟩,hok,hdt,hwi,hin⟩:=h
 obtain ⟨Avr,cvr,rfl,nvr,kvr⟩:=Hrg.len
 obtain ⟨Avl,cvl,rfl,nvl,kvl⟩:=Hpl.len
 have H:=qh (show SrcIn w (.slice Avr W.ch.rg.length cvr) vp vt (.slice Avl W.ld.pl.length cvl) vw vs vse vha vd vwi W ds d from ⟨⟨Hrg,Hps,Htm,Hpl,Hwy,Hst,Hse,Hha⟩,hok,hdt,hwi,hin⟩)
 clear Hrg Hps Htm Hpl Hwy Hst Hse Hha hok hdt hwi hin
 have Hch:=qh (chS_d H.out.ok)
 have HB1:=qh (Boxed.new w [.slice Avr W.ch.rg.length cvr,.int .i64 W.ch.fr,.int .i64 W.ch.to,vp,vt,.slice Avl W.ld.pl.length cvl,vw,vs,vse,vha] 56)
 have HB2:=qh (Boxed.new (w.alloc (.cells #[.slice Avr W.ch.rg.length cvr,.int .i64 W.ch.fr,.int .i64 W.ch.to,vp,vt,.slice Avl W.ld.pl.length cvl,vw,vs,vse,vha] 56)) [.string d.nm,vd,vwi,.string d.pl,.string d.se,.string d.ha,vci] 101)
 have Hsrc:=qh (srcL_0 W d)
 rw [Hsrc.out]
 go_enter Tryz.func44,Tryz.ntmps44
 go_upto_region 2 with fail
 obtain ⟨wx,hwx⟩:∃ y,y=(((w.alloc (.cells #[.slice Avr W.ch.rg.length cvr,.int .i64 W.ch.fr,.int .i64 W.ch.to,vp,vt,.slice Avl W.ld.pl.length cvl,vw,vs,vse,vha] 56)).alloc (.cells #[.string d.nm,vd,vwi,.string d.pl,.string d.se,.string d.ha,vci] 101)).alloc (.cells #[.int .i64 W.ch.fr,.int .i64 W.ch.to] 111)):=⟨_,rfl⟩
 have HX:=qh (show Ext w wx from by rw [hwx];exact (((Ext.refl _).alloc _).alloc _).alloc _)
 have B1:=qh (show Boxed wx w.heap.size [.slice Avr W.ch.rg.length cvr,.int .i64 W.ch.fr,.int .i64 W.ch.to,vp,vt,.slice Avl W.ld.pl.length cvl,vw,vs,vse,vha] from by rw [hwx];exact (HB1.out.ext ((Ext.refl _).alloc _)).ext ((Ext.refl _).alloc _))
 have B2:=qh (show Boxed wx (w.heap.size+1) [.string d.nm,vd,vwi,.string d.pl,.string d.se,.string d.ha,vci] from by rw [hwx];have h:=HB2.out.ext ((Ext.refl _).alloc (.cells #[.int .i64 W.ch.fr,.int .i64 W.ch.to] 111));rw [World.size_alloc] at h;exact h)
 have Hr:=qh (show RowSp wx w.heap.size 111 (.slice (some ⟨w.heap.size+1+1,0,none⟩) 1 1) (chS W) from by rw [hwx];have h:=rowSp1 ((w.alloc (.cells #[.slice Avr W.ch.rg.length cvr,.int .i64 W.ch.fr,.int .i64 W.ch.to,vp,vt,.slice Avl W.ld.pl.length cvl,vw,vs,vse,vha] 56)).alloc (.cells #[.string d.nm,vd,vwi,.string d.pl,.string d.se,.string d.ha,vci] 101)) 111 W.ch.fr W.ch.to;simp only [World.size_alloc] at h;exact ownsRow_mono h (by omega))
 rw [← hwx]
 clear hwx HB1 HB2
 have b0:=B1.out.cell 0 rfl
 have b1:=B1.out.cell 1 rfl
 have b2:=B1.out.cell 2 rfl
 have b3:=B1.out.cell 3 rfl
 have b4:=B1.out.cell 4 rfl
 have b5:=B1.out.cell 5 rfl
 have b6:=B1.out.cell 6 rfl
 have b7:=B1.out.cell 7 rfl
 have b8:=B1.out.cell 8 rfl
 have b9:=B1.out.cell 9 rfl
 have bg:=B1.out.1
 have e0:=B2.out.cell 0 rfl
 have e1:=B2.out.cell 1 rfl
 have e2:=B2.out.cell 2 rfl
 have e3:=B2.out.cell 3 rfl
 have e4:=B2.out.cell 4 rfl
 have e5:=B2.out.cell 5 rfl
 have e6:=B2.out.cell 6 rfl
 have eg:=B2.out.1
 go_wp2_with fail
 refine Calls.mono (spec_l12Set _ _ W.ch.rg d.dt W.ch.fr W.ch.to H.out.inn.2.1.2 H.out.ok.1.2.1.1 H.out.ok.1.2.2.1.2 H.out.ok.1.2.2.2.1 _ (H.out.at_.rg.up HX.out) (H.out.dt.up HX.out) (rg_days H.out.ok)) ?_
 rintro e wb ⟨ub,rfl,hxb,hob⟩
 obtain ⟨Ab,cb,rfl⟩:=ownsRow_len hob
 have Hob:=qh hob
 clear hob
 clear b0 b1 b2 b3 b4 b5 b6 b7 b8 b9 bg e0 e1 e2 e3 e4 e5 e6 eg
 go_wp2_with fail
 go_ret
 exact ⟨_,rfl,HX.out.trans hxb,ownsRow_mono Hob.out HX.out.size⟩
set_option maxRecDepth 100000 in
set_option maxHeartbeats 8000000 in
theorem spec_src_1 (vr vp vt vl vw vs vse vha vd vwi vci:Value) (W:Wrl) (ds:List Ded) (d:Ded) (w:World) (h:SrcIn w vr vp vt vl vw vs vse vha vd vwi W ds d) :
  Calls Tryz.prog 44 #[.agg #[vr,.int .i64 W.ch.fr,.int .i64 W.ch.to,vp,vt,vl,vw,vs,vse,vha],.agg #[.string d.nm,vd,vwi,.string d.pl,.string d.se,.string d.ha,vci],.int .i64 1] w (NewOwn 111 2 (srcL W d 1).length (spanCell (srcL W d 1)) w):=by
 obtain ⟨⟨Hrg,Hps,Htm,Hpl,Hwy,Hst,Hse,Hha⟩,hok,hdt,hwi,hin⟩:=h
 obtain ⟨Avr,cvr,rfl,nvr,kvr⟩:=Hrg.len
 obtain ⟨Avl,cvl,rfl,nvl,kvl⟩:=Hpl.len
 have H:=qh (show SrcIn w (.slice Avr W.ch.rg.length cvr) vp vt (.slice Avl W.ld.pl.length cvl) vw vs vse vha vd vwi W ds d from ⟨⟨Hrg,Hps,Htm,Hpl,Hwy,Hst,Hse,Hha⟩,hok,hdt,hwi,hin⟩)
 clear Hrg Hps Htm Hpl Hwy Hst Hse Hha hok hdt hwi hin
 have Hch:=qh (chS_d H.out.ok)
 have HB1:=qh (Boxed.new w [.slice Avr W.ch.rg.length cvr,.int .i64 W.ch.fr,.int .i64 W.ch.to,vp,vt,.slice Avl W.ld.pl.length cvl,vw,vs,vse,vha] 56)
 have HB2:=qh (Boxed.new (w.alloc (.cells #[.slice Avr W.ch.rg.length cvr,.int .i64 W.ch.fr,.int .i64 W.ch.to,vp,vt,.slice Avl W.ld.pl.length cvl,vw,vs,vse,vha] 56)) [.string d.nm,vd,vwi,.string d.pl,.string d.se,.string d.ha,vci] 101)
 have Hsrc:=qh (src_wit H.out.ok H.out.inn)
 go_enter Tryz.func44,Tryz.ntmps44
 go_upto_region 2 with fail
 obtain ⟨wx,hwx⟩:∃ y,y=(((w.alloc (.cells #[.slice Avr W.ch.rg.length cvr,.int .i64 W.ch.fr,.int .i64 W.ch.to,vp,vt,.slice Avl W.ld.pl.length cvl,vw,vs,vse,vha] 56)).alloc (.cells #[.string d.nm,vd,vwi,.string d.pl,.string d.se,.string d.ha,vci] 101)).alloc (.cells #[.int .i64 W.ch.fr,.int .i64 W.ch.to] 111)):=⟨_,rfl⟩
 have HX:=qh (show Ext w wx from by rw [hwx];exact (((Ext.refl _).alloc _).alloc _).alloc _)
 have B1:=qh (show Boxed wx w.heap.size [.slice Avr W.ch.rg.length cvr,.int .i64 W.ch.fr,.int .i64 W.ch.to,vp,vt,.slice Avl W.ld.pl.length cvl,vw,vs,vse,vha] from by rw [hwx];exact (HB1.out.ext ((Ext.refl _).alloc _)).ext ((Ext.refl _).alloc _))
 have B2:=qh (show Boxed wx (w.heap.size+1) [.string d.nm,vd,vwi,.string d.pl,.string d.se,.string d.ha,vci] from by rw [hwx];have h:=HB2.out.ext ((Ext.refl _).alloc (.cells #[.int .i64 W.ch.fr,.int .i64 W.ch.to] 111));rw [World.size_alloc] at h;exact h)
 have Hr:=qh (show RowSp wx w.heap.size 111 (.slice (some ⟨w.heap.size+1+1,0,none⟩) 1 1) (chS W) from by rw [hwx];have h:=rowSp1 ((w.alloc (.cells #[.slice Avr W.ch.rg.length cvr,.int .i64 W.ch.fr,.int .i64 W.ch.to,vp,vt,.slice Avl W.ld.pl.length cvl,vw,vs,vse,vha] 56)).alloc (.cells #[.string d.nm,vd,vwi,.string d.pl,.string d.se,.string d.ha,vci] 101)) 111 W.ch.fr W.ch.to;simp only [World.size_alloc] at h;exact ownsRow_mono h (by omega))
 rw [← hwx]
 clear hwx HB1 HB2
 have b0:=B1.out.cell 0 rfl
 have b1:=B1.out.cell 1 rfl
 have b2:=B1.out.cell 2 rfl
 have b3:=B1.out.cell 3 rfl
 have b4:=B1.out.cell 4 rfl
 have b5:=B1.out.cell 5 rfl
 have b6:=B1.out.cell 6 rfl
 have b7:=B1.out.cell 7 rfl
 have b8:=B1.out.cell 8 rfl
 have b9:=B1.out.cell 9 rfl
 have bg:=B1.out.1
 have e0:=B2.out.cell 0 rfl
 have e1:=B2.out.cell 1 rfl
 have e2:=B2.out.cell 2 rfl
 have e3:=B2.out.cell 3 rfl
 have e4:=B2.out.cell 4 rfl
 have e5:=B2.out.cell 5 rfl
 have e6:=B2.out.cell 6 rfl
 have eg:=B2.out.1
 go_wp2_with fail
 refine Calls.mono (spec_l13Signing _ _ _ W.pp d.wi _ (H.out.at_.ps.up HX.out) (H.out.at_.tm.up HX.out) (H.out.wi.up HX.out) H.out.ok.2.1 H.out.inn.2.2.1.1 H.out.inn.2.2.1.2) ?_
 rintro e wa ⟨ua,rfl,hxa,hoa⟩
 have Hoa:=qh (show RowSp wa _ 111 ua (mtTo (oneS 0 730499) (fun k=>wdL W.pp (witAt d.wi k)) (fun _=>True) d.wi.length) from hoa)
 clear hoa
 clear b0 b1 b2 b3 b4 b5 b6 b7 b8 b9 bg e0 e1 e2 e3 e4 e5 e6 eg
 go_wp2_with fail
 refine Calls.mono (spec_l02Meet _ _ (chS W) (mtTo (oneS 0 730499) (fun k=>wdL W.pp (witAt d.wi k)) (fun _=>True) d.wi.length) _ (Hr.out.read.up hxa) Hoa.out.read (setd_len Hch.out Hsrc.out.1) Hch.out.bd Hsrc.out.1.bd) ?_
 rintro e wb ⟨ub,rfl,hxb,hob⟩
 obtain ⟨Ab,cb,rfl⟩:=ownsRow_len hob
 have Hob:=qh hob
 clear hob
 go_wp2_with fail
 go_ret
 have hE:=HX.out.trans hxa
 rw [← Hsrc.out.2]
 exact ⟨_,rfl,hE.trans hxb,ownsRow_mono Hob.out hE.size⟩
set_option maxRecDepth 100000 in
set_option maxHeartbeats 8000000 in
theorem spec_src_2 (vr vp vt vl vw vs vse vha vd vwi vci:Value) (W:Wrl) (ds:List Ded) (d:Ded) (w:World) (h:SrcIn w vr vp vt vl vw vs vse vha vd vwi W ds d) (he:d.pl ≠ ⟨#[]⟩) :
  Calls Tryz.prog 44 #[.agg #[vr,.int .i64 W.ch.fr,.int .i64 W.ch.to,vp,vt,vl,vw,vs,vse,vha],.agg #[.string d.nm,vd,vwi,.string d.pl,.string d.se,.string d.ha,vci],.int .i64 2] w (NewOwn 111 2 (srcL W d 2).length (spanCell (srcL W d 2)) w):=by
 obtain ⟨⟨Hrg,Hps,Htm,Hpl,Hwy,Hst,Hse,Hha⟩,hok,hdt,hwi,hin⟩:=h
 obtain ⟨Avr,cvr,rfl,nvr,kvr⟩:=Hrg.len
 obtain ⟨Avl,cvl,rfl,nvl,kvl⟩:=Hpl.len
 have H:=qh (show SrcIn w (.slice Avr W.ch.rg.length cvr) vp vt (.slice Avl W.ld.pl.length cvl) vw vs vse vha vd vwi W ds d from ⟨⟨Hrg,Hps,Htm,Hpl,Hwy,Hst,Hse,Hha⟩,hok,hdt,hwi,hin⟩)
 clear Hrg Hps Htm Hpl Hwy Hst Hse Hha hok hdt hwi hin
 have Hch:=qh (chS_d H.out.ok)
 have HB1:=qh (Boxed.new w [.slice Avr W.ch.rg.length cvr,.int .i64 W.ch.fr,.int .i64 W.ch.to,vp,vt,.slice Avl W.ld.pl.length cvl,vw,vs,vse,vha] 56)
 have HB2:=qh (Boxed.new (w.alloc (.cells #[.slice Avr W.ch.rg.length cvr,.int .i64 W.ch.fr,.int .i64 W.ch.to,vp,vt,.slice Avl W.ld.pl.length cvl,vw,vs,vse,vha] 56)) [.string d.nm,vd,vwi,.string d.pl,.string d.se,.string d.ha,vci] 101)
 have E1:=nil_no he
 have E2:=str_ne he
 have Hsrc:=qh (srcL_2 (W:=W) he)
 have Htr:=qh (pl_tr H.out.ok H.out.inn he)
 have Hwy:=qh (way_ok_pl H.out.ok H.out.inn he)
 have Hset:=qh (mkL_d (cdL_ok Htr.out.2 (placeOf W d) H.out.ok.2.2.1.2.1).2)
 rw [Hsrc.out]
 clear he
 go_enter Tryz.func44,Tryz.ntmps44
 go_upto_region 2 with fail
 obtain ⟨wx,hwx⟩:∃ y,y=(((w.alloc (.cells #[.slice Avr W.ch.rg.length cvr,.int .i64 W.ch.fr,.int .i64 W.ch.to,vp,vt,.slice Avl W.ld.pl.length cvl,vw,vs,vse,vha] 56)).alloc (.cells #[.string d.nm,vd,vwi,.string d.pl,.string d.se,.string d.ha,vci] 101)).alloc (.cells #[.int .i64 W.ch.fr,.int .i64 W.ch.to] 111)):=⟨_,rfl⟩
 have HX:=qh (show Ext w wx from by rw [hwx];exact (((Ext.refl _).alloc _).alloc _).alloc _)
 have B1:=qh (show Boxed wx w.heap.size [.slice Avr W.ch.rg.length cvr,.int .i64 W.ch.fr,.int .i64 W.ch.to,vp,vt,.slice Avl W.ld.pl.length cvl,vw,vs,vse,vha] from by rw [hwx];exact (HB1.out.ext ((Ext.refl _).alloc _)).ext ((Ext.refl _).alloc _))
 have B2:=qh (show Boxed wx (w.heap.size+1) [.string d.nm,vd,vwi,.string d.pl,.string d.se,.string d.ha,vci] from by rw [hwx];have h:=HB2.out.ext ((Ext.refl _).alloc (.cells #[.int .i64 W.ch.fr,.int .i64 W.ch.to] 111));rw [World.size_alloc] at h;exact h)
 have Hr:=qh (show RowSp wx w.heap.size 111 (.slice (some ⟨w.heap.size+1+1,0,none⟩) 1 1) (chS W) from by rw [hwx];have h:=rowSp1 ((w.alloc (.cells #[.slice Avr W.ch.rg.length cvr,.int .i64 W.ch.fr,.int .i64 W.ch.to,vp,vt,.slice Avl W.ld.pl.length cvl,vw,vs,vse,vha] 56)).alloc (.cells #[.string d.nm,vd,vwi,.string d.pl,.string d.se,.string d.ha,vci] 101)) 111 W.ch.fr W.ch.to;simp only [World.size_alloc] at h;exact ownsRow_mono h (by omega))
 rw [← hwx]
 clear hwx HB1 HB2
 have b0:=B1.out.cell 0 rfl
 have b1:=B1.out.cell 1 rfl
 have b2:=B1.out.cell 2 rfl
 have b3:=B1.out.cell 3 rfl
 have b4:=B1.out.cell 4 rfl
 have b5:=B1.out.cell 5 rfl
 have b6:=B1.out.cell 6 rfl
 have b7:=B1.out.cell 7 rfl
 have b8:=B1.out.cell 8 rfl
 have b9:=B1.out.cell 9 rfl
 have bg:=B1.out.1
 have e0:=B2.out.cell 0 rfl
 have e1:=B2.out.cell 1 rfl
 have e2:=B2.out.cell 2 rfl
 have e3:=B2.out.cell 3 rfl
 have e4:=B2.out.cell 4 rfl
 have e5:=B2.out.cell 5 rfl
 have e6:=B2.out.cell 6 rfl
 have eg:=B2.out.1
 go_wp2_with fail
 go_region_held3 (fun w' => w'.cell? ⟨w.heap.size,5,none⟩=some (.slice Avl W.ld.pl.length cvl)∧w'.cell? ⟨w.heap.size,6,none⟩=some (vw)∧w'.cell? ⟨w.heap.size,7,none⟩=some (vs)∧w'.cell? ⟨w.heap.size+1,3,none⟩=some (.string d.pl)∧Ext wx w')
  (exact Ext.and_cell bg b5 exts (Ext.and_cell bg b6 exts (Ext.and_cell bg b7 exts (Ext.and_cell eg e3 exts exts))))
  (first
   | (go_at_call 103;refine Calls.mono (spec_l01Text _ W.ld.pl d.pl _ (H.out.at_.pl.up (HX.out.trans exts))) ?_;rintro e w1 ⟨rfl,hx1⟩)
   | (go_at_call 102;refine Calls.mono (spec_l15Days _ _ _ W.ld W.st (placeOf W d) (plD W d) _ (H.out.at_.pl.up (HX.out.trans exts)) (H.out.at_.wy.up (HX.out.trans exts)) (H.out.at_.st.up (HX.out.trans exts)) H.out.ok.2.2.1.1 H.out.ok.2.2.1.2.1 Htr.out.1.1 Htr.out.1.2 Htr.out.2 Hwy.out) ?_;rintro e wa ⟨ua,rfl,hxa,hoa⟩;have Hoa:=qh (show RowSp wa _ 111 ua (mkL (cdL (plD W d) W.st (placeOf W d))) from hoa);clear hoa)
   | (go_at_call 100;refine Calls.mono (spec_l02Meet _ _ (chS W) (mkL (cdL (plD W d) W.st (placeOf W d))) _ (Hr.out.read.up exts) (Hoa.out.read.up exts) (setd_len Hch.out Hset.out) Hch.out.bd Hset.out.bd) ?_;rintro e wb ⟨ub,rfl,hxb,hob⟩;obtain ⟨Ab,cb,rfl⟩:=ownsRow_len hob;have Hob:=qh hob;clear hob))
 have hE:Ext wx wb:=exts
 have hN:=(show Ext wx wa from exts).size
 have hz:=HX.out.size
 clear b0 b1 b2 b3 b4 b5 b6 b7 b8 b9 bg e0 e1 e2 e3 e4 e5 e6 eg
 go_wp2_with fail
 go_ret
 exact ⟨_,rfl,HX.out.trans hE,ownsRow_mono Hob.out (by omega)⟩
set_option maxRecDepth 100000 in
set_option maxHeartbeats 8000000 in
theorem spec_src_3 (vr vp vt vl vw vs vse vha vd vwi vci:Value) (W:Wrl) (ds:List Ded) (d:Ded) (w:World) (h:SrcIn w vr vp vt vl vw vs vse vha vd vwi W ds d) (he:d.se ≠ ⟨#[]⟩) :
  Calls Tryz.prog 44 #[.agg #[vr,.int .i64 W.ch.fr,.int .i64 W.ch.to,vp,vt,vl,vw,vs,vse,vha],.agg #[.string d.nm,vd,vwi,.string d.pl,.string d.se,.string d.ha,vci],.int .i64 3] w (NewOwn 111 2 (srcL W d 3).length (spanCell (srcL W d 3)) w):=by
 obtain ⟨⟨Hrg,Hps,Htm,Hpl,Hwy,Hst,Hse,Hha⟩,hok,hdt,hwi,hin⟩:=h
 obtain ⟨Avr,cvr,rfl,nvr,kvr⟩:=Hrg.len
 obtain ⟨Avl,cvl,rfl,nvl,kvl⟩:=Hpl.len
 have H:=qh (show SrcIn w (.slice Avr W.ch.rg.length cvr) vp vt (.slice Avl W.ld.pl.length cvl) vw vs vse vha vd vwi W ds d from ⟨⟨Hrg,Hps,Htm,Hpl,Hwy,Hst,Hse,Hha⟩,hok,hdt,hwi,hin⟩)
 clear Hrg Hps Htm Hpl Hwy Hst Hse Hha hok hdt hwi hin
 have Hch:=qh (chS_d H.out.ok)
 have HB1:=qh (Boxed.new w [.slice Avr W.ch.rg.length cvr,.int .i64 W.ch.fr,.int .i64 W.ch.to,vp,vt,.slice Avl W.ld.pl.length cvl,vw,vs,vse,vha] 56)
 have HB2:=qh (Boxed.new (w.alloc (.cells #[.slice Avr W.ch.rg.length cvr,.int .i64 W.ch.fr,.int .i64 W.ch.to,vp,vt,.slice Avl W.ld.pl.length cvl,vw,vs,vse,vha] 56)) [.string d.nm,vd,vwi,.string d.pl,.string d.se,.string d.ha,vci] 101)
 have E1:=nil_no he
 have E2:=str_ne he
 have Hsrc:=qh (srcL_3 (W:=W) he)
 have Hset:=qh (mdL_d H.out.ok.2.2.2.1 d.se)
 rw [Hsrc.out]
 clear he
 go_enter Tryz.func44,Tryz.ntmps44
 go_upto_region 2 with fail
 obtain ⟨wx,hwx⟩:∃ y,y=(((w.alloc (.cells #[.slice Avr W.ch.rg.length cvr,.int .i64 W.ch.fr,.int .i64 W.ch.to,vp,vt,.slice Avl W.ld.pl.length cvl,vw,vs,vse,vha] 56)).alloc (.cells #[.string d.nm,vd,vwi,.string d.pl,.string d.se,.string d.ha,vci] 101)).alloc (.cells #[.int .i64 W.ch.fr,.int .i64 W.ch.to] 111)):=⟨_,rfl⟩
 have HX:=qh (show Ext w wx from by rw [hwx];exact (((Ext.refl _).alloc _).alloc _).alloc _)
 have B1:=qh (show Boxed wx w.heap.size [.slice Avr W.ch.rg.length cvr,.int .i64 W.ch.fr,.int .i64 W.ch.to,vp,vt,.slice Avl W.ld.pl.length cvl,vw,vs,vse,vha] from by rw [hwx];exact (HB1.out.ext ((Ext.refl _).alloc _)).ext ((Ext.refl _).alloc _))
 have B2:=qh (show Boxed wx (w.heap.size+1) [.string d.nm,vd,vwi,.string d.pl,.string d.se,.string d.ha,vci] from by rw [hwx];have h:=HB2.out.ext ((Ext.refl _).alloc (.cells #[.int .i64 W.ch.fr,.int .i64 W.ch.to] 111));rw [World.size_alloc] at h;exact h)
 have Hr:=qh (show RowSp wx w.heap.size 111 (.slice (some ⟨w.heap.size+1+1,0,none⟩) 1 1) (chS W) from by rw [hwx];have h:=rowSp1 ((w.alloc (.cells #[.slice Avr W.ch.rg.length cvr,.int .i64 W.ch.fr,.int .i64 W.ch.to,vp,vt,.slice Avl W.ld.pl.length cvl,vw,vs,vse,vha] 56)).alloc (.cells #[.string d.nm,vd,vwi,.string d.pl,.string d.se,.string d.ha,vci] 101)) 111 W.ch.fr W.ch.to;simp only [World.size_alloc] at h;exact ownsRow_mono h (by omega))
 rw [← hwx]
 clear hwx HB1 HB2
 have b0:=B1.out.cell 0 rfl
 have b1:=B1.out.cell 1 rfl
 have b2:=B1.out.cell 2 rfl
 have b3:=B1.out.cell 3 rfl
 have b4:=B1.out.cell 4 rfl
 have b5:=B1.out.cell 5 rfl
 have b6:=B1.out.cell 6 rfl
 have b7:=B1.out.cell 7 rfl
 have b8:=B1.out.cell 8 rfl
 have b9:=B1.out.cell 9 rfl
 have bg:=B1.out.1
 have e0:=B2.out.cell 0 rfl
 have e1:=B2.out.cell 1 rfl
 have e2:=B2.out.cell 2 rfl
 have e3:=B2.out.cell 3 rfl
 have e4:=B2.out.cell 4 rfl
 have e5:=B2.out.cell 5 rfl
 have e6:=B2.out.cell 6 rfl
 have eg:=B2.out.1
 go_wp2_with fail
 refine Calls.mono (spec_l16Days _ W.se d.se _ (H.out.at_.se.up HX.out) H.out.ok.2.2.2.1) ?_
 rintro e wa ⟨ua,rfl,hxa,hoa⟩
 have Hoa:=qh (show RowSp wa _ 111 ua (mkL (mdL W.se d.se)) from hoa)
 clear hoa
 clear b0 b1 b2 b3 b4 b5 b6 b7 b8 b9 bg e0 e1 e2 e3 e4 e5 e6 eg
 go_wp2_with fail
 refine Calls.mono (spec_l02Meet _ _ (chS W) (mkL (mdL W.se d.se)) _ (Hr.out.read.up hxa) Hoa.out.read (setd_len Hch.out Hset.out) Hch.out.bd Hset.out.bd) ?_
 rintro e wb ⟨ub,rfl,hxb,hob⟩
 obtain ⟨Ab,cb,rfl⟩:=ownsRow_len hob
 have Hob:=qh hob
 clear hob
 go_wp2_with fail
 go_ret
 have hE:=HX.out.trans hxa
 exact ⟨_,rfl,hE.trans hxb,ownsRow_mono Hob.out hE.size⟩
set_option maxRecDepth 100000 in
set_option maxHeartbeats 8000000 in
theorem spec_src_4 (vr vp vt vl vw vs vse vha vd vwi vci:Value) (W:Wrl) (ds:List Ded) (d:Ded) (w:World) (h:SrcIn w vr vp vt vl vw vs vse vha vd vwi W ds d) (he:d.ha ≠ ⟨#[]⟩) :
  Calls Tryz.prog 44 #[.agg #[vr,.int .i64 W.ch.fr,.int .i64 W.ch.to,vp,vt,vl,vw,vs,vse,vha],.agg #[.string d.nm,vd,vwi,.string d.pl,.string d.se,.string d.ha,vci],.int .i64 4] w (NewOwn 111 2 (srcL W d 4).length (spanCell (srcL W d 4)) w):=by
 obtain ⟨⟨Hrg,Hps,Htm,Hpl,Hwy,Hst,Hse,Hha⟩,hok,hdt,hwi,hin⟩:=h
 obtain ⟨Avr,cvr,rfl,nvr,kvr⟩:=Hrg.len
 obtain ⟨Avl,cvl,rfl,nvl,kvl⟩:=Hpl.len
 have H:=qh (show SrcIn w (.slice Avr W.ch.rg.length cvr) vp vt (.slice Avl W.ld.pl.length cvl) vw vs vse vha vd vwi W ds d from ⟨⟨Hrg,Hps,Htm,Hpl,Hwy,Hst,Hse,Hha⟩,hok,hdt,hwi,hin⟩)
 clear Hrg Hps Htm Hpl Hwy Hst Hse Hha hok hdt hwi hin
 have Hch:=qh (chS_d H.out.ok)
 have HB1:=qh (Boxed.new w [.slice Avr W.ch.rg.length cvr,.int .i64 W.ch.fr,.int .i64 W.ch.to,vp,vt,.slice Avl W.ld.pl.length cvl,vw,vs,vse,vha] 56)
 have HB2:=qh (Boxed.new (w.alloc (.cells #[.slice Avr W.ch.rg.length cvr,.int .i64 W.ch.fr,.int .i64 W.ch.to,vp,vt,.slice Avl W.ld.pl.length cvl,vw,vs,vse,vha] 56)) [.string d.nm,vd,vwi,.string d.pl,.string d.se,.string d.ha,vci] 101)
 have E1:=nil_no he
 have E2:=str_ne he
 have Hsrc:=qh (srcL_4 (W:=W) he)
 have Hset:=qh (mdL_d H.out.ok.2.2.2.2 d.ha)
 rw [Hsrc.out]
 clear he
 go_enter Tryz.func44,Tryz.ntmps44
 go_upto_region 2 with fail
 obtain ⟨wx,hwx⟩:∃ y,y=(((w.alloc (.cells #[.slice Avr W.ch.rg.length cvr,.int .i64 W.ch.fr,.int .i64 W.ch.to,vp,vt,.slice Avl W.ld.pl.length cvl,vw,vs,vse,vha] 56)).alloc (.cells #[.string d.nm,vd,vwi,.string d.pl,.string d.se,.string d.ha,vci] 101)).alloc (.cells #[.int .i64 W.ch.fr,.int .i64 W.ch.to] 111)):=⟨_,rfl⟩
 have HX:=qh (show Ext w wx from by rw [hwx];exact (((Ext.refl _).alloc _).alloc _).alloc _)
 have B1:=qh (show Boxed wx w.heap.size [.slice Avr W.ch.rg.length cvr,.int .i64 W.ch.fr,.int .i64 W.ch.to,vp,vt,.slice Avl W.ld.pl.length cvl,vw,vs,vse,vha] from by rw [hwx];exact (HB1.out.ext ((Ext.refl _).alloc _)).ext ((Ext.refl _).alloc _))
 have B2:=qh (show Boxed wx (w.heap.size+1) [.string d.nm,vd,vwi,.string d.pl,.string d.se,.string d.ha,vci] from by rw [hwx];have h:=HB2.out.ext ((Ext.refl _).alloc (.cells #[.int .i64 W.ch.fr,.int .i64 W.ch.to] 111));rw [World.size_alloc] at h;exact h)
 have Hr:=qh (show RowSp wx w.heap.size 111 (.slice (some ⟨w.heap.size+1+1,0,none⟩) 1 1) (chS W) from by rw [hwx];have h:=rowSp1 ((w.alloc (.cells #[.slice Avr W.ch.rg.length cvr,.int .i64 W.ch.fr,.int .i64 W.ch.to,vp,vt,.slice Avl W.ld.pl.length cvl,vw,vs,vse,vha] 56)).alloc (.cells #[.string d.nm,vd,vwi,.string d.pl,.string d.se,.string d.ha,vci] 101)) 111 W.ch.fr W.ch.to;simp only [World.size_alloc] at h;exact ownsRow_mono h (by omega))
 rw [← hwx]
 clear hwx HB1 HB2
 have b0:=B1.out.cell 0 rfl
 have b1:=B1.out.cell 1 rfl
 have b2:=B1.out.cell 2 rfl
 have b3:=B1.out.cell 3 rfl
 have b4:=B1.out.cell 4 rfl
 have b5:=B1.out.cell 5 rfl
 have b6:=B1.out.cell 6 rfl
 have b7:=B1.out.cell 7 rfl
 have b8:=B1.out.cell 8 rfl
 have b9:=B1.out.cell 9 rfl
 have bg:=B1.out.1
 have e0:=B2.out.cell 0 rfl
 have e1:=B2.out.cell 1 rfl
 have e2:=B2.out.cell 2 rfl
 have e3:=B2.out.cell 3 rfl
 have e4:=B2.out.cell 4 rfl
 have e5:=B2.out.cell 5 rfl
 have e6:=B2.out.cell 6 rfl
 have eg:=B2.out.1
 go_wp2_with fail
 refine Calls.mono (spec_l16Days _ W.ha d.ha _ (H.out.at_.ha.up HX.out) H.out.ok.2.2.2.2) ?_
 rintro e wa ⟨ua,rfl,hxa,hoa⟩
 have Hoa:=qh (show RowSp wa _ 111 ua (mkL (mdL W.ha d.ha)) from hoa)
 clear hoa
 clear b0 b1 b2 b3 b4 b5 b6 b7 b8 b9 bg e0 e1 e2 e3 e4 e5 e6 eg
 go_wp2_with fail
 refine Calls.mono (spec_l02Meet _ _ (chS W) (mkL (mdL W.ha d.ha)) _ (Hr.out.read.up hxa) Hoa.out.read (setd_len Hch.out Hset.out) Hch.out.bd Hset.out.bd) ?_
 rintro e wb ⟨ub,rfl,hxb,hob⟩
 obtain ⟨Ab,cb,rfl⟩:=ownsRow_len hob
 have Hob:=qh hob
 clear hob
 go_wp2_with fail
 go_ret
 have hE:=HX.out.trans hxa
 exact ⟨_,rfl,hE.trans hxb,ownsRow_mono Hob.out hE.size⟩
set_option maxRecDepth 100000 in
set_option maxHeartbeats 8000000 in
theorem spec_src_2n (vr vp vt vl vw vs vse vha vd vwi vci:Value) (W:Wrl) (ds:List Ded) (d:Ded) (w:World) (h:SrcIn w vr vp vt vl vw vs vse vha vd vwi W ds d) (he:d.pl=⟨#[]⟩) :
  Calls Tryz.prog 44 #[.agg #[vr,.int .i64 W.ch.fr,.int .i64 W.ch.to,vp,vt,vl,vw,vs,vse,vha],.agg #[.string d.nm,vd,vwi,.string d.pl,.string d.se,.string d.ha,vci],.int .i64 2] w (NewOwn 111 2 (srcL W d 2).length (spanCell (srcL W d 2)) w):=by
 obtain ⟨⟨Hrg,Hps,Htm,Hpl,Hwy,Hst,Hse,Hha⟩,hok,hdt,hwi,hin⟩:=h
 obtain ⟨Avr,cvr,rfl,nvr,kvr⟩:=Hrg.len
 obtain ⟨Avl,cvl,rfl,nvl,kvl⟩:=Hpl.len
 have H:=qh (show SrcIn w (.slice Avr W.ch.rg.length cvr) vp vt (.slice Avl W.ld.pl.length cvl) vw vs vse vha vd vwi W ds d from ⟨⟨Hrg,Hps,Htm,Hpl,Hwy,Hst,Hse,Hha⟩,hok,hdt,hwi,hin⟩)
 clear Hrg Hps Htm Hpl Hwy Hst Hse Hha hok hdt hwi hin
 have Hch:=qh (chS_d H.out.ok)
 have HB1:=qh (Boxed.new w [.slice Avr W.ch.rg.length cvr,.int .i64 W.ch.fr,.int .i64 W.ch.to,vp,vt,.slice Avl W.ld.pl.length cvl,vw,vs,vse,vha] 56)
 have HB2:=qh (Boxed.new (w.alloc (.cells #[.slice Avr W.ch.rg.length cvr,.int .i64 W.ch.fr,.int .i64 W.ch.to,vp,vt,.slice Avl W.ld.pl.length cvl,vw,vs,vse,vha] 56)) [.string d.nm,vd,vwi,.string d.pl,.string d.se,.string d.ha,vci] 101)
 have E1:=nil_is he
 have E2:=str_is he
 have Hsrc:=qh (srcL_no (W:=W) (d:=d) (s:=2) (by simp [he]))
 clear he
 go_enter Tryz.func44,Tryz.ntmps44
 go_wp2_with fail
 go_ret
 rw [Hsrc.out]
 have h:=rowSp1 ((w.alloc (.cells #[.slice Avr W.ch.rg.length cvr,.int .i64 W.ch.fr,.int .i64 W.ch.to,vp,vt,.slice Avl W.ld.pl.length cvl,vw,vs,vse,vha] 56)).alloc (.cells #[.string d.nm,vd,vwi,.string d.pl,.string d.se,.string d.ha,vci] 101)) 111 W.ch.fr W.ch.to
 simp only [World.size_alloc] at h
 exact ⟨_,rfl,(((Ext.refl _).alloc _).alloc _).alloc _,ownsRow_mono h (by omega)⟩
set_option maxRecDepth 100000 in
set_option maxHeartbeats 8000000 in
theorem spec_src_3n (vr vp vt vl vw vs vse vha vd vwi vci:Value) (W:Wrl) (ds:List Ded) (d:Ded) (w:World) (h:SrcIn w vr vp vt vl vw vs vse vha vd vwi W ds d) (he:d.se=⟨#[]⟩) :
  Calls Tryz.prog 44 #[.agg #[vr,.int .i64 W.ch.fr,.int .i64 W.ch.to,vp,vt,vl,vw,vs,vse,vha],.agg #[.string d.nm,vd,vwi,.string d.pl,.string d.se,.string d.ha,vci],.int .i64 3] w (NewOwn 111 2 (srcL W d 3).length (spanCell (srcL W d 3)) w):=by
 obtain ⟨⟨Hrg,Hps,Htm,Hpl,Hwy,Hst,Hse,Hha⟩,hok,hdt,hwi,hin⟩:=h
 obtain ⟨Avr,cvr,rfl,nvr,kvr⟩:=Hrg.len
 obtain ⟨Avl,cvl,rfl,nvl,kvl⟩:=Hpl.len
 have H:=qh (show SrcIn w (.slice Avr W.ch.rg.length cvr) vp vt (.slice Avl W.ld.pl.length cvl) vw vs vse vha vd vwi W ds d from ⟨⟨Hrg,Hps,Htm,Hpl,Hwy,Hst,Hse,Hha⟩,hok,hdt,hwi,hin⟩)
 clear Hrg Hps Htm Hpl Hwy Hst Hse Hha hok hdt hwi hin
 have Hch:=qh (chS_d H.out.ok)
 have HB1:=qh (Boxed.new w [.slice Avr W.ch.rg.length cvr,.int .i64 W.ch.fr,.int .i64 W.ch.to,vp,vt,.slice Avl W.ld.pl.length cvl,vw,vs,vse,vha] 56)
 have HB2:=qh (Boxed.new (w.alloc (.cells #[.slice Avr W.ch.rg.length cvr,.int .i64 W.ch.fr,.int .i64 W.ch.to,vp,vt,.slice Avl W.ld.pl.length cvl,vw,vs,vse,vha] 56)) [.string d.nm,vd,vwi,.string d.pl,.string d.se,.string d.ha,vci] 101)
 have E1:=nil_is he
 have E2:=str_is he
 have Hsrc:=qh (srcL_no (W:=W) (d:=d) (s:=3) (by simp [he]))
 clear he
 go_enter Tryz.func44,Tryz.ntmps44
 go_wp2_with fail
 go_ret
 rw [Hsrc.out]
 have h:=rowSp1 ((w.alloc (.cells #[.slice Avr W.ch.rg.length cvr,.int .i64 W.ch.fr,.int .i64 W.ch.to,vp,vt,.slice Avl W.ld.pl.length cvl,vw,vs,vse,vha] 56)).alloc (.cells #[.string d.nm,vd,vwi,.string d.pl,.string d.se,.string d.ha,vci] 101)) 111 W.ch.fr W.ch.to
 simp only [World.size_alloc] at h
 exact ⟨_,rfl,(((Ext.refl _).alloc _).alloc _).alloc _,ownsRow_mono h (by omega)⟩
set_option maxRecDepth 100000 in
set_option maxHeartbeats 8000000 in
theorem spec_src_4n (vr vp vt vl vw vs vse vha vd vwi vci:Value) (W:Wrl) (ds:List Ded) (d:Ded) (w:World) (h:SrcIn w vr vp vt vl vw vs vse vha vd vwi W ds d) (he:d.ha=⟨#[]⟩) :
  Calls Tryz.prog 44 #[.agg #[vr,.int .i64 W.ch.fr,.int .i64 W.ch.to,vp,vt,vl,vw,vs,vse,vha],.agg #[.string d.nm,vd,vwi,.string d.pl,.string d.se,.string d.ha,vci],.int .i64 4] w (NewOwn 111 2 (srcL W d 4).length (spanCell (srcL W d 4)) w):=by
 obtain ⟨⟨Hrg,Hps,Htm,Hpl,Hwy,Hst,Hse,Hha⟩,hok,hdt,hwi,hin⟩:=h
 obtain ⟨Avr,cvr,rfl,nvr,kvr⟩:=Hrg.len
 obtain ⟨Avl,cvl,rfl,nvl,kvl⟩:=Hpl.len
 have H:=qh (show SrcIn w (.slice Avr W.ch.rg.length cvr) vp vt (.slice Avl W.ld.pl.length cvl) vw vs vse vha vd vwi W ds d from ⟨⟨Hrg,Hps,Htm,Hpl,Hwy,Hst,Hse,Hha⟩,hok,hdt,hwi,hin⟩)
 clear Hrg Hps Htm Hpl Hwy Hst Hse Hha hok hdt hwi hin
 have Hch:=qh (chS_d H.out.ok)
 have HB1:=qh (Boxed.new w [.slice Avr W.ch.rg.length cvr,.int .i64 W.ch.fr,.int .i64 W.ch.to,vp,vt,.slice Avl W.ld.pl.length cvl,vw,vs,vse,vha] 56)
 have HB2:=qh (Boxed.new (w.alloc (.cells #[.slice Avr W.ch.rg.length cvr,.int .i64 W.ch.fr,.int .i64 W.ch.to,vp,vt,.slice Avl W.ld.pl.length cvl,vw,vs,vse,vha] 56)) [.string d.nm,vd,vwi,.string d.pl,.string d.se,.string d.ha,vci] 101)
 have E1:=nil_is he
 have E2:=str_is he
 have Hsrc:=qh (srcL_no (W:=W) (d:=d) (s:=4) (by simp [he]))
 clear he
 go_enter Tryz.func44,Tryz.ntmps44
 go_wp2_with fail
 go_ret
 rw [Hsrc.out]
 have h:=rowSp1 ((w.alloc (.cells #[.slice Avr W.ch.rg.length cvr,.int .i64 W.ch.fr,.int .i64 W.ch.to,vp,vt,.slice Avl W.ld.pl.length cvl,vw,vs,vse,vha] 56)).alloc (.cells #[.string d.nm,vd,vwi,.string d.pl,.string d.se,.string d.ha,vci] 101)) 111 W.ch.fr W.ch.to
 simp only [World.size_alloc] at h
 exact ⟨_,rfl,(((Ext.refl _).alloc _).alloc _).alloc _,ownsRow_mono h (by omega)⟩
theorem spec_src (vr vp vt vl vw vs vse vha vd vwi vci:Value) (W:Wrl) (ds:List Ded) (d:Ded) (s:Int) (w:World) (h:SrcIn w vr vp vt vl vw vs vse vha vd vwi W ds d) (h0:0 ≤ s) (h4:s ≤ 4) :
  Calls Tryz.prog 44 #[.agg #[vr,.int .i64 W.ch.fr,.int .i64 W.ch.to,vp,vt,vl,vw,vs,vse,vha],.agg #[.string d.nm,vd,vwi,.string d.pl,.string d.se,.string d.ha,vci],.int .i64 s] w (NewOwn 111 2 (srcL W d s).length (spanCell (srcL W d s)) w):=by
 have hc:s=0 ∨ s=1 ∨ s=2 ∨ s=3 ∨ s=4:=by omega
 rcases hc with rfl | rfl | rfl | rfl | rfl
 ·exact spec_src_0 vr vp vt vl vw vs vse vha vd vwi vci W ds d w h
 ·exact spec_src_1 vr vp vt vl vw vs vse vha vd vwi vci W ds d w h
 ·by_cases he:d.pl=⟨#[]⟩
  ·exact spec_src_2n vr vp vt vl vw vs vse vha vd vwi vci W ds d w h he
  ·exact spec_src_2 vr vp vt vl vw vs vse vha vd vwi vci W ds d w h he
 ·by_cases he:d.se=⟨#[]⟩
  ·exact spec_src_3n vr vp vt vl vw vs vse vha vd vwi vci W ds d w h he
  ·exact spec_src_3 vr vp vt vl vw vs vse vha vd vwi vci W ds d w h he
 ·by_cases he:d.ha=⟨#[]⟩
  ·exact spec_src_4n vr vp vt vl vw vs vse vha vd vwi vci W ds d w h he
  ·exact spec_src_4 vr vp vt vl vw vs vse vha vd vwi vci W ds d w h he
end Go.Proofs.YtechbeegbhlppaaGreatDoor
