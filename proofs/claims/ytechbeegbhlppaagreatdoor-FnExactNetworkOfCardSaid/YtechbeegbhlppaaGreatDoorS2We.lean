/- Contracts: the terms of an office, the days on which witnesses could sign: the reference's. -/
import Derived.Test.YtechbeegbhlppaaGreatDoorS2Qi
import Derived.Test.YtechbeegbhlppaaGreatDoorS2Mu
import Derived.Test.YtechbeegbhlppaaGreatDoorS2Ri
import Derived.Deep.RegionHeld3
import Derived.Deep.RegionWith
import Derived.Deep.DeepCutAuto
namespace Go.Proofs.YtechbeegbhlppaaGreatDoor
set_option linter.unusedVariables false
set_option linter.unusedSimpArgs false
open Go.RowKit
attribute [local go_sem] cell_onto
set_option maxRecDepth 100000 in
set_option maxHeartbeats 4000000 in
theorem spec_l13Office (vp vt:Value) (p:Ppl) (o pe:ByteArray) (w:World) (h:Trms w 0 w.heap.size vt p.tm) (hok:PplOk p):Calls Tryz.prog 205 #[.agg #[vp,vt],.string o,.string pe] w (NewOwn 111 2 (mkL (tmL p.tm o pe)).length (spanCell (mkL (tmL p.tm o pe))) w):=by
 obtain ⟨A,c,rfl,hn,hc⟩:=h.len
 have Hbig:=qh (tmL_ok hok o pe)
 obtain ⟨l,hl⟩:∃ l,l=p.tm:=⟨_,rfl⟩
 have hl60:l.length ≤ 60:=by rw [hl];exact hok.2.1
 rw [← hl] at h hn hc Hbig ⊢
 have H:=qh h
 have Hb:=qh (Boxed.new w [vp,.slice A l.length c] 49)
 clear h hok hl
 go_enter Tryz.func205,Tryz.ntmps205
 go_wp2_with fail
 go_loopg [7,8] l.length (fun q u7 i wr=>∃ j:Nat,j+q=l.length∧i=.int .i64 j∧Ext (w.alloc (.cells #[vp,.slice A l.length c] 49)) wr∧Hid (RowSp wr (w.heap.size+1) 111 u7 (tmTo l o pe j)))
 case atStart =>
  refine ⟨0,by omega,rfl,(Ext.refl _).alloc _,qh ?_⟩
  have:=rowSp0 (w.alloc (.cells #[vp,.slice A l.length c] 49)) 111
  rw [World.size_alloc] at this
  exact this
 case round =>
  obtain ⟨j,hj,rfl,hx,Hr⟩:=hrel
  obtain ⟨A5,c5,rfl⟩:=ownsRow_len Hr.out
  have HX:=qh (show Ext w wr from exts)
  have Hx:=qh hx
  have hz:=hx.size
  rw [World.size_alloc] at hz
  have bx:=Hb.out.ext hx;have bx0:=bx.at0;have bx1:=bx.at1;have bxg:=bx.1;have Hbx:=qh bx;clear bx
  clear hx
  by_cases hlt:j < l.length
  ·obtain ⟨b,off,rfl,_,hb,h1,h2,h3,h4⟩:=(H.out.ext HX.out (Nat.le_refl _)).at_ hlt
   have hbr:b < wr.heap.size:=Nat.lt_of_lt_of_le hb HX.out.size
   have hsl:(tmTo l o pe j).length ≤ 60:=by have:=tmTo_len l o pe j;omega
   have hji:(j:Int) < (l.length:Int):=by omega
   by_cases he:(trmAt l j).of=o∧(trmAt l j).pe=pe
   ·have T2:=str_is he.1
    have T3:=str_is he.2
    have Hm:=qh (tmTo_yes he)
    clear he
    have Hsrc:Hid (∀ W,Row (World.alloc W (.cells #[.int .i64 (trmAt l j).fr,.int .i64 (trmAt l j).to] 111)) 0 (World.alloc W (.cells #[.int .i64 (trmAt l j).fr,.int .i64 (trmAt l j).to] 111)).heap.size 2 (.slice (some ⟨W.heap.size,0,none⟩) 1 1) 1 (spanCell [⟨(trmAt l j).fr,(trmAt l j).to⟩])):=qh (fun W=>(Boxed.new W [.int .i64 (trmAt l j).fr,.int .i64 (trmAt l j).to] 111).row rfl (span_cells _ _))
    go_wp2_with fail
    go_region_law (refine step_append_row rfl (.tmp 35) (.tmp 49) 40 rfl (w.heap.size+1) 111 2 16 Tryz.underlying40 (by kernel_rfl) (by omega) _ (tmTo l o pe j).length 1 _ rfl (.inl (row_ext Hr.out exts)) (.inr (by omega)) 0 _ _ (spanCell [⟨(trmAt l j).fr,(trmAt l j).to⟩]) rfl (Hsrc.out _) (fun i _=>spanCell_one _ i) (by unfold maxLen;omega) (by omega) (by simp;omega) ?_;intro v5 w5 hown5 hput5;have Hrow5:=qh (RowSp.push hown5);have Hx5:=qh (hput5.ext (Hx.out.trans (show Ext wr _ from exts)) (by rw [World.size_alloc];omega));clear hown5 hput5)
    all_goals
     go_wp2_with fail
     go_roundg (l.length - (j+1))
     case measure=>omega
     case rel=>exact ⟨j+1,by omega,by go_num,Hx5.out,qh (by rw [Hm.out];exact Hrow5.out)⟩
   ·have Hm:=qh (tmTo_no he)
    by_cases e1:(trmAt l j).of=o
    case' pos =>
     have T2:=str_is e1
     have T3:=str_ne (fun hh=>he ⟨e1,hh⟩)
    case' neg =>
     have T2:=str_ne e1
    all_goals
     clear he e1
     go_wp2_with fail
     go_roundg (l.length - (j+1))
     case measure=>omega
     case rel=>exact ⟨j+1,by omega,by go_num,Hx.out.trans exts,qh (by rw [Hm.out];exact Hr.out.ext exts)⟩
  ·obtain rfl:j=l.length:=by omega
   have Hbd:=qh (spOk_bd Hbig.out.2)
   go_wp2_with fail
   refine Calls.mono (spec_l02Make _ (tmL l o pe) _ (Hr.out.read) (by have:=Hbig.out.1;omega) (fun i hi=>Hbd.out.1 i hi)) ?_
   rintro e w1 ⟨u,rfl,hx1,ho⟩
   obtain ⟨A6,c6,rfl⟩:=ownsRow_len ho
   have Ho:=qh ho
   clear ho
   go_wp2_with fail
   go_ret
   exact ⟨_,rfl,HX.out.trans hx1,ownsRow_mono Ho.out HX.out.size⟩
set_option maxRecDepth 100000 in
set_option maxHeartbeats 32000000 in
theorem spec_l13Could (vp vt:Value) (p:Ppl) (x:Wit) (w:World) (hp:Nsps w 0 w.heap.size vp p.ps) (ht:Trms w 0 w.heap.size vt p.tm) (hok:PplOk p) (hx:0 ≤ psIx p.ps x.pe) :
  Calls Tryz.prog 156 #[.agg #[vp,vt],.agg #[.string x.pe,.string x.of]] w (NewOwn 111 2 (wdL p x).length (spanCell (wdL p x)) w):=by
 obtain ⟨A,c,rfl,hn,hc⟩:=hp.len
 obtain ⟨A2,c2,rfl,hn2,hc2⟩:=ht.len
 have Hp:=qh hp
 have Ht:=qh ht
 have Hok:=qh hok
 have Hi:=qh (psIx_lt hx)
 have Hwd:Hid (wdL p x=if x.of=⟨#[]⟩ then oneS (nspAt p.ps (psIx p.ps x.pe).toNat).fr (nspAt p.ps (psIx p.ps x.pe).toNat).to else mkL (tmL p.tm x.of x.pe)):=qh rfl
 have HI:=qh (fun W (hX:Ext w W)=>spec_l13Person _ (.slice A2 p.tm.length c2) p.ps x.pe W (hp.up hX))
 clear hp ht hok
 by_cases he:x.of=⟨#[]⟩
 ·have S1:=nil_is he
  have S2:=str_is he
  have Hw:Hid (wdL p x=oneS (nspAt p.ps (psIx p.ps x.pe).toNat).fr (nspAt p.ps (psIx p.ps x.pe).toNat).to):=qh (by rw [Hwd.out,if_pos he])
  clear he Hwd
  obtain ⟨i,hi⟩:∃ i,psIx p.ps x.pe=i:=⟨_,rfl⟩
  rw [hi] at hx Hw Hi HI
  clear hi
  obtain ⟨hi1,hi2⟩:=Hi.out
  obtain ⟨b,off,rfl,_,hb,h1,h2,h3⟩:=Hp.out.at_ hi1
  have hbr:b < w.heap.size:=hb
  have j0:i < (p.ps.length:Int):=by omega
  go_enter Tryz.func156,Tryz.ntmps156
  go_upto_region 3 with fail
  obtain ⟨wx,hwx⟩:∃ y,y=((w.alloc (.cells #[.slice (some ⟨b,off,none⟩) p.ps.length c,.slice A2 p.tm.length c2] 49)).alloc (.cells #[.string x.pe,.string x.of] 170)):=⟨_,rfl⟩
  have HX:=qh (show Ext w wx from by rw [hwx];exact ((Ext.refl _).alloc _).alloc _)
  have Hs:=qh (show wx.heap.size=w.heap.size+1+1 from by rw [hwx];simp)
  have B1:=qh (show Boxed wx w.heap.size [.slice (some ⟨b,off,none⟩) p.ps.length c,.slice A2 p.tm.length c2] from by rw [hwx];exact (Boxed.new w _ _).ext ((Ext.refl _).alloc _))
  have B2:=qh (show Boxed wx (w.heap.size+1) [.string x.pe,.string x.of] from by rw [hwx];have h:=Boxed.new (w.alloc (.cells #[.slice (some ⟨b,off,none⟩) p.ps.length c,.slice A2 p.tm.length c2] 49)) [.string x.pe,.string x.of] 170;rw [World.size_alloc] at h;exact h)
  have r1:wx.cell? ⟨b,off+i.toNat * 3,none⟩=some (.string (nspAt p.ps i.toNat).nm):=(HX.out.cell (p:=⟨b,off+i.toNat * 3,none⟩) hb).trans h1
  have r2:wx.cell? ⟨b,off+i.toNat * 3+1,none⟩=some (.int .i64 (nspAt p.ps i.toNat).fr):=(HX.out.cell (p:=⟨b,off+i.toNat * 3+1,none⟩) hb).trans h2
  have r3:wx.cell? ⟨b,off+i.toNat * 3+2,none⟩=some (.int .i64 (nspAt p.ps i.toNat).to):=(HX.out.cell (p:=⟨b,off+i.toNat * 3+2,none⟩) hb).trans h3
  have k0:=B1.out.at0
  have k1:=B1.out.at1
  have kg:=B1.out.1
  have m0:=B2.out.at0
  have m1:=B2.out.at1
  have mg:=B2.out.1
  have hbx:b < wx.heap.size:=Nat.lt_of_lt_of_le hb HX.out.size
  rw [← hwx]
  clear hwx h1 h2 h3
  have HK:=qh (fun W (hX:Ext wx W)=>show (W.cell? ⟨w.heap.size,0,none⟩=some (.slice (some ⟨b,off,none⟩) p.ps.length c)∧W.cell? ⟨w.heap.size,1,none⟩=some (.slice A2 p.tm.length c2)∧W.cell? ⟨w.heap.size+1,0,none⟩=some (.string x.pe)∧W.cell? ⟨b,off+i.toNat * 3,none⟩=some (.string (nspAt p.ps i.toNat).nm)∧W.cell? ⟨b,off+i.toNat * 3+1,none⟩=some (.int .i64 (nspAt p.ps i.toNat).fr)∧W.cell? ⟨b,off+i.toNat * 3+2,none⟩=some (.int .i64 (nspAt p.ps i.toNat).to)∧b < W.heap.size∧w.heap.size < W.heap.size∧w.heap.size+1 < W.heap.size) from Ext.and_cell kg k0 hX (Ext.and_cell kg k1 hX (Ext.and_cell mg m0 hX (Ext.and_cell hbx r1 hX (Ext.and_cell hbx r2 hX (Ext.and_cell hbx r3 hX ⟨Nat.lt_of_lt_of_le hbx hX.size,Nat.lt_of_lt_of_le kg hX.size,Nat.lt_of_lt_of_le mg hX.size⟩))))))
  go_cut [5] (fun s5 wc=>∃ g5,s5=.pointer (some ⟨g5,0,none⟩)∧Hid (Ext wx wc)∧Hid (Boxed wc g5 [.string (nspAt p.ps i.toNat).nm,.int .i64 (nspAt p.ps i.toNat).fr,.int .i64 (nspAt p.ps i.toNat).to]))
  case first =>
   go_region_with (go_at_call 206;refine Calls.mono (HI.out _ (HX.out.trans exts)) ?_;rintro e w2 ⟨rfl,hx2⟩;obtain ⟨f0,f1,f2,f3,f4,f5,f6,f7,f8⟩:=HK.out w2 exts;(try (have bq:=(Boxed.new wx [.string ⟨#[]⟩,.int .i64 0,.int .i64 0] 226).ext (Ext.trans (Ext.drew (Ext.refl (wx.alloc (.cells #[.string ⟨#[]⟩,.int .i64 0,.int .i64 0] 226)))) hx2);have z0:=bq.at0;have z1:=bq.at1;have z2:=bq.at2;have y0:=bq.fz 0 (by simp);have y1:=bq.fz 1 (by simp);have y2:=bq.fz 2 (by simp);have yg:=bq.1)))
   all_goals
    have Hhz:=qh (show Ext wx w2 from exts)
    clear k0 k1 m0 m1 r1 r2 r3 f0 f1 f2 f3 f4 f5
    try clear z0 z1 z2 y0 y1 y2
    go_wp2_with fail
    go_meet
    first
     | exact ⟨_,rfl,qh (Hhz.out.alloc _),qh (Boxed.new w2 _ _)⟩
     | exact ⟨_,rfl,qh (((Hhz.out.setCell (Nat.le_refl _) _).setCell (Nat.le_refl _) _).setCell (Nat.le_refl _) _),qh (((bq.set 0 _ (by simp)).set 1 _ (by simp)).set 2 _ (by simp))⟩
  case rest =>
   obtain ⟨g5,rfl,Hxc,Hbc⟩:=hcut
   have bc1:=Hbc.out.at1
   have bc2:=Hbc.out.at2
   have bcg:=Hbc.out.1
   have Hxw:=qh (HX.out.trans Hxc.out)
   have hxz:=Hxw.out.size
   clear k0 k1 m0 m1 r1 r2 r3
   go_wp2_with fail
   go_ret
   rw [Hw.out]
   exact ⟨_,rfl,Hxw.out.alloc _,ownsRow_mono (rowSp1 _ _ _ _) hxz⟩
 ·have S1:=nil_no he
  have S2:=str_ne he
  have Hw:Hid (wdL p x=mkL (tmL p.tm x.of x.pe)):=qh (by rw [Hwd.out,if_neg he])
  clear he Hwd
  go_enter Tryz.func156,Tryz.ntmps156
  go_wp2_with fail
  refine Calls.mono (spec_l13Office _ _ p x.of x.pe _ (Ht.out.up exts) Hok.out) ?_
  rintro e w3 ⟨u3,rfl,hx3,ho3⟩
  have Ho3:=qh ho3
  clear ho3
  go_wp2_with fail
  go_ret
  rw [Hw.out]
  exact ⟨_,rfl,exts,ownsRow_mono Ho3.out (by simp;omega)⟩
end Go.Proofs.YtechbeegbhlppaaGreatDoor
