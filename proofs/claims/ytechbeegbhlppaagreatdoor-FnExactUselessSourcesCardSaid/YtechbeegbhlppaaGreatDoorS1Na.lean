/- Texts merged (a claim holds at most sixty files): Na, Sm, Wq. -/
import Derived.Test.YtechbeegbhlppaaGreatDoorS1Bf
import Derived.Test.YtechbeegbhlppaaGreatDoorS1Lib
import Derived.Test.YtechbeegbhlppaaGreatDoorS1A
import Derived.Test.YtechbeegbhlppaaGreatDoorS1G
import Derived.Test.YtechbeegbhlppaaGreatDoorS1Wp
namespace Go.Proofs.YtechbeegbhlppaaGreatDoor
set_option linter.unusedVariables false
set_option linter.unusedSimpArgs false
end Go.Proofs.YtechbeegbhlppaaGreatDoor
namespace Go.Proofs.YtechbeegbhlppaaGreatDoor
set_option linter.unusedVariables false
set_option linter.unusedSimpArgs false
open Go.RowKit
attribute [local go_sem] cell_onto
theorem sp_ext {a b:List Sp} (hl:a.length=b.length) (h:∀ i,i < a.length → spAt a i=spAt b i):a=b:=by
 refine List.ext_getElem hl (fun i h1 h2=>?_)
 have:=h i h1
 unfold spAt at this
 rw [List.getD_eq_getElem?_getD,List.getD_eq_getElem?_getD,List.getElem?_eq_getElem h1,List.getElem?_eq_getElem h2] at this
 exact this
theorem Sp.eta_eq {a b:Sp}:a=b ↔ a.fr=b.fr∧a.to=b.to:=by
 cases a;cases b;simp
set_option maxHeartbeats 1000000 in
theorem slices_Equal_spans (v u:Value) (l m:List Sp) (w:World) (h:Spans w 0 w.heap.size v l) (h2:Spans w 0 w.heap.size u m) :
  Calls Tryz.prog 78 #[v,u] w (RetX (.bool (B (l=m))) w):=by
 obtain ⟨A,c,rfl,hn,hc⟩:=h.len
 obtain ⟨A', c', rfl,hn', hc'⟩:=h2.len
 have H:=qh h
 have H2:=qh h2
 clear h h2
 by_cases hl:l.length=m.length
 ·have hd:((l.length:Int) != (m.length:Int))=false:=by rw [hl];exact bne_self_eq_false _
  have Hl:=qh hl
  go_enter Tryz.func78,Tryz.ntmps78
  go_wp2_with fail
  go_loopg [5,13] l.length (fun q x i wr=>∃ j:Nat,j+q=l.length∧i=.int .i64 j∧Ext w wr∧Hid (∀ i,i < j → spAt l i=spAt m i))
  case atStart=>exact ⟨0,by omega,rfl,exts,qh (fun i hi=>absurd hi (by omega))⟩
  case round =>
   obtain ⟨j,hj,rfl,hx,He⟩:=hrel
   by_cases hlt:j < l.length
   ·have hlt' : j < m.length:=by omega
    obtain ⟨b,off,rfl,_,hb,c1,c2⟩:=(H.out.ext hx (Nat.le_refl _)).at_ hlt
    obtain ⟨b', off', rfl,_,hb', c3,c4⟩:=(H2.out.ext hx (Nat.le_refl _)).at_ hlt'
    have hbr:b < wr.heap.size:=Nat.lt_of_lt_of_le hb hx.size
    have hbr' : b' < wr.heap.size:=Nat.lt_of_lt_of_le hb' hx.size
    by_cases he:spAt l j=spAt m j
    ·have He' := qh he
     rw [he] at c1 c2
     clear he
     go_wp2_with fail
     (refine wp_region_onto prog_mixed (by kernel_rfl) ?_;(repeat (go_big_quiet_step ((fail))));refine onto_end ?_;intro w1 hx1)
     go_wp2_with fail
     go_roundg (l.length - (j+1))
     case measure=>omega
     case rel =>
      refine ⟨j+1,by omega,by go_num,exts,qh (fun i hi=>?_)⟩
      by_cases e:i=j
      ·subst e;exact He'.out
      ·exact He.out i (by omega)
    ·have He' := qh he
     by_cases he1:(spAt l j).fr=(spAt m j).fr
     ·have he2:((spAt l j).to == (spAt m j).to)=false:=by
       rw [beq_eq_false_iff_ne]
       exact fun hh=>He'.out (Sp.eta_eq.2 ⟨he1,hh⟩)
      go_wp2_with fail
      (refine wp_region_onto prog_mixed (by kernel_rfl) ?_;(repeat (go_big_quiet_step ((fail))));refine onto_end ?_;intro w1 hx1)
      go_wp2_with fail
      go_ret
      exact ⟨ret_bool (B_false (fun hh=>He'.out (by rw [hh]))).symm,exts⟩
     ·have he2:((spAt l j).fr == (spAt m j).fr)=false:=by
       rw [beq_eq_false_iff_ne]
       exact he1
      go_wp2_with fail
      (refine wp_region_onto prog_mixed (by kernel_rfl) ?_;(repeat (go_big_quiet_step ((fail))));refine onto_end ?_;intro w1 hx1)
      go_wp2_with fail
      go_ret
      exact ⟨ret_bool (B_false (fun hh=>He'.out (by rw [hh]))).symm,exts⟩
   ·obtain rfl:j=l.length:=by omega
    go_wp2_with fail
    go_ret
    exact ⟨ret_bool (B_true (sp_ext Hl.out He.out)).symm,exts⟩
 ·have hd:((l.length:Int) != (m.length:Int))=true:=by rw [bne_iff_ne];omega
  have Hl:=qh hl
  clear hl
  go_enter Tryz.func78,Tryz.ntmps78
  go_wp2_with fail
  go_ret
  exact ⟨ret_bool (B_false (fun hh=>Hl.out (by rw [hh]))).symm,exts⟩
set_option maxHeartbeats 1000000 in
theorem spec_l02Count_d (v:Value) (l:List Sp) (w:World) (h:Spans w 0 w.heap.size v l) (hok:SetD l):Calls Tryz.prog 76 #[v] w (RetX (.int .i64 (days l)) w):=by
 obtain ⟨A,c,rfl,hn,hc⟩:=h.len
 have H:=qh h
 have Hok:=qh hok
 have hlen:=hok.len
 clear h hok
 go_enter Tryz.func76,Tryz.ntmps76
 go_wp2_with fail
 go_loopg [3,4] l.length (fun k t i wr=>∃ j:Nat,j+k=l.length∧i=.int .i64 j∧t=.int .i64 (daysTo l j)∧Ext w wr)
 case atStart=>exact ⟨0,by omega,rfl,rfl,exts⟩
 case round =>
  obtain ⟨j,hj,rfl,rfl,hx⟩:=hrel
  have hbd:=daysTo_d Hok.out j (by omega)
  by_cases hlt:j < l.length
  ·obtain ⟨b,off,rfl,_,hb,h1,h2⟩:=(H.out.ext hx (Nat.le_refl _)).at_ hlt
   have hbr:b < wr.heap.size:=Nat.lt_of_lt_of_le hb hx.size
   obtain ⟨⟨a1,a2⟩,⟨a3,a4⟩⟩:=Hok.out.2 j hlt
   go_wp2_with fail
   (refine wp_region_onto prog_mixed (by kernel_rfl) ?_;(repeat (go_big_quiet_step ((fail))));refine onto_end ?_;intro w1 hx1)
   go_wp2_with fail
   go_roundg (l.length - (j+1))
   case measure=>omega
   case rel=>exact ⟨j+1,by omega,by go_num,by simp only [daysTo];congr 1;omega,exts⟩
  ·obtain rfl:j=l.length:=by omega
   go_wp2_with fail
   go_ret
   exact ⟨rfl,exts⟩
theorem us_no {W:Wrl} {l:List Ded} {i:Int} (h:ddE W l i ≠ 0):usL W l i=[]:=if_neg h
theorem us_ok {W:Wrl} {l:List Ded} {i:Int} (h:ddE W l i=0):usL W l i=usTo W (dedAt l i.toNat) 5:=if_pos h
theorem spec_count_q {l:List Sp} {c:Int} (hc:days l=c) (v:Value) (w:World) (h:Spans w 0 w.heap.size v l) (hok:SetD l):Calls Tryz.prog 76 #[v] w (RetX (.int .i64 c) w):=by
 subst hc
 exact spec_l02Count_d v l w h hok
set_option maxRecDepth 100000 in
set_option maxHeartbeats 8000000 in
theorem impl_UselessSources (vr vp vt vl vw vs vse vha v:Value) (W:Wrl) (l:List Ded) (i:Int) (w:World) (h:WrlAt w 0 w.heap.size vr vp vt vl vw vs vse vha W) (hd:Deds w 0 w.heap.size v l) :
  Calls Tryz.prog 29 #[.agg #[vr,.int .i64 W.ch.fr,.int .i64 W.ch.to,vp,vt,vl,vw,vs,vse,vha],v,.int .i64 i] w (NewInts2 (usL W l i) (ddE W l i) w):=by
 obtain ⟨A,c,rfl,hn,hc⟩:=hd.len
 have H:=qh h
 have Hd:=qh hd
 have HB:=qh (Boxed.new w [vr,.int .i64 W.ch.fr,.int .i64 W.ch.to,vp,vt,vl,vw,vs,vse,vha] 56)
 clear h hd
 go_enter Tryz.func29,Tryz.ntmps29
 go_wp2_with fail
 refine Calls.mono (impl_checkDeed vr vp vt vl vw vs vse vha _ W l i _ (H.out.up exts) (Hd.out.up exts)) ?_
 rintro e w1 ⟨rfl,hx1⟩
 have hx:Ext w w1:=exts
 by_cases h0:ddE W l i=0
 case neg =>
  have Hv:=qh (us_no (W:=W) (l:=l) (i:=i) h0)
  generalize ddE W l i=r at *
  have n1:(r == 0)=false:=by simpa using h0
  have n2:decide (r=0)=false:=decide_eq_false h0
  go_wp2_with fail
  go_ret2
  rw [Hv.out]
  exact NewInts2.nil _ hx
 have Hv:=qh (us_ok (W:=W) (l:=l) (i:=i) h0)
 have HE0:=qh h0
 rw [h0]
 obtain ⟨hok,hi0,hk0,hik⟩:=ddE_zero h0
 obtain ⟨k,rfl⟩:∃ k:Nat,i=(k:Int):=⟨i.toNat,by omega⟩
 have hk:k < l.length:=by omega
 have hki:(k:Int) < (l.length:Int):=by omega
 have HSI:=qh (fun (vd vwi:Value) (w' : World) (hX:Ext w w') (h1:Clss w' 0 w'.heap.size vd (dedAt l k).dt) (h2:Wits w' 0 w'.heap.size vwi (dedAt l k).wi)=>src_in (H.out.up hX) hok hk h1 h2)
 clear hok hk0 hik
 clear h0
 have b0:=(HB.out.ext hx1).cell 0 rfl
 have b1:=(HB.out.ext hx1).cell 1 rfl
 have b2:=(HB.out.ext hx1).cell 2 rfl
 have b3:=(HB.out.ext hx1).cell 3 rfl
 have b4:=(HB.out.ext hx1).cell 4 rfl
 have b5:=(HB.out.ext hx1).cell 5 rfl
 have b6:=(HB.out.ext hx1).cell 6 rfl
 have b7:=(HB.out.ext hx1).cell 7 rfl
 have b8:=(HB.out.ext hx1).cell 8 rfl
 have b9:=(HB.out.ext hx1).cell 9 rfl
 have bg:=(HB.out.ext hx1).1
 obtain ⟨kb,ko,vd,vwi,vci,eA,_,kg,d0,d1,d2,d3,d4,d5,d6,kd,kw,kc⟩:=(Hd.out.up hx).at_ hk
 obtain ⟨Ac,cc,rfl,hcn,hcc⟩:=kc.len
 subst eA
 have Kd:=qh kd
 have Kw:=qh kw
 clear kd kw kc
 have HU:=qh (HSI.out _ _ w1 hx Kd.out Kw.out)
 obtain ⟨L,eL⟩:∃ L,srcTo W (dedAt l k) 5=L:=⟨_,rfl⟩
 have HL5:=qh (show L.length=5 from by rw [← eL];exact srcTo_len W (dedAt l k) 5)
 have HAll:=qh (fun (vci' : Value) (w' : World) (hX:Ext w1 w')=>show Calls Tryz.prog 72 #[.agg #[vr,.int .i64 W.ch.fr,.int .i64 W.ch.to,vp,vt,vl,vw,vs,vse,vha],.agg #[.string (dedAt l k).nm,vd,vwi,.string (dedAt l k).pl,.string (dedAt l k).se,.string (dedAt l k).ha,vci']] w' (NewSetsBy 40 L w') from by rw [← eL];exact impl_allSources vr vp vt vl vw vs vse vha _ _ _ W l (dedAt l k) _ (HU.out.up hX))
 have HMA:=qh (fun (v' : Value) (but:Int) (w' : World) (hs:Sets w' 0 w'.heap.size v' L)=>show Calls Tryz.prog 77 #[v', .int .i64 but] w' (NewOwn 111 2 (ownL W (dedAt l k) but).length (spanCell (ownL W (dedAt l k) but)) w') from by
  have h9:=impl_metAll v' L but w' hs (by rw [HL5.out];omega) (fun z hz=>by rw [← eL,srcTo_at W (dedAt l k) 5 z (by rw [HL5.out] at hz;exact hz)];exact (srcL_d HU.out.ok HU.out.inn z).1)
  rw [HL5.out,← eL,own_all] at h9
  exact h9)
 clear eL
 go_wp2_with fail
 go_region_held3 (fun w' => w'.cell? ⟨w.heap.size,0,none⟩=some (vr)∧w'.cell? ⟨w.heap.size,1,none⟩=some (.int .i64 W.ch.fr)∧w'.cell? ⟨w.heap.size,2,none⟩=some (.int .i64 W.ch.to)∧w'.cell? ⟨w.heap.size,3,none⟩=some (vp)∧w'.cell? ⟨w.heap.size,4,none⟩=some (vt)∧w'.cell? ⟨w.heap.size,5,none⟩=some (vl)∧w'.cell? ⟨w.heap.size,6,none⟩=some (vw)∧w'.cell? ⟨w.heap.size,7,none⟩=some (vs)∧w'.cell? ⟨w.heap.size,8,none⟩=some (vse)∧w'.cell? ⟨w.heap.size,9,none⟩=some (vha)∧w'.cell? ⟨kb,ko+k * 7,none⟩=some (.string (dedAt l k).nm)∧w'.cell? ⟨kb,ko+k * 7+1,none⟩=some (vd)∧w'.cell? ⟨kb,ko+k * 7+2,none⟩=some (vwi)∧w'.cell? ⟨kb,ko+k * 7+3,none⟩=some (.string (dedAt l k).pl)∧w'.cell? ⟨kb,ko+k * 7+4,none⟩=some (.string (dedAt l k).se)∧w'.cell? ⟨kb,ko+k * 7+5,none⟩=some (.string (dedAt l k).ha)∧w'.cell? ⟨kb,ko+k * 7+6,none⟩=some (.slice Ac (dedAt l k).ci.length cc)∧Ext w1 w')
  (exact Ext.and_cell bg b0 exts (Ext.and_cell bg b1 exts (Ext.and_cell bg b2 exts (Ext.and_cell bg b3 exts (Ext.and_cell bg b4 exts (Ext.and_cell bg b5 exts (Ext.and_cell bg b6 exts (Ext.and_cell bg b7 exts (Ext.and_cell bg b8 exts (Ext.and_cell bg b9 exts (Ext.and_cell kg d0 exts (Ext.and_cell kg d1 exts (Ext.and_cell kg d2 exts (Ext.and_cell kg d3 exts (Ext.and_cell kg d4 exts (Ext.and_cell kg d5 exts (Ext.and_cell kg d6 exts exts)))))))))))))))))
  (first
   | (go_at_call 72;refine Calls.mono (HAll.out _ _ exts) ?_;rintro e wa ⟨ua,lo,rfl,hxa,hlo,hsa⟩;obtain ⟨Aa,ca,rfl,_,_⟩:=hsa.read.len;have Hsa:=qh hsa;clear hsa;rw [HL5.out];rw [HL5.out] at Hsa))
 clear b0 b1 b2 b3 b4 b5 b6 b7 b8 b9 bg
 clear d0 d1 d2 d3 d4 d5 d6
 have HXa:=qh (hx.trans (show Ext w1 wa from exts))
 clear hxa
 go_wp2_with fail
 refine Calls.mono (HMA.out _ (-1) _ Hsa.out.read) ?_
 rintro e wb ⟨ub,rfl,hxb,hob⟩
 have Hob:=qh (show RowSp wb _ 111 ub (ownL W (dedAt l k) (-1)) from hob)
 have Hsb:=qh (Hsa.out.ext hxb)
 have HXb:=qh (HXa.out.trans hxb)
 have Hr0:=qh (RowIn.new wb wb.heap.size 2)
 clear hob hxb Hsa
 go_wp2_with fail
 go_loopg [11,12,31] 5 (fun q u11 u12 i wr=>∃ j:Nat,j+q=5∧i=.int .i64 j∧Ext wb wr∧Hid (RowIn wr wb.heap.size 2 u11 (usTo W (dedAt l k) j)))
 case atStart=>exact ⟨0,rfl,rfl,exts,Hr0⟩
 clear Hr0
 case round =>
  obtain ⟨j,hj,rfl,hxr,Hr⟩:=hrel
  have Hxr:=qh hxr
  have hzr:=hxr.size
  have hlen:=usTo_len W (dedAt l k) j
  by_cases hlt:j < 5
  ·have hji:(j:Int) < 5:=by omega
   obtain ⟨q,eq⟩:∃ q,B (ownL W (dedAt l k) j=ownL W (dedAt l k) (-1))=q:=⟨_,rfl⟩
   have Hq:=qh eq
   clear eq hxr
   go_wp2_with fail
   refine Calls.mono (HMA.out _ j _ (Hsb.out.ext Hxr.out).read) ?_
   rintro e wd ⟨ud,rfl,hxd,hod⟩
   have Hod:=qh (show RowSp wd _ 111 ud (ownL W (dedAt l k) j) from hod)
   have Hxd:=qh (show Ext wr wd from exts)
   clear hod hxd
   go_wp2_with fail
   refine Calls.mono (slices_Equal_spans _ _ (ownL W (dedAt l k) j) (ownL W (dedAt l k) (-1)) _ Hod.out.read (Hob.out.read.up (Hxr.out.trans Hxd.out))) ?_
   rintro e w2 ⟨rfl,hx2⟩
   rw [Hq.out]
   have Hx2:=qh (Hxd.out.trans hx2)
   have hz2:=Hx2.out.size
   have Hr2:=qh (Hr.out.ext Hx2.out)
   obtain ⟨X,eX⟩:∃ X,usTo W (dedAt l k) j=X:=⟨_,rfl⟩
   rw [eX] at Hr2 hlen
   have HX:=qh eX
   clear hx2 eX
   cases q
   ·have Hm:=qh (usTo_no (W:=W) (d:=dedAt l k) (k:=j) (B_not.1 Hq.out))
    go_wp2_with fail
    go_roundg (5 - (j+1))
    case measure=>omega
    case rel=>exact ⟨j+1,by omega,by go_num,Hxr.out.trans Hx2.out,qh (by rw [Hm.out,HX.out];exact Hr2.out)⟩
   ·have Hm:=qh (usTo_yes (W:=W) (d:=dedAt l k) (k:=j) (B_iff.1 Hq.out))
    go_wp2_with (at_builtin;refine wpList_append_row _ rfl _ _ 67 rfl wb.heap.size 2 1 8 Tryz.underlying67 (by kernel_rfl) (by omega) _ X.length 1 _ rfl (Hr2.out.ext ((Ext.refl _).alloc _)) (.inr (by omega)) 0 _ _ (fun _=>.int .i64 j) rfl (Boxed.new w2 [.int .i64 j] 2).row1 (fun _ _=>rfl) (by unfold maxLen;omega) (by omega) (by simp;omega) ?_;intro v5 w5 hown5 hput5;have Hr5:=qh (RowIn.push hown5);have Hx5:=qh (hput5.ext (show Ext wb _ from (Hxr.out.trans Hx2.out).trans exts) (Nat.le_refl _));clear hown5 hput5)
    go_roundg (5 - (j+1))
    case measure=>omega
    case rel=>exact ⟨j+1,by omega,by go_num,Hx5.out,qh (by rw [Hm.out,HX.out];exact Hr5.out)⟩
  ·obtain rfl:j=5:=by omega
   go_wp2_with fail
   go_ret2
   rw [Hv.out,HE0.out,Int.toNat_natCast]
   exact RowIn.post Hr.out (HXb.out.trans Hxr.out) HXb.out.size
set_option maxRecDepth 100000 in
set_option maxHeartbeats 8000000 in
theorem spec_UselessSources (vr vp vt vl vw vs vse vha v:Value) (W:Wrl) (l:List Ded) (i:Int) (w:World) (h:WrlAt w 0 w.heap.size vr vp vt vl vw vs vse vha W) (hd:Deds w 0 w.heap.size v l) (hsm:WSm W) (hnm:DsNm l) :
  Calls Tryz.prog 28 #[.agg #[vr,.int .i64 W.ch.fr,.int .i64 W.ch.to,vp,vt,vl,vw,vs,vse,vha],v,.int .i64 i] w (NewInts2 (usL W l i) (ddE W l i) w):=by
 obtain ⟨A,c,rfl,hn,hc⟩:=hd.len
 have H:=qh h
 have Hd:=qh hd
 have HB:=qh (Boxed.new w [vr,.int .i64 W.ch.fr,.int .i64 W.ch.to,vp,vt,vl,vw,vs,vse,vha] 56)
 clear h hd
 go_enter Tryz.func28,Tryz.ntmps28
 go_wp2_with fail
 refine Calls.mono (spec_l17Code vr vp vt vl vw vs vse vha _ W l i _ (H.out.up exts) (Hd.out.up exts) hsm hnm) ?_
 rintro e w1 ⟨rfl,hx1⟩
 have hx:Ext w w1:=exts
 by_cases h0:ddE W l i=0
 case neg =>
  have Hv:=qh (us_no (W:=W) (l:=l) (i:=i) h0)
  generalize ddE W l i=r at *
  have n1:(r == 0)=false:=by simpa using h0
  have n2:decide (r=0)=false:=decide_eq_false h0
  go_wp2_with fail
  go_ret2
  rw [Hv.out]
  exact NewInts2.nil _ hx
 have Hv:=qh (us_ok (W:=W) (l:=l) (i:=i) h0)
 have HE0:=qh h0
 rw [h0]
 obtain ⟨hok,hi0,hk0,hik⟩:=ddE_zero h0
 obtain ⟨k,rfl⟩:∃ k:Nat,i=(k:Int):=⟨i.toNat,by omega⟩
 have hk:k < l.length:=by omega
 have hki:(k:Int) < (l.length:Int):=by omega
 have HSI:=qh (fun (vd vwi:Value) (w' : World) (hX:Ext w w') (h1:Clss w' 0 w'.heap.size vd (dedAt l k).dt) (h2:Wits w' 0 w'.heap.size vwi (dedAt l k).wi)=>src_in (H.out.up hX) hok hk h1 h2)
 clear hok hk0 hik
 clear h0
 have b0:=(HB.out.ext hx1).cell 0 rfl
 have b1:=(HB.out.ext hx1).cell 1 rfl
 have b2:=(HB.out.ext hx1).cell 2 rfl
 have b3:=(HB.out.ext hx1).cell 3 rfl
 have b4:=(HB.out.ext hx1).cell 4 rfl
 have b5:=(HB.out.ext hx1).cell 5 rfl
 have b6:=(HB.out.ext hx1).cell 6 rfl
 have b7:=(HB.out.ext hx1).cell 7 rfl
 have b8:=(HB.out.ext hx1).cell 8 rfl
 have b9:=(HB.out.ext hx1).cell 9 rfl
 have bg:=(HB.out.ext hx1).1
 obtain ⟨kb,ko,vd,vwi,vci,eA,_,kg,d0,d1,d2,d3,d4,d5,d6,kd,kw,kc⟩:=(Hd.out.up hx).at_ hk
 obtain ⟨Ac,cc,rfl,hcn,hcc⟩:=kc.len
 subst eA
 have Kd:=qh kd
 have Kw:=qh kw
 clear kd kw kc
 have HU:=qh (HSI.out _ _ w1 hx Kd.out Kw.out)
 have HOD:=qh (fun but=>(ownL_d HU.out.ok HU.out.inn but).1)
 have HCn:=qh (fun s=>own_count HU.out.ok HU.out.inn s)
 obtain ⟨c0,ec0⟩:∃ c0,days (ownL W (dedAt l k) (-1))=c0:=⟨_,rfl⟩
 have Hc0:=qh ec0
 clear ec0
 go_wp2_with fail
 go_region_held3 (fun w' => w'.cell? ⟨w.heap.size,0,none⟩=some (vr)∧w'.cell? ⟨w.heap.size,1,none⟩=some (.int .i64 W.ch.fr)∧w'.cell? ⟨w.heap.size,2,none⟩=some (.int .i64 W.ch.to)∧w'.cell? ⟨w.heap.size,3,none⟩=some (vp)∧w'.cell? ⟨w.heap.size,4,none⟩=some (vt)∧w'.cell? ⟨w.heap.size,5,none⟩=some (vl)∧w'.cell? ⟨w.heap.size,6,none⟩=some (vw)∧w'.cell? ⟨w.heap.size,7,none⟩=some (vs)∧w'.cell? ⟨w.heap.size,8,none⟩=some (vse)∧w'.cell? ⟨w.heap.size,9,none⟩=some (vha)∧w'.cell? ⟨kb,ko+k * 7,none⟩=some (.string (dedAt l k).nm)∧w'.cell? ⟨kb,ko+k * 7+1,none⟩=some (vd)∧w'.cell? ⟨kb,ko+k * 7+2,none⟩=some (vwi)∧w'.cell? ⟨kb,ko+k * 7+3,none⟩=some (.string (dedAt l k).pl)∧w'.cell? ⟨kb,ko+k * 7+4,none⟩=some (.string (dedAt l k).se)∧w'.cell? ⟨kb,ko+k * 7+5,none⟩=some (.string (dedAt l k).ha)∧w'.cell? ⟨kb,ko+k * 7+6,none⟩=some (.slice Ac (dedAt l k).ci.length cc)∧Ext w1 w')
  (exact Ext.and_cell bg b0 exts (Ext.and_cell bg b1 exts (Ext.and_cell bg b2 exts (Ext.and_cell bg b3 exts (Ext.and_cell bg b4 exts (Ext.and_cell bg b5 exts (Ext.and_cell bg b6 exts (Ext.and_cell bg b7 exts (Ext.and_cell bg b8 exts (Ext.and_cell bg b9 exts (Ext.and_cell kg d0 exts (Ext.and_cell kg d1 exts (Ext.and_cell kg d2 exts (Ext.and_cell kg d3 exts (Ext.and_cell kg d4 exts (Ext.and_cell kg d5 exts (Ext.and_cell kg d6 exts exts)))))))))))))))))
  (first
   | (go_at_call 74;refine Calls.mono (spec_l17Own vr vp vt vl vw vs vse vha _ _ _ W l (dedAt l k) (-1) _ (HU.out.up exts)) ?_;rintro e wa ⟨ua,rfl,hxa,hoa⟩;have Hoa:=qh (show RowSp wa _ 111 ua (ownL W (dedAt l k) (-1)) from hoa);clear hoa)
   | (go_at_call 76;refine Calls.mono (spec_count_q Hc0.out _ _ (Hoa.out.read.up exts) (HOD.out (-1))) ?_;rintro e wb ⟨rfl,hxb⟩))
 clear b0 b1 b2 b3 b4 b5 b6 b7 b8 b9 bg
 clear d0 d1 d2 d3 d4 d5 d6
 have HX1b:=qh (show Ext w1 wb from exts)
 have HXb:=qh (hx.trans HX1b.out)
 have Hbb:=qh (hx1.trans HX1b.out)
 have Hr0:=qh (RowIn.new wb wb.heap.size 2)
 clear hxa hxb hx1 Hoa Kd Kw
 go_wp2_with fail
 go_loopg [10,11] 5 (fun q u10 i wr=>∃ j:Nat,j+q=5∧i=.int .i64 j∧Ext wb wr∧Hid (RowIn wr wb.heap.size 2 u10 (usTo W (dedAt l k) j)))
 case atStart=>exact ⟨0,rfl,rfl,exts,Hr0⟩
 clear Hr0
 case round =>
  obtain ⟨j,hj,rfl,hxr,Hr⟩:=hrel
  have Hxr:=qh hxr
  have HXr:=qh (HXb.out.trans hxr)
  have hzr:=hxr.size
  have hlen:=usTo_len W (dedAt l k) j
  by_cases hlt:j < 5
  ·have e0:decide ((j:Int) ≤ 4)=true:=decide_eq_true (by omega)
   have e0n:decide (j ≤ 4)=true:=decide_eq_true (by omega)
   obtain ⟨cj,ecj⟩:∃ cj,days (ownL W (dedAt l k) j)=cj:=⟨_,rfl⟩
   have Hcj:=qh ecj
   have Hiff:=qh (show cj=c0 ↔ ownL W (dedAt l k) j=ownL W (dedAt l k) (-1) from by rw [← ecj,← Hc0.out];exact HCn.out j)
   have b0:=(HB.out.ext (Hbb.out.trans hxr)).cell 0 rfl
   have b1:=(HB.out.ext (Hbb.out.trans hxr)).cell 1 rfl
   have b2:=(HB.out.ext (Hbb.out.trans hxr)).cell 2 rfl
   have b3:=(HB.out.ext (Hbb.out.trans hxr)).cell 3 rfl
   have b4:=(HB.out.ext (Hbb.out.trans hxr)).cell 4 rfl
   have b5:=(HB.out.ext (Hbb.out.trans hxr)).cell 5 rfl
   have b6:=(HB.out.ext (Hbb.out.trans hxr)).cell 6 rfl
   have b7:=(HB.out.ext (Hbb.out.trans hxr)).cell 7 rfl
   have b8:=(HB.out.ext (Hbb.out.trans hxr)).cell 8 rfl
   have b9:=(HB.out.ext (Hbb.out.trans hxr)).cell 9 rfl
   have bg:=(HB.out.ext (Hbb.out.trans hxr)).1
   obtain ⟨kb', ko', vd,vwi,vci,eA,_,kg,d0,d1,d2,d3,d4,d5,d6,kd,kw,kc⟩:=(Hd.out.up HXr.out).at_ hk
   obtain ⟨Ac,cc,rfl,hcn,hcc⟩:=kc.len
   injection eA with eA
   injection eA with e1 e2
   subst e1 e2
   have Kd:=qh kd
   have Kw:=qh kw
   clear kd kw kc
   clear ecj hxr
   by_cases hce:cj=c0
   case pos =>
    have E1:decide (cj=c0)=true:=decide_eq_true hce
    have E2:(cj == c0)=true:=beq_iff_eq.2 hce
    have Hm:=qh (usTo_yes (W:=W) (d:=dedAt l k) (k:=j) (Hiff.out.1 hce))
    clear hce
    go_wp2_with fail
    go_region_held3 (fun w' => w'.cell? ⟨w.heap.size,0,none⟩=some (vr)∧w'.cell? ⟨w.heap.size,1,none⟩=some (.int .i64 W.ch.fr)∧w'.cell? ⟨w.heap.size,2,none⟩=some (.int .i64 W.ch.to)∧w'.cell? ⟨w.heap.size,3,none⟩=some (vp)∧w'.cell? ⟨w.heap.size,4,none⟩=some (vt)∧w'.cell? ⟨w.heap.size,5,none⟩=some (vl)∧w'.cell? ⟨w.heap.size,6,none⟩=some (vw)∧w'.cell? ⟨w.heap.size,7,none⟩=some (vs)∧w'.cell? ⟨w.heap.size,8,none⟩=some (vse)∧w'.cell? ⟨w.heap.size,9,none⟩=some (vha)∧w'.cell? ⟨kb,ko+k * 7,none⟩=some (.string (dedAt l k).nm)∧w'.cell? ⟨kb,ko+k * 7+1,none⟩=some (vd)∧w'.cell? ⟨kb,ko+k * 7+2,none⟩=some (vwi)∧w'.cell? ⟨kb,ko+k * 7+3,none⟩=some (.string (dedAt l k).pl)∧w'.cell? ⟨kb,ko+k * 7+4,none⟩=some (.string (dedAt l k).se)∧w'.cell? ⟨kb,ko+k * 7+5,none⟩=some (.string (dedAt l k).ha)∧w'.cell? ⟨kb,ko+k * 7+6,none⟩=some (.slice Ac (dedAt l k).ci.length cc)∧Ext wr w')
     (exact Ext.and_cell bg b0 exts (Ext.and_cell bg b1 exts (Ext.and_cell bg b2 exts (Ext.and_cell bg b3 exts (Ext.and_cell bg b4 exts (Ext.and_cell bg b5 exts (Ext.and_cell bg b6 exts (Ext.and_cell bg b7 exts (Ext.and_cell bg b8 exts (Ext.and_cell bg b9 exts (Ext.and_cell kg d0 exts (Ext.and_cell kg d1 exts (Ext.and_cell kg d2 exts (Ext.and_cell kg d3 exts (Ext.and_cell kg d4 exts (Ext.and_cell kg d5 exts (Ext.and_cell kg d6 exts exts)))))))))))))))))
     (first
      | (go_at_call 74;refine Calls.mono (spec_l17Own vr vp vt vl vw vs vse vha _ _ _ W l (dedAt l k) j _ ((HSI.out _ _ wr HXr.out Kd.out Kw.out).up exts)) ?_;rintro e wa ⟨ua,rfl,hxa,hoa⟩;have Hoa:=qh (show RowSp wa _ 111 ua (ownL W (dedAt l k) j) from hoa);clear hoa)
      | (go_at_call 76;refine Calls.mono (spec_count_q Hcj.out _ _ (Hoa.out.read.up exts) (HOD.out j)) ?_;rintro e w2 ⟨rfl,hx2⟩))
    have Hx2:=qh (show Ext wr w2 from exts)
    have hz2:=Hx2.out.size
    have Hr2:=qh (Hr.out.ext Hx2.out)
    obtain ⟨X,eX⟩:∃ X,usTo W (dedAt l k) j=X:=⟨_,rfl⟩
    rw [eX] at Hr2 hlen
    have HX:=qh eX
    clear hx2 eX hxa
    clear b0 b1 b2 b3 b4 b5 b6 b7 b8 b9 bg
    clear d0 d1 d2 d3 d4 d5 d6
    go_wp2_with (at_builtin;refine wpList_append_row _ rfl _ _ 67 rfl wb.heap.size 2 1 8 Tryz.underlying67 (by kernel_rfl) (by omega) _ X.length 1 _ rfl (Hr2.out.ext ((Ext.refl _).alloc _)) (.inr (by omega)) 0 _ _ (fun _=>.int .i64 j) rfl (Boxed.new w2 [.int .i64 j] 2).row1 (fun _ _=>rfl) (by unfold maxLen;omega) (by omega) (by simp;omega) ?_;intro v5 w5 hown5 hput5;have Hr5:=qh (RowIn.push hown5);have Hx5:=qh (hput5.ext (show Ext wb _ from (Hxr.out.trans Hx2.out).trans exts) (Nat.le_refl _));clear hown5 hput5)
    go_roundg (5 - (j+1))
    case measure=>omega
    case rel=>exact ⟨j+1,by omega,by go_num,Hx5.out,qh (by rw [Hm.out,HX.out];exact Hr5.out)⟩
   case neg =>
    have E1:decide (cj=c0)=false:=decide_eq_false hce
    have E2:(cj == c0)=false:=beq_eq_false_iff_ne.2 hce
    have Hm:=qh (usTo_no (W:=W) (d:=dedAt l k) (k:=j) (fun hh=>hce (Hiff.out.2 hh)))
    clear hce
    go_wp2_with fail
    go_region_held3 (fun w' => w'.cell? ⟨w.heap.size,0,none⟩=some (vr)∧w'.cell? ⟨w.heap.size,1,none⟩=some (.int .i64 W.ch.fr)∧w'.cell? ⟨w.heap.size,2,none⟩=some (.int .i64 W.ch.to)∧w'.cell? ⟨w.heap.size,3,none⟩=some (vp)∧w'.cell? ⟨w.heap.size,4,none⟩=some (vt)∧w'.cell? ⟨w.heap.size,5,none⟩=some (vl)∧w'.cell? ⟨w.heap.size,6,none⟩=some (vw)∧w'.cell? ⟨w.heap.size,7,none⟩=some (vs)∧w'.cell? ⟨w.heap.size,8,none⟩=some (vse)∧w'.cell? ⟨w.heap.size,9,none⟩=some (vha)∧w'.cell? ⟨kb,ko+k * 7,none⟩=some (.string (dedAt l k).nm)∧w'.cell? ⟨kb,ko+k * 7+1,none⟩=some (vd)∧w'.cell? ⟨kb,ko+k * 7+2,none⟩=some (vwi)∧w'.cell? ⟨kb,ko+k * 7+3,none⟩=some (.string (dedAt l k).pl)∧w'.cell? ⟨kb,ko+k * 7+4,none⟩=some (.string (dedAt l k).se)∧w'.cell? ⟨kb,ko+k * 7+5,none⟩=some (.string (dedAt l k).ha)∧w'.cell? ⟨kb,ko+k * 7+6,none⟩=some (.slice Ac (dedAt l k).ci.length cc)∧Ext wr w')
     (exact Ext.and_cell bg b0 exts (Ext.and_cell bg b1 exts (Ext.and_cell bg b2 exts (Ext.and_cell bg b3 exts (Ext.and_cell bg b4 exts (Ext.and_cell bg b5 exts (Ext.and_cell bg b6 exts (Ext.and_cell bg b7 exts (Ext.and_cell bg b8 exts (Ext.and_cell bg b9 exts (Ext.and_cell kg d0 exts (Ext.and_cell kg d1 exts (Ext.and_cell kg d2 exts (Ext.and_cell kg d3 exts (Ext.and_cell kg d4 exts (Ext.and_cell kg d5 exts (Ext.and_cell kg d6 exts exts)))))))))))))))))
     (first
      | (go_at_call 74;refine Calls.mono (spec_l17Own vr vp vt vl vw vs vse vha _ _ _ W l (dedAt l k) j _ ((HSI.out _ _ wr HXr.out Kd.out Kw.out).up exts)) ?_;rintro e wa ⟨ua,rfl,hxa,hoa⟩;have Hoa:=qh (show RowSp wa _ 111 ua (ownL W (dedAt l k) j) from hoa);clear hoa)
      | (go_at_call 76;refine Calls.mono (spec_count_q Hcj.out _ _ (Hoa.out.read.up exts) (HOD.out j)) ?_;rintro e w2 ⟨rfl,hx2⟩))
    have Hx2:=qh (show Ext wr w2 from exts)
    have hz2:=Hx2.out.size
    have Hr2:=qh (Hr.out.ext Hx2.out)
    obtain ⟨X,eX⟩:∃ X,usTo W (dedAt l k) j=X:=⟨_,rfl⟩
    rw [eX] at Hr2 hlen
    have HX:=qh eX
    clear hx2 eX hxa
    clear b0 b1 b2 b3 b4 b5 b6 b7 b8 b9 bg
    clear d0 d1 d2 d3 d4 d5 d6
    go_wp2_with fail
    go_roundg (5 - (j+1))
    case measure=>omega
    case rel=>exact ⟨j+1,by omega,by go_num,Hxr.out.trans Hx2.out,qh (by rw [Hm.out,HX.out];exact Hr2.out)⟩
  ·obtain rfl:j=5:=by omega
   go_wp2_with fail
   go_ret2
   rw [Hv.out,HE0.out,Int.toNat_natCast]
   exact RowIn.post Hr.out HXr.out HXb.out.size
end Go.Proofs.YtechbeegbhlppaaGreatDoor
