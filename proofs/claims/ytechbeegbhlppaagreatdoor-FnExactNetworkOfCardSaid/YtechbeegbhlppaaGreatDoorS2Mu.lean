/- Contracts: met, l02Meet: the days that are in both of two sets. -/
import Derived.Test.YtechbeegbhlppaaGreatDoorS2Mk
namespace Go.Proofs.YtechbeegbhlppaaGreatDoor
set_option linter.unusedVariables false
set_option linter.unusedSimpArgs false
open Go.RowKit
attribute [local go_sem] cell_onto
set_option maxRecDepth 100000 in
set_option maxHeartbeats 16000000 in
theorem spec_l02Meet (v1 v2:Value) (a b:List Sp) (w:World) (h1:Spans w 0 w.heap.size v1 a) (h2:Spans w 0 w.heap.size v2 b) (hl:a.length+b.length ≤ 4194304) (hb1:∀ i,i < a.length → SpBd' (spAt a i)) (hb2:∀ i,i < b.length → SpBd' (spAt b i)) :
  Calls Tryz.prog 100 #[v1,v2] w (NewOwn 111 2 (metL a b).length (spanCell (metL a b)) w):=by
 obtain ⟨A1,c1,rfl,hn1,hc1⟩:=h1.len
 obtain ⟨A2,c2,rfl,hn2,hc2⟩:=h2.len
 have H1:=qh h1
 have H2:=qh h2
 have Hb1:=qh hb1
 have Hb2:=qh hb2
 clear h1 h2 hb1 hb2
 have Hrow0:Hid (RowSp (w.alloc (.cells #[] 111)) w.heap.size 111 (.slice (some ⟨w.heap.size,0,none⟩) 0 0) []):=qh (by
  have:=World.ownsRow_made (base:=w.heap.size) (e:=111) (size:=2) w #[] 0 (by simp) (Nat.zero_le _) rfl
  unfold RowSp
  simpa [cellsOf] using this)
 go_enter Tryz.func100,Tryz.ntmps100
 go_wp2_with fail
 go_loopg [5,6,7,8] (a.length+b.length) (fun q u5 i k u8 wq=>∃ (t p r n:Nat) (O:List Sp),t+q=a.length+b.length∧i=.int .i64 p∧k=.int .i64 r∧Hid (metTo a b t=⟨p,r,O⟩)∧Hid (O.length=n)∧Hid (Ext w wq)∧Hid (RowSp wq w.heap.size 111 u5 O)∧∃ A c,u5=.slice A n c)
 case atStart=>exact ⟨0,0,0,0,[],by omega,rfl,rfl,qh rfl,qh rfl,qh exts,Hrow0,_,_,rfl⟩
 clear Hrow0
 case round =>
  obtain ⟨t,p,r,n,O,ht,rfl,rfl,Hm,HO,Hx,HrO,A5,c5,rfl⟩:=hrel
  have Hsum:=qh (metTo_sum a b t)
  have Hnt:=qh (metTo_len a b t)
  have hnt:n ≤ t:=by have:=Hnt.out;rw [Hm.out] at this;rw [← HO.out];exact this
  by_cases hc:p < a.length∧r < b.length
  ·obtain ⟨hpa,hrb⟩:=hc
   have hsum:p+r=t:=by
    have:=Hsum.out
    rw [Hm.out] at this
    exact this.2.2.elim id (fun hh=>absurd ⟨hpa,hrb⟩ hh)
   obtain ⟨b1,off1,rfl, -,hb1,x1,x2⟩:=H1.out.at_ hpa
   obtain ⟨b2,off2,rfl, -,hb2,y1,y2⟩:=H2.out.at_ hrb
   obtain ⟨⟨f1,f2⟩,⟨f3,f4⟩⟩:=Hb1.out p hpa
   obtain ⟨⟨g1,g2⟩,⟨g3,g4⟩⟩:=Hb2.out r hrb
   have hx:=Hx.out
   have hz:=hx.size
   have s1:=(hx.cell (p:=⟨b1,off1+p * 2,none⟩) hb1).trans x1
   have s2:=(hx.cell (p:=⟨b1,off1+p * 2+1,none⟩) hb1).trans x2
   have s3:=(hx.cell (p:=⟨b2,off2+r * 2,none⟩) hb2).trans y1
   have s4:=(hx.cell (p:=⟨b2,off2+r * 2+1,none⟩) hb2).trans y2
   have hb1r:b1 < wr.heap.size:=by omega
   have hb2r:b2 < wr.heap.size:=by omega
   have T1:decide ((p:Int) < (a.length:Int))=true:=decide_eq_true (by omega)
   have T1n:decide (p < a.length)=true:=decide_eq_true hpa
   have T2:decide ((r:Int) < (b.length:Int))=true:=decide_eq_true (by omega)
   have T2n:decide (r < b.length)=true:=decide_eq_true hrb
   have z1:=x2
   have z2:=y2
   clear x1 x2 y1 y2
   have Hc:Hid (∀ w', Ext w w' → w'.cell? ⟨b1,off1+p * 2+1,none⟩=some (.int .i64 (spAt a p).to)∧w'.cell? ⟨b2,off2+r * 2+1,none⟩=some (.int .i64 (spAt b r).to)):=qh (fun w' hx' => ⟨(hx'.cell (p:=⟨b1,off1+p * 2+1,none⟩) hb1).trans z1,(hx'.cell (p:=⟨b2,off2+r * 2+1,none⟩) hb2).trans z2⟩)
   clear z1 z2
   go_wp2_with fail
   go_region
   have E1:(if (spAt a p).fr < (spAt b r).fr then (spAt b r).fr else (spAt a p).fr)=(metS a b p r).fr:=by
    show _=max (spAt a p).fr (spAt b r).fr
    split <;> omega
   have E2:(if (spAt b r).to < (spAt a p).to then (spAt b r).to else (spAt a p).to)=(metS a b p r).to:=by
    show _=min (spAt a p).to (spAt b r).to
    split <;> omega
   have b1s : -4611686018427387904 ≤ (metS a b p r).fr∧(metS a b p r).fr ≤ 4611686018427387904:=by
    show -4611686018427387904 ≤ max (spAt a p).fr (spAt b r).fr∧max (spAt a p).fr (spAt b r).fr ≤ _
    omega
   have b2s : -4611686018427387904 ≤ (metS a b p r).to∧(metS a b p r).to ≤ 4611686018427387904:=by
    show -4611686018427387904 ≤ min (spAt a p).to (spAt b r).to∧min (spAt a p).to (spAt b r).to ≤ _
    omega
   rw [E1,E2]
   clear E1 E2
   have Hout:Hid (metOut a b p r O=if (metS a b p r).fr ≤ (metS a b p r).to then O ++ [metS a b p r] else O):=qh rfl
   have Hnx:Hid (metTo a b (t+1)=if (spAt a p).to < (spAt b r).to then ⟨p+1,r,metOut a b p r O⟩ else ⟨p,r+1,metOut a b p r O⟩):=qh (by
    show metNext a b (metTo a b t)=_
    rw [Hm.out]
    unfold metNext
    rw [if_pos ⟨hpa,hrb⟩])
   generalize metS a b p r=s at *
   obtain ⟨s1f,s2f⟩:=b1s
   obtain ⟨s3f,s4f⟩:=b2s
   obtain ⟨wb,hwb⟩:∃ x:World,x=(wr.alloc (.cells #[.int .i64 s.fr,.int .i64 s.to] 111)).drew:=⟨_,rfl⟩
   have hxb:Ext wr wb:=by rw [hwb];exact exts
   have lb:=(show Boxed wb wr.heap.size [.int .i64 s.fr,.int .i64 s.to] from by rw [hwb];exact (Boxed.new wr [.int .i64 s.fr,.int .i64 s.to] 111).ext ((Ext.refl _).drew));have lb0:=lb.at0;have lb1:=lb.at1;have lbg:=lb.1;have Hlb:=qh lb;clear lb
   rw [← hwb]
   clear hwb
   have Hxw:=qh (Hx.out.trans hxb)
   have HrW:=qh (HrO.out.ext hxb)
   have hzw:=Hxw.out.size
   have hn22:n ≤ 4194304:=by omega
   clear s1 s2 s3 s4 Hx HrO hx hb1r hb2r hxb
   by_cases hle:s.fr ≤ s.to
   ·have T3:decide (s.fr ≤ s.to)=true:=decide_eq_true hle
    have Ho2:Hid (metOut a b p r O=O ++ [s]):=qh (by rw [Hout.out,if_pos hle])
    have hsl:=HO.out
    obtain ⟨wc,hwc⟩:∃ x:World,x=wb:=⟨_,rfl⟩
    have Hsrc:Hid (Row (wb.alloc (.cells #[.int .i64 s.fr,.int .i64 s.to] 111)) 0 (wb.alloc (.cells #[.int .i64 s.fr,.int .i64 s.to] 111)).heap.size 2 (.slice (some ⟨wb.heap.size,0,none⟩) 1 1) 1 (spanCell [s])):=qh ((Boxed.new wb [.int .i64 s.fr,.int .i64 s.to] 111).row rfl (span_cells _ _))
    clear hwc hle Hout
    go_wp2_with (at_builtin;refine wpList_append_row _ rfl _ _ 40 rfl w.heap.size 111 2 16 Tryz.underlying40 (by kernel_rfl) (by omega) _ O.length 1 _ rfl (.inl (row_ext HrW.out exts)) (.inr (by omega)) 0 _ _ (spanCell [s]) rfl Hsrc.out (fun i _=>spanCell_one _ i) (by rw [hsl];unfold maxLen;omega) (by rw [hsl];omega) (by simp;omega) ?_;intro v5 w5 hown5 hput5;have Hrow5:=qh (RowSp.push hown5);have Hx5:=qh (hput5.ext (show Ext w (wb.alloc (.cells #[.int .i64 s.fr,.int .i64 s.to] 111)) from Hxw.out.trans exts) (Nat.le_refl _));obtain ⟨A6,c6,rfl⟩:=ownsRow_len hown5;clear hown5 hput5)
    rw [hsl] at Hrow5
    have hz5:=Hx5.out.size
    have HO5:Hid ((O ++ [s]).length=n+1):=qh (by rw [List.length_append,HO.out];rfl)
    clear T3 Hsrc Hxw HrW hzw hsl
    obtain ⟨q1,q2⟩:=Hc.out _ Hx5.out
    have hzz:=Hx5.out.size
    have hq1:b1 < w5.heap.size:=by omega
    have hq2:b2 < w5.heap.size:=by omega
    by_cases t7:(spAt a p).to < (spAt b r).to
    ·have T7:decide ((spAt a p).to < (spAt b r).to)=true:=decide_eq_true t7
     have Hn2:Hid (metTo a b (t+1)=⟨p+1,r,O ++ [s]⟩):=qh (by rw [Hnx.out,if_pos t7,Ho2.out])
     try go_wp2_with fail
     (refine wp_region_onto prog_mixed (by kernel_rfl) ?_;(repeat (go_big_quiet_step ((fail))));refine onto_end ?_;intro w1 hx1)
     have hxq:Ext w5 w1:=exts
     clear q1 q2 hx1
     go_wp2_with fail
     go_roundg (a.length+b.length - (t+1))
     case measure=>omega
     case rel=>exact ⟨t+1,p+1,r,n+1,O ++ [s],by omega,by go_num,rfl,Hn2,HO5,qh (Hx5.out.trans hxq),qh (Hrow5.out.ext hxq),_,_,rfl⟩
    ·have T7:decide ((spAt a p).to < (spAt b r).to)=false:=decide_eq_false t7
     have Hn2:Hid (metTo a b (t+1)=⟨p,r+1,O ++ [s]⟩):=qh (by rw [Hnx.out,if_neg t7,Ho2.out])
     try go_wp2_with fail
     (refine wp_region_onto prog_mixed (by kernel_rfl) ?_;(repeat (go_big_quiet_step ((fail))));refine onto_end ?_;intro w1 hx1)
     have hxq:Ext w5 w1:=exts
     clear q1 q2 hx1
     go_wp2_with fail
     go_roundg (a.length+b.length - (t+1))
     case measure=>omega
     case rel=>exact ⟨t+1,p,r+1,n+1,O ++ [s],by omega,rfl,by go_num,Hn2,HO5,qh (Hx5.out.trans hxq),qh (Hrow5.out.ext hxq),_,_,rfl⟩
   ·have T3:decide (s.fr ≤ s.to)=false:=decide_eq_false hle
    have Ho2:Hid (metOut a b p r O=O):=qh (by rw [Hout.out,if_neg hle])
    clear hle Hout
    go_wp2_with fail
    clear T3
    obtain ⟨q1,q2⟩:=Hc.out _ Hxw.out
    have hzz:=Hxw.out.size
    have hq1:b1 < wb.heap.size:=by omega
    have hq2:b2 < wb.heap.size:=by omega
    by_cases t7:(spAt a p).to < (spAt b r).to
    ·have T7:decide ((spAt a p).to < (spAt b r).to)=true:=decide_eq_true t7
     have Hn2:Hid (metTo a b (t+1)=⟨p+1,r,O⟩):=qh (by rw [Hnx.out,if_pos t7,Ho2.out])
     try go_wp2_with fail
     (refine wp_region_onto prog_mixed (by kernel_rfl) ?_;(repeat (go_big_quiet_step ((fail))));refine onto_end ?_;intro w1 hx1)
     have hxq:Ext wb w1:=exts
     clear q1 q2 hx1
     go_wp2_with fail
     go_roundg (a.length+b.length - (t+1))
     case measure=>omega
     case rel=>exact ⟨t+1,p+1,r,n,O,by omega,by go_num,rfl,Hn2,HO,qh (Hxw.out.trans hxq),qh (HrW.out.ext hxq),_,_,rfl⟩
    ·have T7:decide ((spAt a p).to < (spAt b r).to)=false:=decide_eq_false t7
     have Hn2:Hid (metTo a b (t+1)=⟨p,r+1,O⟩):=qh (by rw [Hnx.out,if_neg t7,Ho2.out])
     try go_wp2_with fail
     (refine wp_region_onto prog_mixed (by kernel_rfl) ?_;(repeat (go_big_quiet_step ((fail))));refine onto_end ?_;intro w1 hx1)
     have hxq:Ext wb w1:=exts
     clear q1 q2 hx1
     go_wp2_with fail
     go_roundg (a.length+b.length - (t+1))
     case measure=>omega
     case rel=>exact ⟨t+1,p,r+1,n,O,by omega,rfl,by go_num,Hn2,HO,qh (Hxw.out.trans hxq),qh (HrW.out.ext hxq),_,_,rfl⟩
  ·have Hend:Hid (metL a b=O):=qh (by
    have h3:=metL_end (a:=a) (b:=b) (t:=t) (by rw [Hm.out];exact hc) (by omega)
    rw [← h3,Hm.out])
   have hxf:=Hx.out
   by_cases hpa:p < a.length
   case' pos =>
    have hrb:¬ r < b.length:=fun hh=>hc ⟨hpa,hh⟩
    have T1:decide ((p:Int) < (a.length:Int))=true:=decide_eq_true (by omega)
    have T1n:decide (p < a.length)=true:=decide_eq_true hpa
    have T2:decide ((r:Int) < (b.length:Int))=false:=decide_eq_false (by omega)
    have T2n:decide (r < b.length)=false:=decide_eq_false hrb
   case' neg =>
    have T1:decide ((p:Int) < (a.length:Int))=false:=decide_eq_false (by omega)
    have T1n:decide (p < a.length)=false:=decide_eq_false hpa
   all_goals
    clear hc
    go_wp2_with fail
    go_ret
    rw [Hend.out,HO.out]
    exact ⟨_,rfl,hxf,by have:=HrO.out;unfold RowSp at this;rwa [HO.out] at this⟩
end Go.Proofs.YtechbeegbhlppaaGreatDoor
