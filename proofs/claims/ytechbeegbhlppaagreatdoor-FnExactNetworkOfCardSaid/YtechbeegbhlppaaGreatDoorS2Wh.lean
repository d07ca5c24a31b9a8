/- Texts merged (a claim holds at most sixty files): Wh, Wi. -/
import Derived.Test.YtechbeegbhlppaaGreatDoorS2Vv
import Derived.Test.YtechbeegbhlppaaGreatDoorS2Kk
import Derived.Test.YtechbeegbhlppaaGreatDoorS2Jd
import Derived.Test.YtechbeegbhlppaaGreatDoorS2Us
namespace Go.Proofs.YtechbeegbhlppaaGreatDoor
set_option linter.unusedVariables false
set_option linter.unusedSimpArgs false
open Go.RowKit
attribute [local go_sem] cell_onto
def WayOk (n:Nat) (wy D:Vc):Prop:=∀ a,a < n → (wy a < 0∧wy a = -1∧D a=1000000) ∨ (0 ≤ wy a∧wy a ≤ 57600∧D a=wy a)
def GapPost (D:Vc) (l:List Wy) (j:Nat) (w:World) (e:Ending) (w' : World):Prop :=
 ∃ (a b:Int) (q:Bool),e=.returned (.tuple #[.agg #[.int .i64 a,.int .i64 b],.bool q])∧Ext w w' ∧ (q=true → a=(gpS D l j).fr∧b=(gpS D l j).to∧(gpS D l j).fr ≤ (gpS D l j).to)∧(q=false → ¬ (gpS D l j).fr ≤ (gpS D l j).to)
set_option maxRecDepth 100000 in
set_option maxHeartbeats 16000000 in
theorem spec_l15Gap (vs:Value) (l:List Wy) (n g:Nat) (wy D:Vc) (j:Nat) (w:World) (hs:Wys w 0 w.heap.size vs l) (hb:Blk w g n (vcC wy)) (hj:j ≤ l.length) (h40:l.length ≤ 40) (hn:n ≤ 12) (htr:TrOk n l D) (hwy:WayOk n wy D) :
  Calls Tryz.prog 158 #[vs,.slice (some ⟨g,0,none⟩) n n,.int .i64 j] w (GapPost D l j w):=by
 obtain ⟨As,cs', rfl,hns,hcs⟩:=hs.len
 have Hs:=qh hs
 have Hb:=qh hb
 have Htr:=qh htr
 have Hwy:=qh hwy
 have Hg:=qh (gpS_day htr hj)
 have hgw:=hb.1
 have hgw1:g < w.heap.size+1:=by omega
 have hgw2:g < w.heap.size+1+1:=by omega
 have hgw3:g < w.heap.size+1+1+1:=by omega
 clear hs hb htr hwy
 by_cases h0:j=0
 ·have dj:decide ((0:Int) < (j:Int))=false:=decide_eq_false (by omega)
  have djn:decide (0 < j)=false:=decide_eq_false (by omega)
  have HF:Hid ((gpS D l j).fr=0):=qh (by simp only [gpS];rw [if_pos h0])
  clear h0
  by_cases hlt:j < l.length
  ·have dl:decide ((j:Int) < (l.length:Int))=true:=decide_eq_true (by omega)
   have dln:decide (j < l.length)=true:=decide_eq_true hlt
   have hji:(j:Int) < (l.length:Int):=by omega
   obtain ⟨bs,ofs,rfl,_,hbs,s1,s2,s3⟩:=Hs.out.at_ (i:=j) (by omega)
   have HsT:=qh (Htr.out.st (j) (by omega))
   obtain ⟨⟨sa0,sa1⟩,⟨sb0,sb1⟩,⟨sd0,sd1⟩,sbd⟩:=HsT.out
   obtain ⟨s,es⟩:∃ x,wyAt l (j)=x:=⟨_,rfl⟩
   have HHs:=qh es
   rw [es] at s1 s2 s3 sa0 sa1 sb0 sb1 sd0 sd1 sbd
   clear es
   have sa2:s.a < (n:Int):=by omega
   have ys:s.a.toNat < n:=by omega
   have cs:=(Hb.out.2 s.a.toNat ys).1
   rw [show vcC wy s.a.toNat=.int .i64 (wy s.a.toNat) from rfl] at cs
   have Ws:=qh (Hwy.out s.a.toNat ys)
   obtain ⟨ms,ems⟩:∃ x,wy s.a.toNat=x:=⟨_,rfl⟩
   rw [ems] at cs Ws
   clear ems
   have hb1:bs < w.heap.size+1:=by omega
   have hb2:bs < w.heap.size+1+1:=by omega
   have hb3:bs < w.heap.size+1+1+1:=by omega
   by_cases hm:ms < 0
   ·have dm:decide (ms < 0)=true:=decide_eq_true hm
    have HE:Hid ((gpS D l j).to < 0):=qh (by
     simp only [gpS]
     rw [if_pos hlt,HHs.out]
     have:=Ws.out
     omega)
    go_enter Tryz.func158,Tryz.ntmps158
    go_wp2_with fail
    refine bodyPost_ret (v:=.tuple #[.agg #[.int .i64 0,.int .i64 730499],.bool false]) (by simp [results,Tryz.results158,go_sem, *]) rfl ?_
    exact ⟨_,_,false,rfl,exts,fun h=>(by cases h),fun _=>by
     have h1:=HE.out
     have h2:=Hg.out.1
     omega⟩
   ·have dm:decide (ms < 0)=false:=decide_eq_false hm
    have ms1:ms ≤ 57600:=by have:=Ws.out;omega
    have HE:Hid ((gpS D l j).to=s.b - max 1 ms):=qh (by
     simp only [gpS]
     rw [if_pos hlt,HHs.out]
     have:=Ws.out
     omega)
    go_enter Tryz.func158,Tryz.ntmps158
    go_wp2_with fail
    go_region
    go_wp2_with fail
    go_region
    go_wp2_with fail
    refine bodyPost_ret (v:=.tuple #[.agg #[.int .i64 0,.int .i64 (s.b - max 1 ms)],.bool (decide (0 ≤ (s.b - max 1 ms)))]) (by simp [results,Tryz.results158,go_sem, *]) rfl ?_
    refine ⟨_,_,_,rfl,exts,?_,?_⟩
    all_goals
     rw [HF.out,HE.out]
     intro hq
     first | exact ⟨rfl,rfl,of_decide_eq_true hq⟩ | exact of_decide_eq_false hq
  ·have dl:decide ((j:Int) < (l.length:Int))=false:=decide_eq_false (by omega)
   have dln:decide (j < l.length)=false:=decide_eq_false hlt
   have HE:Hid ((gpS D l j).to=730499):=qh (by
    simp only [gpS]
    rw [if_neg hlt])
   go_enter Tryz.func158,Tryz.ntmps158
   go_wp2_with fail
   go_region
   go_wp2_with fail
   refine bodyPost_ret (v:=.tuple #[.agg #[.int .i64 0,.int .i64 730499],.bool (decide (0 ≤ 730499))]) (by simp [results,Tryz.results158,go_sem, *]) rfl ?_
   refine ⟨_,_,_,rfl,exts,?_,?_⟩
   all_goals
    rw [HF.out,HE.out]
    intro hq
    first | exact ⟨rfl,rfl,of_decide_eq_true hq⟩ | exact of_decide_eq_false hq
 ·have dj:decide ((0:Int) < (j:Int))=true:=decide_eq_true (by omega)
  have djn:decide (0 < j)=true:=decide_eq_true (by omega)
  have hj0:0 < j:=by omega
  have q0:(0:Int) ≤ (j:Int) - 1:=by omega
  have q1:(j:Int) - 1 < (l.length:Int):=by omega
  have q2:((j:Int) - 1).toNat=j - 1:=by omega
  obtain ⟨bs,ofs,rfl,_,hbs,t1,t2,t3⟩:=Hs.out.at_ (i:=j - 1) (by omega)
  have HtT:=qh (Htr.out.st (j - 1) (by omega))
  obtain ⟨⟨ta0,ta1⟩,⟨tb0,tb1⟩,⟨td0,td1⟩,tbd⟩:=HtT.out
  obtain ⟨t,et⟩:∃ x,wyAt l (j - 1)=x:=⟨_,rfl⟩
  have HHt:=qh et
  rw [et] at t1 t2 t3 ta0 ta1 tb0 tb1 td0 td1 tbd
  clear et
  have ta2:t.a < (n:Int):=by omega
  have yt:t.a.toNat < n:=by omega
  have ct:=(Hb.out.2 t.a.toNat yt).1
  rw [show vcC wy t.a.toNat=.int .i64 (wy t.a.toNat) from rfl] at ct
  have Wt:=qh (Hwy.out t.a.toNat yt)
  obtain ⟨mt,emt⟩:∃ x,wy t.a.toNat=x:=⟨_,rfl⟩
  rw [emt] at ct Wt
  clear emt
  have hb1:bs < w.heap.size+1:=by omega
  have hb2:bs < w.heap.size+1+1:=by omega
  have hb3:bs < w.heap.size+1+1+1:=by omega
  by_cases hmt:mt < 0
  ·have dm:decide (mt < 0)=true:=decide_eq_true hmt
   have HF:Hid (1000000 ≤ (gpS D l j).fr):=qh (by
    simp only [gpS]
    rw [if_neg h0,HHt.out]
    have:=Wt.out
    omega)
   clear h0
   go_enter Tryz.func158,Tryz.ntmps158
   go_wp2_with fail
   refine bodyPost_ret (v:=.tuple #[.agg #[.int .i64 0,.int .i64 730499],.bool false]) (by simp [results,Tryz.results158,go_sem, *]) rfl ?_
   exact ⟨_,_,false,rfl,exts,fun h=>(by cases h),fun _=>by
    have h1:=HF.out
    have h2:=Hg.out.2.2.1
    omega⟩
  ·have dm0:decide (mt < 0)=false:=decide_eq_false hmt
   have mt1:mt ≤ 57600:=by have:=Wt.out;omega
   have HF:Hid ((gpS D l j).fr=t.d+max 1 mt):=qh (by
    simp only [gpS]
    rw [if_neg h0,HHt.out]
    have:=Wt.out
    omega)
   clear h0
   by_cases hlt:j < l.length
   ·have dl:decide ((j:Int) < (l.length:Int))=true:=decide_eq_true (by omega)
    have dln:decide (j < l.length)=true:=decide_eq_true hlt
    have hji:(j:Int) < (l.length:Int):=by omega
    obtain ⟨bs', ofs', e,_,_,s1,s2,s3⟩:=Hs.out.at_ (i:=j) (by omega)
    injection e with e
    injection e with e1 e2
    subst e1 e2
    have HsT:=qh (Htr.out.st (j) (by omega))
    obtain ⟨⟨sa0,sa1⟩,⟨sb0,sb1⟩,⟨sd0,sd1⟩,sbd⟩:=HsT.out
    obtain ⟨s,es⟩:∃ x,wyAt l (j)=x:=⟨_,rfl⟩
    have HHs:=qh es
    rw [es] at s1 s2 s3 sa0 sa1 sb0 sb1 sd0 sd1 sbd
    clear es
    have sa2:s.a < (n:Int):=by omega
    have ys:s.a.toNat < n:=by omega
    have cs:=(Hb.out.2 s.a.toNat ys).1
    rw [show vcC wy s.a.toNat=.int .i64 (wy s.a.toNat) from rfl] at cs
    have Ws:=qh (Hwy.out s.a.toNat ys)
    obtain ⟨ms,ems⟩:∃ x,wy s.a.toNat=x:=⟨_,rfl⟩
    rw [ems] at cs Ws
    clear ems
    by_cases hm:ms < 0
    ·have dm:decide (ms < 0)=true:=decide_eq_true hm
     have HE:Hid ((gpS D l j).to < 0):=qh (by
      simp only [gpS]
      rw [if_pos hlt,HHs.out]
      have:=Ws.out
      omega)
     go_enter Tryz.func158,Tryz.ntmps158
     go_wp2_with fail
     go_region
     go_wp2_with fail
     refine bodyPost_ret (v:=.tuple #[.agg #[.int .i64 (t.d+max 1 mt),.int .i64 730499],.bool false]) (by simp [results,Tryz.results158,go_sem, *]) rfl ?_
     exact ⟨_,_,false,rfl,exts,fun h=>(by cases h),fun _=>by
      have h1:=HE.out
      have h2:=Hg.out.1
      omega⟩
    ·have dm:decide (ms < 0)=false:=decide_eq_false hm
     have ms1:ms ≤ 57600:=by have:=Ws.out;omega
     have HE:Hid ((gpS D l j).to=s.b - max 1 ms):=qh (by
      simp only [gpS]
      rw [if_pos hlt,HHs.out]
      have:=Ws.out
      omega)
     go_enter Tryz.func158,Tryz.ntmps158
     go_wp2_with fail
     go_region
     go_wp2_with fail
     go_region
     go_wp2_with fail
     go_region
     go_wp2_with fail
     refine bodyPost_ret (v:=.tuple #[.agg #[.int .i64 (t.d+max 1 mt),.int .i64 (s.b - max 1 ms)],.bool (decide ((t.d+max 1 mt) ≤ (s.b - max 1 ms)))]) (by simp [results,Tryz.results158,go_sem, *]) rfl ?_
     refine ⟨_,_,_,rfl,exts,?_,?_⟩
     all_goals
      rw [HF.out,HE.out]
      intro hq
      first | exact ⟨rfl,rfl,of_decide_eq_true hq⟩ | exact of_decide_eq_false hq
   ·have dl:decide ((j:Int) < (l.length:Int))=false:=decide_eq_false (by omega)
    have dln:decide (j < l.length)=false:=decide_eq_false hlt
    have HE:Hid ((gpS D l j).to=730499):=qh (by
     simp only [gpS]
     rw [if_neg hlt])
    go_enter Tryz.func158,Tryz.ntmps158
    go_wp2_with fail
    go_region
    go_wp2_with fail
    go_region
    go_wp2_with fail
    refine bodyPost_ret (v:=.tuple #[.agg #[.int .i64 (t.d+max 1 mt),.int .i64 730499],.bool (decide ((t.d+max 1 mt) ≤ 730499))]) (by simp [results,Tryz.results158,go_sem, *]) rfl ?_
    refine ⟨_,_,_,rfl,exts,?_,?_⟩
    all_goals
     rw [HF.out,HE.out]
     intro hq
     first | exact ⟨rfl,rfl,of_decide_eq_true hq⟩ | exact of_decide_eq_false hq
theorem gpA_of {D:Vc} {l:List Wy} {j:Nat} {O:List Sp} {a b:Int} (ha:a=(gpS D l j).fr) (hb:b=(gpS D l j).to) (h:(gpS D l j).fr ≤ (gpS D l j).to):gpA D l j O=O ++ [⟨a,b⟩]:=by
 subst ha hb
 exact gpA_yes h
set_option maxRecDepth 100000 in
set_option maxHeartbeats 16000000 in
theorem spec_l15Days (v u vs:Value) (L:Lnd) (l:List Wy) (pl:Int) (D:Vc) (w:World) (hp:Strs w 0 w.heap.size v L.pl) (ht:Wys w 0 w.heap.size u L.wy) (hs:Wys w 0 w.heap.size vs l) (hok:LndOk L) (h40:l.length ≤ 40) (hp0:0 ≤ pl) (hp1:pl < L.pl.length)
  (htr:TrOk L.pl.length l D) (hwy:WayOk L.pl.length (frmV L.pl.length L.wy pl.toNat) D) :
  Calls Tryz.prog 102 #[.agg #[v,u],vs,.int .i64 pl] w (NewOwn 111 2 (mkL (cdL D l pl)).length (spanCell (mkL (cdL D l pl))) w):=by
 obtain ⟨As,cs', rfl,hns,hcs⟩:=hs.len
 have Hs:=qh hs
 have Hp:=qh hp
 have Ht:=qh ht
 have Hok:=qh hok
 have Htr:=qh htr
 have Hwy:=qh hwy
 have hn12:L.pl.length ≤ 12:=hok.1.2
 clear hs hp ht hok htr hwy
 go_enter Tryz.func102,Tryz.ntmps102
 go_wp2_with fail
 refine Calls.mono (spec_l14From _ _ L pl _ (Hp.out.up exts) (Ht.out.up exts) Hok.out hp0 hp1) ?_
 rintro e w1 ⟨g,rfl,hx1,hg1,hb1⟩
 have HX1:=qh (show Ext w w1 from exts)
 have Hb1:=qh hb1
 obtain ⟨n,en⟩:∃ n,L.pl.length=n:=⟨_,rfl⟩
 rw [en] at Hb1 Hwy Htr hn12 hp1 ⊢
 obtain ⟨wy,ewy⟩:∃ wy,frmV n L.wy pl.toNat=wy:=⟨_,rfl⟩
 rw [ewy] at Hb1 Hwy
 clear hb1 hx1 en ewy
 have hz01:=HX1.out.size
 go_wp2_with fail
 go_loopg [8,9,10,11] (l.length+1) (fun q u8 u9 u10 u11 wr=>∃ j:Nat,j+q=l.length+1∧u9=.int .i64 j∧Ext w1 wr∧Hid (RowSp wr w1.heap.size 111 u8 (cdTo D l pl j)))
 case atStart=>exact ⟨0,by omega,rfl,(Ext.refl _).alloc _,qh (rowSp0 w1 111)⟩
 case round =>
  obtain ⟨j,hj,rfl,hx,Hr⟩:=hrel
  obtain ⟨A5,c5,rfl⟩:=ownsRow_len Hr.out
  have Hx:=qh hx
  have HXr:=qh (HX1.out.trans hx)
  have hz:=hx.size
  have hO:(cdTo D l pl j).length ≤ 2 * j:=cdTo_len D l pl j
  clear hx
  by_cases hle:j ≤ l.length
  ·have d0:decide ((j:Int) ≤ (l.length:Int))=true:=decide_eq_true (by omega)
   have d0n:decide (j ≤ l.length)=true:=decide_eq_true hle
   go_wp2_with fail
   refine Calls.mono (spec_l15Gap _ l n g wy D j _ (Hs.out.up HXr.out) ⟨Nat.lt_of_lt_of_le Hb1.out.1 Hx.out.size,fun i hi=>⟨(Hx.out.cell (p:=⟨g,i,none⟩) Hb1.out.1).trans (Hb1.out.2 i hi).1,(Hx.out.frozen (p:=⟨g,i,none⟩) Hb1.out.1).trans (Hb1.out.2 i hi).2⟩⟩ hle h40 hn12 Htr.out Hwy.out) ?_
   rintro e w2 ⟨a,b,q,rfl,hx2,hy,hno⟩
   have Hx2:=qh (Hx.out.trans hx2)
   have Hr2:=qh (Hr.out.ext hx2)
   have hz2:=hx2.size
   obtain ⟨O,eO⟩:∃ O,cdTo D l pl j=O:=⟨_,rfl⟩
   have HO:=qh eO
   rw [eO] at Hr2 hO ⊢
   have hO2:O.length ≤ 80:=by omega
   clear eO hx2
   cases q
   ·have HG:Hid (gpA D l j O=O):=qh (gpA_no (hno rfl))
    clear hy hno
    by_cases hlt:j < l.length
    ·obtain ⟨bs,ofs,rfl,_,hbs,s1,s2,s3⟩:=Hs.out.at_ (i:=j) hlt
     have HC:=qh (fun W (hX:Ext w1 W)=>show W.cell? ⟨bs,ofs+j * 3,none⟩=some (.int .i64 (wyAt l j).a)∧W.cell? ⟨bs,ofs+j * 3+1,none⟩=some (.int .i64 (wyAt l j).b)∧W.cell? ⟨bs,ofs+j * 3+2,none⟩=some (.int .i64 (wyAt l j).d)∧bs < W.heap.size from ⟨((HX1.out.trans hX).cell (p:=⟨bs,ofs+j * 3,none⟩) hbs).trans s1,((HX1.out.trans hX).cell (p:=⟨bs,ofs+j * 3+1,none⟩) hbs).trans s2,((HX1.out.trans hX).cell (p:=⟨bs,ofs+j * 3+2,none⟩) hbs).trans s3,Nat.lt_of_lt_of_le hbs (HX1.out.trans hX).size⟩)
     clear s1 s2 s3
     have dl:decide ((j:Int) < (l.length:Int))=true:=decide_eq_true (by omega)
     have dln:decide (j < l.length)=true:=decide_eq_true hlt
     have hji:(j:Int) < (l.length:Int):=by omega
     by_cases he:(wyAt l j).a=pl
     ·have E1:decide ((wyAt l j).a=pl)=true:=decide_eq_true he
      have E2:((wyAt l j).a == pl)=true:=beq_iff_eq.2 he
      have Hcd:Hid (cdTo D l pl (j+1)=O ++ [⟨(wyAt l j).b,(wyAt l j).d⟩]):=qh (by rw [cdTo_at hlt he,HO.out,HG.out])
      clear he
      obtain ⟨z1,z2,z3,z4⟩:=HC.out w2 Hx2.out
      go_wp2_with fail
      obtain ⟨w5,hw5⟩:∃ x,x=(w2.alloc (.cells #[.int .i64 a,.int .i64 b] 111)):=⟨_,rfl⟩
      have Hx5:=qh (show Ext w1 w5 from by rw [hw5];exact Hx2.out.alloc _)
      have Hr5:=qh (show RowSp w5 w1.heap.size 111 (.slice A5 O.length c5) O from by rw [hw5];exact Hr2.out.ext ((Ext.refl _).alloc _))
      rw [← hw5]
      clear z1 z2 z3 z4 hw5
      obtain ⟨z1,z2,z3,z4⟩:=HC.out w5 Hx5.out
      have Hsr2:Hid (∀ W,Row (World.alloc W (.cells #[.int .i64 (wyAt l j).b,.int .i64 (wyAt l j).d] 111)) 0 (World.alloc W (.cells #[.int .i64 (wyAt l j).b,.int .i64 (wyAt l j).d] 111)).heap.size 2 (.slice (some ⟨W.heap.size,0,none⟩) 1 1) 1 (spanCell [⟨(wyAt l j).b,(wyAt l j).d⟩])):=qh (fun W=>(Boxed.new W [.int .i64 (wyAt l j).b,.int .i64 (wyAt l j).d] 111).row rfl (span_cells _ _))
      go_region_law (refine step_append_row rfl (.tmp 47) (.tmp 59) 40 rfl w1.heap.size 111 2 16 Tryz.underlying40 (by kernel_rfl) (by omega) _ O.length 1 _ rfl (.inl (row_ext Hr5.out exts)) (.inr (by omega)) 0 _ _ (spanCell [⟨(wyAt l j).b,(wyAt l j).d⟩]) rfl (Hsr2.out _) (fun i _=>spanCell_one _ i) (by unfold maxLen;omega) (by omega) (by have:=Hx5.out.size;simp;omega) ?_;intro v6 w6 hown6 hput6;have Hr6:=qh (RowSp.push hown6);have Hx6:=qh (hput6.ext (show Ext w1 _ from Hx5.out.trans exts) (Nat.le_refl _));clear hown6 hput6)
      all_goals
       go_wp2_with fail
       go_roundg (l.length+1 - (j+1))
       case measure=>omega
       case rel=>exact ⟨j+1,by omega,by go_num,Hx6.out,qh (by rw [Hcd.out];exact Hr6.out)⟩
     ·have E1:decide ((wyAt l j).a=pl)=false:=decide_eq_false he
      have E2:((wyAt l j).a == pl)=false:=beq_eq_false_iff_ne.2 he
      have Hcd:Hid (cdTo D l pl (j+1)=O):=qh (by rw [cdTo_off (fun hh=>he hh.2),HO.out,HG.out])
      clear he
      obtain ⟨z1,z2,z3,z4⟩:=HC.out w2 Hx2.out
      go_wp2_with fail
      go_roundg (l.length+1 - (j+1))
      case measure=>omega
      case rel=>exact ⟨j+1,by omega,by go_num,Hx2.out.trans exts,qh (by rw [Hcd.out];exact Hr2.out.ext exts)⟩
    ·have dl:decide ((j:Int) < (l.length:Int))=false:=decide_eq_false (by omega)
     have dln:decide (j < l.length)=false:=decide_eq_false hlt
     have Hcd:Hid (cdTo D l pl (j+1)=O):=qh (by rw [cdTo_off (fun hh=>hlt hh.1),HO.out,HG.out])
     go_wp2_with fail
     go_roundg (l.length+1 - (j+1))
     case measure=>omega
     case rel=>exact ⟨j+1,by omega,by go_num,Hx2.out.trans exts,qh (by rw [Hcd.out];exact Hr2.out.ext exts)⟩
   ·have HG:Hid (gpA D l j O=O ++ [⟨a,b⟩]):=qh (gpA_of (hy rfl).1 (hy rfl).2.1 (hy rfl).2.2)
    clear hy hno
    have Hsrc:Hid (Row ((w2.alloc (.cells #[.int .i64 a,.int .i64 b] 111)).alloc (.cells #[.int .i64 a,.int .i64 b] 111)) 0 (w2.heap.size+1+1) 2 (.slice (some ⟨w2.heap.size+1,0,none⟩) 1 1) 1 (spanCell [⟨a,b⟩])):=qh (by
     have h:=(Boxed.new (w2.alloc (.cells #[.int .i64 a,.int .i64 b] 111)) [.int .i64 a,.int .i64 b] 111).row rfl (span_cells _ _)
     simp only [World.size_alloc] at h
     exact h)
    by_cases hlt:j < l.length
    ·obtain ⟨bs,ofs,rfl,_,hbs,s1,s2,s3⟩:=Hs.out.at_ (i:=j) hlt
     have HC:=qh (fun W (hX:Ext w1 W)=>show W.cell? ⟨bs,ofs+j * 3,none⟩=some (.int .i64 (wyAt l j).a)∧W.cell? ⟨bs,ofs+j * 3+1,none⟩=some (.int .i64 (wyAt l j).b)∧W.cell? ⟨bs,ofs+j * 3+2,none⟩=some (.int .i64 (wyAt l j).d)∧bs < W.heap.size from ⟨((HX1.out.trans hX).cell (p:=⟨bs,ofs+j * 3,none⟩) hbs).trans s1,((HX1.out.trans hX).cell (p:=⟨bs,ofs+j * 3+1,none⟩) hbs).trans s2,((HX1.out.trans hX).cell (p:=⟨bs,ofs+j * 3+2,none⟩) hbs).trans s3,Nat.lt_of_lt_of_le hbs (HX1.out.trans hX).size⟩)
     clear s1 s2 s3
     have dl:decide ((j:Int) < (l.length:Int))=true:=decide_eq_true (by omega)
     have dln:decide (j < l.length)=true:=decide_eq_true hlt
     have hji:(j:Int) < (l.length:Int):=by omega
     by_cases he:(wyAt l j).a=pl
     ·have E1:decide ((wyAt l j).a=pl)=true:=decide_eq_true he
      have E2:((wyAt l j).a == pl)=true:=beq_iff_eq.2 he
      have Hcd:Hid (cdTo D l pl (j+1)=O ++ [⟨a,b⟩] ++ [⟨(wyAt l j).b,(wyAt l j).d⟩]):=qh (by rw [cdTo_at hlt he,HO.out,HG.out])
      clear he
      go_wp2_with (at_builtin;refine wpList_append_row _ rfl _ _ 40 rfl w1.heap.size 111 2 16 Tryz.underlying40 (by kernel_rfl) (by omega) _ O.length 1 _ rfl (.inl (row_ext Hr2.out exts)) (.inr (by omega)) 0 _ _ (spanCell [⟨a,b⟩]) rfl Hsrc.out (fun i _=>spanCell_one _ i) (by unfold maxLen;omega) (by omega) (by simp;omega) ?_;intro v5 w5 hown5 hput5;have Hr5:=qh (RowSp.push hown5);have Hx5:=qh (hput5.ext (show Ext w1 _ from Hx2.out.trans exts) (Nat.le_refl _));obtain ⟨A6,c6,rfl⟩:=ownsRow_len hown5;clear hown5 hput5;obtain ⟨z1,z2,z3,z4⟩:=HC.out w5 Hx5.out)
      have hl5:(O ++ [(⟨a,b⟩:Sp)]).length=O.length+1:=by simp
      have Hsr2:Hid (∀ W,Row (World.alloc W (.cells #[.int .i64 (wyAt l j).b,.int .i64 (wyAt l j).d] 111)) 0 (World.alloc W (.cells #[.int .i64 (wyAt l j).b,.int .i64 (wyAt l j).d] 111)).heap.size 2 (.slice (some ⟨W.heap.size,0,none⟩) 1 1) 1 (spanCell [⟨(wyAt l j).b,(wyAt l j).d⟩])):=qh (fun W=>(Boxed.new W [.int .i64 (wyAt l j).b,.int .i64 (wyAt l j).d] 111).row rfl (span_cells _ _))
      go_region_law (refine step_append_row rfl (.tmp 47) (.tmp 59) 40 rfl w1.heap.size 111 2 16 Tryz.underlying40 (by kernel_rfl) (by omega) _ (O ++ [(⟨a,b⟩:Sp)]).length 1 _ rfl (.inl (row_ext Hr5.out exts)) (.inr (by omega)) 0 _ _ (spanCell [⟨(wyAt l j).b,(wyAt l j).d⟩]) rfl (Hsr2.out _) (fun i _=>spanCell_one _ i) (by unfold maxLen;omega) (by omega) (by have:=Hx5.out.size;simp;omega) ?_;intro v6 w6 hown6 hput6;have Hr6:=qh (RowSp.push hown6);have Hx6:=qh (hput6.ext (show Ext w1 _ from Hx5.out.trans exts) (Nat.le_refl _));clear hown6 hput6)
      all_goals
       go_wp2_with fail
       go_roundg (l.length+1 - (j+1))
       case measure=>omega
       case rel=>exact ⟨j+1,by omega,by go_num,Hx6.out,qh (by rw [Hcd.out];exact Hr6.out)⟩
     ·have E1:decide ((wyAt l j).a=pl)=false:=decide_eq_false he
      have E2:((wyAt l j).a == pl)=false:=beq_eq_false_iff_ne.2 he
      have Hcd:Hid (cdTo D l pl (j+1)=O ++ [⟨a,b⟩]):=qh (by rw [cdTo_off (fun hh=>he hh.2),HO.out,HG.out])
      clear he
      go_wp2_with (at_builtin;refine wpList_append_row _ rfl _ _ 40 rfl w1.heap.size 111 2 16 Tryz.underlying40 (by kernel_rfl) (by omega) _ O.length 1 _ rfl (.inl (row_ext Hr2.out exts)) (.inr (by omega)) 0 _ _ (spanCell [⟨a,b⟩]) rfl Hsrc.out (fun i _=>spanCell_one _ i) (by unfold maxLen;omega) (by omega) (by simp;omega) ?_;intro v5 w5 hown5 hput5;have Hr5:=qh (RowSp.push hown5);have Hx5:=qh (hput5.ext (show Ext w1 _ from Hx2.out.trans exts) (Nat.le_refl _));obtain ⟨A6,c6,rfl⟩:=ownsRow_len hown5;clear hown5 hput5;obtain ⟨z1,z2,z3,z4⟩:=HC.out w5 Hx5.out)
      go_roundg (l.length+1 - (j+1))
      case measure=>omega
      case rel=>exact ⟨j+1,by omega,by go_num,Hx5.out,qh (by rw [Hcd.out];exact Hr5.out)⟩
    ·have dl:decide ((j:Int) < (l.length:Int))=false:=decide_eq_false (by omega)
     have dln:decide (j < l.length)=false:=decide_eq_false hlt
     have Hcd:Hid (cdTo D l pl (j+1)=O ++ [⟨a,b⟩]):=qh (by rw [cdTo_off (fun hh=>hlt hh.1),HO.out,HG.out])
     go_wp2_with (at_builtin;refine wpList_append_row _ rfl _ _ 40 rfl w1.heap.size 111 2 16 Tryz.underlying40 (by kernel_rfl) (by omega) _ O.length 1 _ rfl (.inl (row_ext Hr2.out exts)) (.inr (by omega)) 0 _ _ (spanCell [⟨a,b⟩]) rfl Hsrc.out (fun i _=>spanCell_one _ i) (by unfold maxLen;omega) (by omega) (by simp;omega) ?_;intro v5 w5 hown5 hput5;have Hr5:=qh (RowSp.push hown5);have Hx5:=qh (hput5.ext (show Ext w1 _ from Hx2.out.trans exts) (Nat.le_refl _));obtain ⟨A6,c6,rfl⟩:=ownsRow_len hown5;clear hown5 hput5)
     go_roundg (l.length+1 - (j+1))
     case measure=>omega
     case rel=>exact ⟨j+1,by omega,by go_num,Hx5.out,qh (by rw [Hcd.out];exact Hr5.out)⟩
  ·have d0:decide ((j:Int) ≤ (l.length:Int))=false:=decide_eq_false (by omega)
   have d0n:decide (j ≤ l.length)=false:=decide_eq_false hle
   obtain rfl:j=l.length+1:=by omega
   have Hbig:=qh (cdL_ok Htr.out pl h40)
   have Hbd:=qh (spOk_bd Hbig.out.2)
   go_wp2_with fail
   refine Calls.mono (spec_l02Make _ (cdL D l pl) _ (RowSp.read Hr.out) (by have:=Hbig.out.1;omega) (fun i hi=>Hbd.out.1 i hi)) ?_
   rintro e w3 ⟨u3,rfl,hx3,ho3⟩
   obtain ⟨A7,c7,rfl⟩:=ownsRow_len ho3
   have Ho3:=qh ho3
   clear ho3
   go_wp2_with fail
   go_ret
   exact ⟨_,rfl,HXr.out.trans hx3,ownsRow_mono Ho3.out HXr.out.size⟩
end Go.Proofs.YtechbeegbhlppaaGreatDoor
