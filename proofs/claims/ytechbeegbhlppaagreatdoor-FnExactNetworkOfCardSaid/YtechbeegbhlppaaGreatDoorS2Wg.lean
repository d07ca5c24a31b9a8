/- Contract: the days on which somebody could be at a place, the program's. -/
import Derived.Test.YtechbeegbhlppaaGreatDoorS2Qi
namespace Go.Proofs.YtechbeegbhlppaaGreatDoor
set_option linter.unusedVariables false
set_option linter.unusedSimpArgs false
open Go.RowKit
attribute [local go_sem] cell_onto
theorem addO_gp {D:Vc} {l:List Wy} {j:Nat} {O:List Sp} {a b:Int} (ha:a=(gpS D l j).fr) (hb:b=(gpS D l j).to):addO a b O=gpA D l j O:=by
 subst ha hb
 rfl
set_option maxRecDepth 100000 in
set_option maxHeartbeats 16000000 in
theorem impl_couldBeDays (vs:Value) (l:List Wy) (pl:Int) (n b off c lo:Nat) (gs os cs:Nat → Nat) (M:Mat) (w:World) (hM:MatC w lo b off n c gs os cs M) (hn:n ≤ 12) (hs:Wys w 0 w.heap.size vs l) (h40:l.length ≤ 40) (hp0:0 ≤ pl) (hp1:pl < n) (htr:TrOk n l (fun a=>M a pl.toNat)) :
  Calls Tryz.prog 118 #[.slice (some ⟨b,off,none⟩) n c,vs,.int .i64 pl] w (NewOwn 111 2 (mkL (cdL (fun a=>M a pl.toNat) l pl)).length (spanCell (mkL (cdL (fun a=>M a pl.toNat) l pl))) w):=by
 obtain ⟨As,cs', rfl,hns,hcs⟩:=hs.len
 have Hs:=qh hs
 have HM:=qh hM
 have hnc:=hM.nc
 obtain ⟨D,hD⟩:∃ D:Vc,D=fun a=>M a pl.toNat:=⟨_,rfl⟩
 have HDa:=qh (show ∀ a,M a pl.toNat=D a from fun a=>by rw [hD])
 rw [← hD] at htr ⊢
 have Htr:=qh htr
 have hpn:pl.toNat < n:=by omega
 clear hs hM htr hD
 go_enter Tryz.func118,Tryz.ntmps118
 go_wp2_with fail
 go_loopg [9,10,11,12,13,20] l.length (fun q u9 u10 u11 u12 u13 u20 wr=>∃ (j:Nat) (x:Int) (u:Value),j+q=l.length∧u20=.int .i64 j∧u9=.int .i64 x∧(j=0 → x=0)∧Hid (AddSt 111 w (w.heap.size+1) (cdTo D l pl j) u wr))
 case atStart =>
  refine ⟨0,0,.slice (some ⟨w.heap.size,0,none⟩) 0 0,by omega,rfl,rfl,fun _=>rfl,qh ⟨by omega,?_,exts,?_,?_⟩⟩
  ·have h:=Boxed.new (w.alloc (.cells #[] 111)) [.slice (some ⟨w.heap.size,0,none⟩) 0 0] 40
   rw [World.size_alloc] at h
   exact h
  ·exact (rowSp0 w 111).ext ((Ext.refl _).alloc _)
  ·intro hh
   have hh:some w.heap.size=some (w.heap.size+1):=hh
   injection hh with hh
   omega
 case round =>
  obtain ⟨j,x,u,hj,rfl,rfl,hx0,Hst⟩:=hrel
  have hxr:=Hst.out.ex
  have hO:(cdTo D l pl j).length ≤ 2 * j:=cdTo_len D l pl j
  by_cases hlt:j < l.length
  ·have hji:(j:Int) < (l.length:Int):=by omega
   obtain ⟨bs,ofs,rfl,_,hbs,h1,h2,h3⟩:=(Hs.out.ext hxr (Nat.le_refl _)).at_ hlt
   have hbr:bs < wr.heap.size:=Nat.lt_of_lt_of_le hbs hxr.size
   have HST:=qh (Htr.out.st j hlt)
   obtain ⟨⟨sa0,sa1⟩,⟨sb0,sb1⟩,⟨sd0,sd1⟩,sbd⟩:=HST.out
   obtain ⟨s,hs⟩:∃ s,wyAt l j=s:=⟨_,rfl⟩
   have HS:=qh hs
   rw [hs] at h1 h2 h3 sa0 sa1 sb0 sb1 sd0 sd1 sbd
   clear hs
   have sa2:s.a < (n:Int):=by omega
   have ys:s.a.toNat < n:=by omega
   have HM1:=qh (HM.out.ext hxr)
   have cS:=HM1.out.cell s.a.toNat ys
   have mS:=HM1.out.at_ s.a.toNat pl.toNat ys hpn
   rw [HDa.out] at mS
   have hbm:=HM1.out.bw
   have hgm:=HM1.out.gw s.a.toNat ys
   have kcm:=HM1.out.cap s.a.toNat ys
   obtain ⟨d0,d1⟩:=Htr.out.nn s.a.toNat ys
   obtain ⟨ds,hds⟩:∃ ds,D s.a.toNat=ds:=⟨_,rfl⟩
   have HDS:=qh hds
   rw [hds] at mS d0 d1
   clear hds
   by_cases h0:j=0
   ·have dj:decide ((0:Int) < (j:Int))=false:=decide_eq_false (by omega)
    have djn:decide (0 < j)=false:=decide_eq_false (by omega)
    obtain rfl:=hx0 h0
    have Hj0:=qh h0
    clear h0 hx0
    go_wp2_with fail
    refine Calls.mono (impl_couldBe_add _ _ (w.heap.size+1) (cdTo D l pl j) w u _ (Hst.out.ext exts) (by omega)) ?_
    rintro e w2 ⟨rfl,hoff,u2,hst2⟩
    have Hbt:=qh (((Boxed.new wr [.int .i64 s.a,.int .i64 s.b,.int .i64 s.d] 162).ext exts).off hoff (fun hh=>by
     rcases hh with hh | hh
     ·have:=Hst.out.bx.1;omega
     ·have:=(Hst.out.row.lt _ hh).2;omega))
    rw [addO_gp (D:=D) (l:=l) (j:=j) (by simp only [gpS];rw [if_pos Hj0.out]) (by simp only [gpS];rw [if_pos hlt,HS.out,HDS.out])] at hst2
    have Hst2:=qh hst2
    have hx2:=hst2.ex.size
    have bt0:=Hbt.out.at0
    have bt1:=Hbt.out.at1
    have bt2:=Hbt.out.at2
    have btg:=Hbt.out.1
    have hlen2:=gpA_len D l j (cdTo D l pl j)
    clear hst2 hoff h1 h2 h3 cS mS
    try clear k1 k2 k3 cT mT
    by_cases he:s.a=pl
    ·have E1:decide (s.a=pl)=true:=decide_eq_true he
     have E2:(s.a == pl)=true:=beq_iff_eq.2 he
     have Hcd:Hid (cdTo D l pl (j+1)=gpA D l j (cdTo D l pl j) ++ [⟨s.b,s.d⟩]):=qh (by rw [cdTo_at hlt (by rw [HS.out];exact he),HS.out])
     clear he
     go_wp2_with fail
     refine Calls.mono (impl_couldBe_add _ _ (w.heap.size+1) (gpA D l j (cdTo D l pl j)) w u2 _ (Hst2.out.ext exts) (by omega)) ?_
     rintro e w3 ⟨rfl,hoff,u3,hst3⟩
     rw [show addO s.b s.d (gpA D l j (cdTo D l pl j))=gpA D l j (cdTo D l pl j) ++ [⟨s.b,s.d⟩] from if_pos sbd,← Hcd.out] at hst3
     have Hst3:=qh hst3
     clear hst3 hoff bt0 bt1 bt2
     go_wp2_with fail
     go_roundg (l.length - (j+1))
     case measure=>omega
     case rel=>exact ⟨j+1,_,u3,by omega,by go_num,rfl,fun h=>absurd h (by omega),Hst3⟩
    ·have E1:decide (s.a=pl)=false:=decide_eq_false he
     have E2:(s.a == pl)=false:=beq_eq_false_iff_ne.2 he
     have Hcd:Hid (cdTo D l pl (j+1)=gpA D l j (cdTo D l pl j)):=qh (by rw [cdTo_off (fun hh=>he (by have:=hh.2;rwa [HS.out] at this))])
     clear he
     go_wp2_with fail
     go_roundg (l.length - (j+1))
     case measure=>omega
     case rel=>exact ⟨j+1,_,u2,by omega,by go_num,rfl,fun h=>absurd h (by omega),qh (by rw [Hcd.out];exact Hst2.out.ext exts)⟩
   ·have dj:decide ((0:Int) < (j:Int))=true:=decide_eq_true (by omega)
    have djn:decide (0 < j)=true:=decide_eq_true (by omega)
    have Hj0:=qh h0
    have hj0:0 < j:=by omega
    clear h0 hx0
    obtain ⟨bs', ofs', e,_,_,k1,k2,k3⟩:=(Hs.out.ext hxr (Nat.le_refl _)).at_ (i:=j - 1) (by omega)
    injection e with e
    injection e with e1 e2
    subst e1 e2
    have hq0:(0:Int) ≤ (j:Int) - 1:=by omega
    have hq1:(j:Int) - 1 < (l.length:Int):=by omega
    have hq2:((j:Int) - 1).toNat=j - 1:=by omega
    have HTT:=qh (Htr.out.st (j - 1) (by omega))
    obtain ⟨⟨ta0,ta1⟩,⟨tb0,tb1⟩,⟨td0,td1⟩,tbd⟩:=HTT.out
    obtain ⟨t,ht⟩:∃ t,wyAt l (j - 1)=t:=⟨_,rfl⟩
    have HT:=qh ht
    rw [ht] at k1 k2 k3 ta0 ta1 tb0 tb1 td0 td1 tbd
    clear ht
    have ta2:t.a < (n:Int):=by omega
    have yt:t.a.toNat < n:=by omega
    have cT:=HM1.out.cell t.a.toNat yt
    have mT:=HM1.out.at_ t.a.toNat pl.toNat yt hpn
    rw [HDa.out] at mT
    have hgt:=HM1.out.gw t.a.toNat yt
    have kct:=HM1.out.cap t.a.toNat yt
    obtain ⟨f0,f1⟩:=Htr.out.nn t.a.toNat yt
    obtain ⟨dt,hdt⟩:∃ dt,D t.a.toNat=dt:=⟨_,rfl⟩
    have HDT:=qh hdt
    rw [hdt] at mT f0 f1
    clear hdt
    have hz1:wr.heap.size < wr.heap.size+1:=by omega
    have hbs1:bs < wr.heap.size+1:=by omega
    have hb1:b < wr.heap.size+1:=by omega
    have hb2:b < wr.heap.size+1+1:=by omega
    have hgt1:gs t.a.toNat < wr.heap.size+1:=by omega
    have hgt2:gs t.a.toNat < wr.heap.size+1+1:=by omega
    go_wp2_with fail
    go_region
    go_wp2_with fail
    refine Calls.mono (impl_couldBe_add _ _ (w.heap.size+1) (cdTo D l pl j) w u _ (Hst.out.ext exts) (by omega)) ?_
    rintro e w2 ⟨rfl,hoff,u2,hst2⟩
    have Hbt:=qh (((Boxed.new wr [.int .i64 s.a,.int .i64 s.b,.int .i64 s.d] 162).ext exts).off hoff (fun hh=>by
     rcases hh with hh | hh
     ·have:=Hst.out.bx.1;omega
     ·have:=(Hst.out.row.lt _ hh).2;omega))
    rw [addO_gp (D:=D) (l:=l) (j:=j) (by
      simp only [gpS]
      rw [if_neg Hj0.out,HT.out,HDT.out]
      try (first | omega | (split <;> omega))) (by simp only [gpS];rw [if_pos hlt,HS.out,HDS.out])] at hst2
    have Hst2:=qh hst2
    have hx2:=hst2.ex.size
    have bt0:=Hbt.out.at0
    have bt1:=Hbt.out.at1
    have bt2:=Hbt.out.at2
    have btg:=Hbt.out.1
    have hlen2:=gpA_len D l j (cdTo D l pl j)
    clear hst2 hoff h1 h2 h3 cS mS
    try clear k1 k2 k3 cT mT
    by_cases he:s.a=pl
    ·have E1:decide (s.a=pl)=true:=decide_eq_true he
     have E2:(s.a == pl)=true:=beq_iff_eq.2 he
     have Hcd:Hid (cdTo D l pl (j+1)=gpA D l j (cdTo D l pl j) ++ [⟨s.b,s.d⟩]):=qh (by rw [cdTo_at hlt (by rw [HS.out];exact he),HS.out])
     clear he
     go_wp2_with fail
     refine Calls.mono (impl_couldBe_add _ _ (w.heap.size+1) (gpA D l j (cdTo D l pl j)) w u2 _ (Hst2.out.ext exts) (by omega)) ?_
     rintro e w3 ⟨rfl,hoff,u3,hst3⟩
     rw [show addO s.b s.d (gpA D l j (cdTo D l pl j))=gpA D l j (cdTo D l pl j) ++ [⟨s.b,s.d⟩] from if_pos sbd,← Hcd.out] at hst3
     have Hst3:=qh hst3
     clear hst3 hoff bt0 bt1 bt2
     go_wp2_with fail
     go_roundg (l.length - (j+1))
     case measure=>omega
     case rel=>exact ⟨j+1,_,u3,by omega,by go_num,rfl,fun h=>absurd h (by omega),Hst3⟩
    ·have E1:decide (s.a=pl)=false:=decide_eq_false he
     have E2:(s.a == pl)=false:=beq_eq_false_iff_ne.2 he
     have Hcd:Hid (cdTo D l pl (j+1)=gpA D l j (cdTo D l pl j)):=qh (by rw [cdTo_off (fun hh=>he (by have:=hh.2;rwa [HS.out] at this))])
     clear he
     go_wp2_with fail
     go_roundg (l.length - (j+1))
     case measure=>omega
     case rel=>exact ⟨j+1,_,u2,by omega,by go_num,rfl,fun h=>absurd h (by omega),qh (by rw [Hcd.out];exact Hst2.out.ext exts)⟩
  ·obtain rfl:j=l.length:=by omega
   have HM1:=qh (HM.out.ext hxr)
   have hbm:=HM1.out.bw
   by_cases h0:l.length=0
   ·have dj:decide ((0:Int) < (l.length:Int))=false:=decide_eq_false (by omega)
    have djn:decide (0 < l.length)=false:=decide_eq_false (by omega)
    obtain rfl:=hx0 h0
    have Hj0:=qh h0
    clear h0 hx0 hlt
    go_wp2_with fail
    refine Calls.mono (impl_couldBe_add _ _ (w.heap.size+1) (cdTo D l pl l.length) w u _ (Hst.out.ext exts) (by omega)) ?_
    rintro e w2 ⟨rfl,hoff,u2,hst2⟩
    rw [addO_gp (D:=D) (l:=l) (j:=l.length) (by simp only [gpS];rw [if_pos Hj0.out]) (by simp only [gpS];rw [if_neg (Nat.lt_irrefl _)]),← cdTo_off (p:=pl) (fun hh=>Nat.lt_irrefl _ hh.1)] at hst2
    have Hst2:=qh hst2
    have bt0:=hst2.bx.at0
    have btg:=hst2.bx.1
    obtain ⟨A6,c6,rfl⟩:=ownsRow_len hst2.row
    have HX2:=qh hst2.ex
    have Hbig:=qh (cdL_ok Htr.out pl h40)
    have Hbd:=qh (spOk_bd Hbig.out.2)
    clear hst2 hoff
    try clear k1 k2 k3 cT mT
    go_wp2_with fail
    refine Calls.mono (impl_united _ (cdL D l pl) _ (RowSp.read (Hst2.out.row.ext exts)) (by have:=Hbig.out.1;omega) Hbd.out.1 Hbd.out.2) ?_
    rintro e w3 ⟨u3,rfl,hx3,ho3⟩
    obtain ⟨A7,c7,rfl⟩:=ownsRow_len ho3
    have Ho3:=qh ho3
    clear ho3
    have hzz:=HX2.out.size
    go_wp2_with fail
    go_ret
    exact ⟨_,rfl,HX2.out.trans exts,ownsRow_mono Ho3.out hzz⟩
   ·have dj:decide ((0:Int) < (l.length:Int))=true:=decide_eq_true (by omega)
    have djn:decide (0 < l.length)=true:=decide_eq_true (by omega)
    have Hj0:=qh h0
    have hj0:0 < l.length:=by omega
    clear h0 hx0 hlt
    obtain ⟨bs,ofs,rfl,_,hbs,k1,k2,k3⟩:=(Hs.out.ext hxr (Nat.le_refl _)).at_ (i:=l.length - 1) (by omega)
    have hbr:bs < wr.heap.size:=Nat.lt_of_lt_of_le hbs hxr.size
    have hq0:(0:Int) ≤ (l.length:Int) - 1:=by omega
    have hq1:(l.length:Int) - 1 < (l.length:Int):=by omega
    have hq2:((l.length:Int) - 1).toNat=l.length - 1:=by omega
    have HTT:=qh (Htr.out.st (l.length - 1) (by omega))
    obtain ⟨⟨ta0,ta1⟩,⟨tb0,tb1⟩,⟨td0,td1⟩,tbd⟩:=HTT.out
    obtain ⟨t,ht⟩:∃ t,wyAt l (l.length - 1)=t:=⟨_,rfl⟩
    have HT:=qh ht
    rw [ht] at k1 k2 k3 ta0 ta1 tb0 tb1 td0 td1 tbd
    clear ht
    have ta2:t.a < (n:Int):=by omega
    have yt:t.a.toNat < n:=by omega
    have cT:=HM1.out.cell t.a.toNat yt
    have mT:=HM1.out.at_ t.a.toNat pl.toNat yt hpn
    rw [HDa.out] at mT
    have hgt:=HM1.out.gw t.a.toNat yt
    have kct:=HM1.out.cap t.a.toNat yt
    obtain ⟨f0,f1⟩:=Htr.out.nn t.a.toNat yt
    obtain ⟨dt,hdt⟩:∃ dt,D t.a.toNat=dt:=⟨_,rfl⟩
    have HDT:=qh hdt
    rw [hdt] at mT f0 f1
    clear hdt
    have hz1:wr.heap.size < wr.heap.size+1:=by omega
    have hbs1:bs < wr.heap.size+1:=by omega
    have hb1:b < wr.heap.size+1:=by omega
    have hb2:b < wr.heap.size+1+1:=by omega
    have hgt1:gs t.a.toNat < wr.heap.size+1:=by omega
    have hgt2:gs t.a.toNat < wr.heap.size+1+1:=by omega
    go_wp2_with fail
    go_region
    go_wp2_with fail
    refine Calls.mono (impl_couldBe_add _ _ (w.heap.size+1) (cdTo D l pl l.length) w u _ (Hst.out.ext exts) (by omega)) ?_
    rintro e w2 ⟨rfl,hoff,u2,hst2⟩
    rw [addO_gp (D:=D) (l:=l) (j:=l.length) (by
      simp only [gpS]
      rw [if_neg Hj0.out,HT.out,HDT.out]
      try (first | omega | (split <;> omega))) (by simp only [gpS];rw [if_neg (Nat.lt_irrefl _)]),← cdTo_off (p:=pl) (fun hh=>Nat.lt_irrefl _ hh.1)] at hst2
    have Hst2:=qh hst2
    have bt0:=hst2.bx.at0
    have btg:=hst2.bx.1
    obtain ⟨A6,c6,rfl⟩:=ownsRow_len hst2.row
    have HX2:=qh hst2.ex
    have Hbig:=qh (cdL_ok Htr.out pl h40)
    have Hbd:=qh (spOk_bd Hbig.out.2)
    clear hst2 hoff
    try clear k1 k2 k3 cT mT
    go_wp2_with fail
    refine Calls.mono (impl_united _ (cdL D l pl) _ (RowSp.read (Hst2.out.row.ext exts)) (by have:=Hbig.out.1;omega) Hbd.out.1 Hbd.out.2) ?_
    rintro e w3 ⟨u3,rfl,hx3,ho3⟩
    obtain ⟨A7,c7,rfl⟩:=ownsRow_len ho3
    have Ho3:=qh ho3
    clear ho3
    have hzz:=HX2.out.size
    go_wp2_with fail
    go_ret
    exact ⟨_,rfl,HX2.out.trans exts,ownsRow_mono Ho3.out hzz⟩
end Go.Proofs.YtechbeegbhlppaaGreatDoor
