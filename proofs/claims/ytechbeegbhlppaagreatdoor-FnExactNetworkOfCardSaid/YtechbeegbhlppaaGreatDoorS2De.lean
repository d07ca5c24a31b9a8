/- Texts merged (a claim holds at most sixty files): De, Kh, Kj, Kl. -/
import Derived.Test.YtechbeegbhlppaaGreatDoorS2T
import Derived.Test.YtechbeegbhlppaaGreatDoorS2Bd
import Derived.Deep.RegionHeld3
import Derived.Laws.IdiomCopy
import Derived.Lib.SliceRun
import Derived.Test.YtechbeegbhlppaaGreatDoorS2Qd
import Derived.Test.YtechbeegbhlppaaGreatDoorS2R
import Derived.Test.YtechbeegbhlppaaGreatDoorS2Ri
import Derived.Deep.RegionLaw
import Derived.Deep.Cut
namespace Go.Proofs.YtechbeegbhlppaaGreatDoor
set_option linter.unusedVariables false
set_option linter.unusedSimpArgs false
open Go.RowKit
attribute [local go_sem] cell_onto
theorem Off.setCells {S:Nat → Prop} {a:World} {g:Nat} (hg:S g):∀ (vs:List Value) (o:Nat) (w:World),Off S a w → Off S a (w.setCells g o vs)
 | [],_,_,h=>h
 | v :: r,o,w,h=>Off.setCells hg r (o+1) _ (h.setCell (p:=⟨g,o,none⟩) (.inl hg) v)
def NewMat (n:Nat) (M:Mat) (w:World) (e:Ending) (w' : World):Prop:=∃ b off c gs os cs,e=.returned (.slice (some ⟨b,off,none⟩) n c)∧Ext w w' ∧ MatC w' w.heap.size b off n c gs os cs M
theorem farM_at (i j:Nat):farM i j=if j=i then 0 else 1000000:=by
 unfold farM
 by_cases e:i=j
 ·rw [if_pos e,if_pos e.symm]
 ·rw [if_neg e,if_neg (fun h=>e h.symm)]
theorem rep_at (n i:Nat) (x:Int) (h:i < n):inAt (List.replicate n x) i=x:=by
 unfold inAt
 rw [List.getD_eq_getElem?_getD,List.getElem?_replicate,if_pos h]
 rfl
set_option maxRecDepth 100000 in
set_option maxHeartbeats 16000000 in
theorem impl_waysOf (v u:Value) (L:Lnd) (w:World) (hp:Strs w 0 w.heap.size v L.pl) (ht:Wys w 0 w.heap.size u L.wy) (hok:LndOk L):Calls Tryz.prog 175 #[.agg #[v,u]] w (NewMat L.pl.length (wayTo L.wy L.wy.length) w):=by
 obtain ⟨Ap,cp,rfl,hnp,hcp⟩:=hp.len
 obtain ⟨At,ct,rfl,hnt,hct⟩:=ht.len
 have Ht:=qh ht
 obtain ⟨⟨hn1,hn12⟩,hw40,_,hwy⟩:=hok
 have Hwy:=qh hwy
 clear hp ht hwy
 obtain ⟨n,hn⟩:∃ n,L.pl.length=n:=⟨_,rfl⟩
 rw [hn] at hn1 hn12 hcp hnp ⊢
 rw [hn] at Hwy
 clear hn
 have Hb:=qh (Boxed.new w [.slice Ap n cp,.slice At L.wy.length ct] 52)
 have Hrow0:Hid (MatG ((w.alloc (.cells #[.slice Ap n cp,.slice At L.wy.length ct] 52)).alloc (.cells #[] 67)) 67 (w.heap.size+1) (.slice (some ⟨w.heap.size+1,0,none⟩) 0 0) n 0 (fun _=>0) (fun _=>0) (fun _=>0) farM):=qh (by
  have h1:=World.ownsRow_made (base:=w.heap.size+1) (e:=67) (size:=1) (w.alloc (.cells #[.slice Ap n cp,.slice At L.wy.length ct] 52)) #[] 0 (by rw [World.size_alloc];exact Nat.le_refl _) (Nat.zero_le _) rfl
  rw [World.size_alloc] at h1
  exact MatG.start h1)
 go_enter Tryz.func175,Tryz.ntmps175
 go_wp2_with fail
 go_loopg [3,4,5,12] n (fun q u3 u4 u5 i wr=>∃ (j:Nat) (gs os cs:Nat → Nat),j+q=n∧i=.int .i64 j∧Ext (w.alloc (.cells #[.slice Ap n cp,.slice At L.wy.length ct] 52)) wr∧Hid (MatG wr 67 (w.heap.size+1) u3 n j gs os cs farM))
 case atStart=>exact ⟨0,_,_,_,by omega,rfl,exts,Hrow0⟩
 clear Hrow0
 case round =>
  obtain ⟨j,gs,os,cs,hj,rfl,hx0,HG⟩:=hrel
  have hx:Ext w wr:=exts
  have bx:=Hb.out.ext hx0;have bx0:=bx.at0;have bx1:=bx.at1;have bxg:=bx.1;have Hbx:=qh bx;clear bx
  have hj0:(0:Int) ≤ (j:Int):=by omega
  obtain ⟨A3,c3,rfl⟩:=ownsRow_len HG.out.row
  by_cases hlt:j < n
  ·have hji:(j:Int) < (n:Int):=by omega
   have hz:=hx.size
   have Hsrc:Hid (Ints (wr.alloc (.cells #[.int .i64 1000000] 2)) 0 (wr.alloc (.cells #[.int .i64 1000000] 2)).heap.size (.slice (some ⟨wr.heap.size,0,none⟩) 1 1) [1000000]):=qh (
    (Boxed.new wr [.int .i64 1000000] 2).row (sz:=1) (f:=intCell [1000000]) rfl (fun i hi=>by
     obtain rfl:i=0:=by omega
     rfl))
   go_wp2_with fail
   refine Calls.mono (slices_Repeat _ 1000000 n hn12 (by omega) _ Hsrc.out) ?_
   rintro e w1 ⟨v1,g,rfl,hx1,hg,ho⟩
   obtain ⟨A1,c1,rfl⟩:=ho.len
   have hc1:n ≤ c1:=by
    obtain ⟨_,A', c', e,h2,_⟩:=ho
    injection e with _ _ e
    omega
   obtain ⟨off,rfl,hgw,hc⟩:=ho.at_ (by omega)
   have ca:=(hc j (by omega)).1
   have cf:=(hc j (by omega)).2
   have hgz:=hg (by omega)
   have hgr:wr.heap.size < g:=by simp at hgz;omega
   have hxr1:Ext wr w1:=exts
   have Hc:=qh hc
   clear hc ho hg hgz hx1 bx0 bx1 bxg
   have hxs:Ext wr (w1.setCell ⟨g,off+j,none⟩ (.int .i64 0)):=hxr1.setCell (by show wr.heap.size ≤ g;omega) _
   have HG1:=qh (HG.out.ext hxs)
   have hgs:g < (w1.setCell ⟨g,off+j,none⟩ (.int .i64 0)).heap.size:=by simpa [World.setCell] using hgw
   have Hat:=qh (show ∀ k,k < n → (w1.setCell ⟨g,off+j,none⟩ (.int .i64 0)).cell? ⟨g,off+k,none⟩=some (.int .i64 (farM j k))∧(w1.setCell ⟨g,off+j,none⟩ (.int .i64 0)).frozen? ⟨g,off+k,none⟩=false from fun k hk=>by
    obtain ⟨k1,k2⟩:=Hc.out k (by omega)
    refine ⟨?_,(World.frozen?_setCell w1 _ _ _).trans k2⟩
    rw [farM_at]
    by_cases e:k=j
    ·subst e
     rw [if_pos rfl]
     exact World.cell?_setCell_same w1 ⟨g,off+k,none⟩ _ k1
    ·rw [if_neg e]
     refine (World.cell?_setCell_other w1 ⟨g,off+j,none⟩ ⟨g,off+k,none⟩ _ (fun hh=>e (by injection hh with _ h2;omega))).trans ?_
     rw [k1]
     unfold intCell
     rw [rep_at n k _ hk])
   have Hxs:=qh hxs
   have hgA:∀ x,(Value.slice A3 j c3).ownBlock=some x → x < wr.heap.size:=fun x hx=>(HG.out.row.lt x hx).2
   have HgA:=qh hgA
   have Hgd:=qh (fun i (hi:i < j)=>show gs i ≠ g from by have:=HG.out.gw i hi;omega)
   clear hgA HG hxs
   have hgs' := hgs
   go_upto_region 7 with fail
   generalize (w1.setCell ⟨g,off+j,none⟩ (.int .i64 0))=w2 at *
   have HsrcA:Hid (∀ W,Row (World.alloc W (.cells #[.slice (some ⟨g,off,none⟩) n c1] 67)) 0 (World.alloc W (.cells #[.slice (some ⟨g,off,none⟩) n c1] 67)).heap.size 1 (.slice (some ⟨W.heap.size,0,none⟩) 1 1) 1 (fun _=>.slice (some ⟨g,off,none⟩) n c1)):=qh (fun W=>(Boxed.new W [.slice (some ⟨g,off,none⟩) n c1] 67).row rfl (fun i hi=>by
    obtain rfl:i=0:=by omega
    rfl))
   have hxw2:Ext (w.alloc (.cells #[.slice Ap n cp,.slice At L.wy.length ct] 52)) w2:=hx0.trans Hxs.out
   have hz2:=hxw2.size
   rw [World.size_alloc] at hz2
   have hz3:=Hxs.out.size
   go_wp2_with (at_builtin;refine wpList_append_row _ rfl _ _ 174 rfl (w.heap.size+1) 67 1 24 Tryz.underlying174 (by kernel_rfl) (by omega) _ j 1 _ rfl (.inl (HG1.out.ext exts).row) (.inr (by omega)) 0 _ _ (fun _=>.slice (some ⟨g,off,none⟩) n c1) rfl (HsrcA.out _) (fun _ _=>rfl) (by unfold maxLen;omega) (by omega) (by simp;omega) ?_;intro v5 w5 hown5 hput5;have HG5:=qh (MatG.push (HG1.out.ext (show Ext w2 _ from exts)) (g:=g) (o:=off) (c0:=c1) (by simp;omega) (by omega) (fun e=>by have:=HgA.out _ e;omega) Hgd.out hc1 (fun k hk=>⟨(Ext.cell (show Ext w2 _ from exts) (p:=⟨g,off+k,none⟩) hgs').trans (Hat.out k hk).1,(Ext.frozen (show Ext w2 _ from exts) (p:=⟨g,off+k,none⟩) hgs').trans (Hat.out k hk).2⟩) hput5 hown5);have Hx5:=qh (hput5.ext (show Ext (w.alloc (.cells #[.slice Ap n cp,.slice At L.wy.length ct] 52)) _ from exts) (by rw [World.size_alloc];exact Nat.le_refl _));clear hown5 hput5)
   go_roundg (n - (j+1))
   case measure=>omega
   case rel=>exact ⟨j+1,_,_,_,by omega,by go_num,Hx5.out,HG5⟩
  ·obtain rfl:j=n:=by omega
   have hji:¬ (j:Int) < (j:Int):=by omega
   obtain ⟨b,off,c,hv,hM⟩:=HG.out.done (by omega)
   injection hv with e1 e2 e3
   subst e1 e3
   have HM:=qh hM
   clear hM HG
   obtain ⟨wz,rfl⟩:∃ x:World,x=wr:=⟨_,rfl⟩
   go_wp2_with fail
   go_loopg [7,31] L.wy.length (fun q u7 i wr=>∃ (m:Nat),m+q=L.wy.length∧i=.int .i64 m∧Ext w wr∧Boxed wr w.heap.size [.slice Ap j cp,.slice At L.wy.length ct]∧Hid (MatC wr (w.heap.size+1) b off j c3 gs os cs (wayTo L.wy m)))
   case atStart=>exact ⟨0,by omega,rfl,exts,Hbx.out,HM⟩
   case round =>
    obtain ⟨m,hm,rfl,hx2,hbb,HM2⟩:=hrel
    have Hbb:=qh hbb
    clear hbb bx0 bx1 bxg
    have bx0:=Hbb.out.at0
    have bx1:=Hbb.out.at1
    have bxg:=Hbb.out.1
    have hm0:(0:Int) ≤ (m:Int):=by omega
    by_cases hlt:m < L.wy.length
    ·obtain ⟨bw,ow,rfl,_,hbw,h1,h2,h3⟩:=(Ht.out.ext hx2 (Nat.le_refl _)).at_ hlt
     have hbr:bw < wr.heap.size:=Nat.lt_of_lt_of_le hbw hx2.size
     have hmi:(m:Int) < (L.wy.length:Int):=by omega
     obtain ⟨⟨a0,a1⟩,⟨b0,b1⟩,hne,d0,d1⟩:=Hwy.out m hlt
     obtain ⟨x,hxx⟩:∃ x,wyAt L.wy m=x:=⟨_,rfl⟩
     rw [hxx] at h1 h2 h3 a0 a1 b0 b1 hne d0 d1
     have Hxx:=qh hxx
     clear hxx
     have a2:x.a < (j:Int):=by omega
     have b2:x.b < (j:Int):=by omega
     obtain ⟨M,hMM⟩:∃ M,wayTo L.wy m=M:=⟨_,rfl⟩
     rw [hMM] at HM2
     have HMM:=qh hMM
     clear hMM
     have cA:=HM2.out.cell x.a.toNat (by omega)
     have cB:=HM2.out.cell x.b.toNat (by omega)
     have mAB:=HM2.out.at_ x.a.toNat x.b.toNat (by omega) (by omega)
     have mBA:=HM2.out.at_ x.b.toNat x.a.toNat (by omega) (by omega)
     have fAB:=HM2.out.fz x.a.toNat x.b.toNat (by omega) (by omega)
     have hbw2:=HM2.out.bw
     have hgA:=HM2.out.gw x.a.toNat (by omega)
     have hgB:=HM2.out.gw x.b.toNat (by omega)
     have kcA:=HM2.out.cap x.a.toNat (by omega)
     have kcB:=HM2.out.cap x.b.toNat (by omega)
     go_upto_region 12 with fail
     (refine wp_region_last prog_mixed rfl (by kernel_rfl) (by kernel_rfl) (by kernel_rfl) (by kernel_rfl) ?_;simp only [List.dropLast_cons_cons,List.dropLast_singleton];(repeat (go_big_quiet_step ((fail))));refine last_end ?_;intro w1 hx1;dsimp only [List.getLast])
     have hxr1:Ext wr w1:=exts
     have HM3:=qh (HM2.out.ext hxr1)
     have bt:=(Boxed.new wr [.int .i64 x.a,.int .i64 x.b,.int .i64 x.d] 231).ext (show Ext (wr.alloc (.cells #[.int .i64 x.a,.int .i64 x.b,.int .i64 x.d] 231)) w1 from exts);have bt0:=bt.at0;have bt1:=bt.at1;have bt2:=bt.at2;have btg:=bt.1;have Hbt:=qh bt;clear bt
     have Hb3:=qh (Hbb.out.ext hxr1)
     have n1:=HM3.out.at_ x.a.toNat x.b.toNat (by omega) (by omega)
     have n2:=HM3.out.fz x.a.toNat x.b.toNat (by omega) (by omega)
     have hz1:=hxr1.size
     clear cA cB mAB mBA fAB hbw2 hgA hgB bx0 bx1 bxg
     have HM4:=qh (HM3.out.set (i:=x.a.toNat) (j:=x.b.toNat) (by omega) (by omega) (min (M x.a.toNat x.b.toNat) x.d))
     have Hb4:=qh (Hb3.out.setOther (p:=⟨gs x.a.toNat,os x.a.toNat+x.b.toNat,none⟩) (by have:=HM2.out.log x.a.toNat (by omega);show w.heap.size ≠ gs x.a.toNat;omega) (.int .i64 (min (M x.a.toNat x.b.toNat) x.d)))
     have Hbt4:=qh (Hbt.out.setOther (p:=⟨gs x.a.toNat,os x.a.toNat+x.b.toNat,none⟩) (by have:=HM2.out.gw x.a.toNat (by omega);show wr.heap.size ≠ gs x.a.toNat;omega) (.int .i64 (min (M x.a.toNat x.b.toNat) x.d)))
     have hx4:Ext w (w1.setCell ⟨gs x.a.toNat,os x.a.toNat+x.b.toNat,none⟩ (.int .i64 (min (M x.a.toNat x.b.toNat) x.d))):=(hx2.trans hxr1).setCell (by have:=HM2.out.log x.a.toNat (by omega);show w.heap.size ≤ gs x.a.toNat;omega) _
     go_upto_region 13 with fail
     clear HM3 Hb3 Hbt bt0 bt1 bt2 btg n1 n2 h1 h2 h3
     generalize (w1.setCell ⟨gs x.a.toNat,os x.a.toNat+x.b.toNat,none⟩ (.int .i64 (min (M x.a.toNat x.b.toNat) x.d)))=w2 at *
     obtain ⟨M1,hM1⟩:∃ M1,set2 M x.a.toNat x.b.toNat (min (M x.a.toNat x.b.toNat) x.d)=M1:=⟨_,rfl⟩
     rw [hM1] at HM4
     have HM1:=qh hM1
     clear hM1
     have bx0:=Hb4.out.at0
     have bx1:=Hb4.out.at1
     have bxg:=Hb4.out.1
     have bt0:=Hbt4.out.at0
     have bt1:=Hbt4.out.at1
     have bt2:=Hbt4.out.at2
     have btg:=Hbt4.out.1
     have cA:=HM4.out.cell x.a.toNat (by omega)
     have cB:=HM4.out.cell x.b.toNat (by omega)
     have mBA:=HM4.out.at_ x.b.toNat x.a.toNat (by omega) (by omega)
     have hbw2:=HM4.out.bw
     have hgA:=HM4.out.gw x.a.toNat (by omega)
     have hgB:=HM4.out.gw x.b.toNat (by omega)
     (refine wp_region_last prog_mixed rfl (by kernel_rfl) (by kernel_rfl) (by kernel_rfl) (by kernel_rfl) ?_;simp only [List.dropLast_cons_cons,List.dropLast_singleton];(repeat (go_big_quiet_step ((fail))));refine last_end ?_;intro w3 hx3;dsimp only [List.getLast])
     have hxr3:Ext w2 w3:=exts
     have HM5:=qh (HM4.out.ext hxr3)
     have Hb5:=qh (Hb4.out.ext hxr3)
     have n1:=HM5.out.at_ x.b.toNat x.a.toNat (by omega) (by omega)
     have n2:=HM5.out.fz x.b.toNat x.a.toNat (by omega) (by omega)
     clear cA cB mBA hbw2 hgA hgB bx0 bx1 bxg bt0 bt1 bt2 btg
     have HM6:=qh (HM5.out.set (i:=x.b.toNat) (j:=x.a.toNat) (by omega) (by omega) (min (M1 x.b.toNat x.a.toNat) x.d))
     have Hb6:=qh (Hb5.out.setOther (p:=⟨gs x.b.toNat,os x.b.toNat+x.a.toNat,none⟩) (by have:=HM2.out.log x.b.toNat (by omega);show w.heap.size ≠ gs x.b.toNat;omega) (.int .i64 (min (M1 x.b.toNat x.a.toNat) x.d)))
     have hx6:Ext w (w3.setCell ⟨gs x.b.toNat,os x.b.toNat+x.a.toNat,none⟩ (.int .i64 (min (M1 x.b.toNat x.a.toNat) x.d))):=(hx4.trans hxr3).setCell (by have:=HM2.out.log x.b.toNat (by omega);show w.heap.size ≤ gs x.b.toNat;omega) _
     go_wp2_with fail
     go_roundg (L.wy.length - (m+1))
     case measure=>omega
     case rel=>exact ⟨m+1,by omega,by go_num,hx6,Hb6.out,qh (by
      have e9:wayTo L.wy (m+1)=set2 M1 x.b.toNat x.a.toNat (min (M1 x.b.toNat x.a.toNat) x.d):=by
       show wayS (wayTo L.wy m) (wyAt L.wy m)=_
       rw [HMM.out,Hxx.out]
       unfold wayS
       simp only
       rw [HM1.out]
      rw [e9]
      exact HM6.out)⟩
    ·obtain rfl:m=L.wy.length:=by omega
     have hmi:¬ (L.wy.length:Int) < (L.wy.length:Int):=by omega
     have h9:=qh (show MatC wr w.heap.size b off j c3 gs os cs (wayTo L.wy L.wy.length) from { HM2.out with lob:=by have:=HM2.out.lob;omega,log:=fun i hi=>by have:=HM2.out.log i hi;omega })
     go_wp2_with fail
     go_ret
     exact ⟨_,_,_,_,_,_,rfl,exts,h9.out.ext exts⟩
def MBd (n:Nat) (M:Mat):Prop:=∀ i j,i < n → j < n → 0 ≤ M i j∧M i j ≤ 1000000
theorem MBd.step {n:Nat} {M:Mat} (h:MBd n M) {k i j:Nat} (hk:k < n) (hi:i < n) (hj:j < n):MBd n (fwS M k i j):=by
 intro a b ha hb
 unfold fwS
 by_cases e:a=i∧b=j
 ·obtain ⟨rfl,rfl⟩:=e
  rw [set2_at]
  have h1:=h a b ha hb
  have h2:=h a k ha hk
  have h3:=h k b hk hb
  omega
 ·rw [set2_ne e];exact h a b ha hb
theorem way_bd {n:Nat} {l:List Wy} (hl:∀ i,i < l.length → WyOk n (wyAt l i)):MBd n (wayTo l l.length):=fun i j hi hj=>by
 have h:=wayTo_ok hl l.length (Nat.le_refl _)
 exact ⟨h.nn i j hi hj,h.le i j hi hj⟩
set_option maxRecDepth 100000 in
set_option maxHeartbeats 16000000 in
theorem impl_travels (v u:Value) (L:Lnd) (w:World) (hp:Strs w 0 w.heap.size v L.pl) (ht:Wys w 0 w.heap.size u L.wy) (hok:LndOk L):Calls Tryz.prog 119 #[.agg #[v,u]] w (NewMat L.pl.length (trvM L.pl.length L.wy) w):=by
 have Hp:=qh hp
 have Ht:=qh ht
 have Hok:=qh hok
 have hn1:1 ≤ L.pl.length:=hok.1.1
 have hn12:L.pl.length ≤ 12:=hok.1.2
 have Hbd0:=qh (way_bd (l:=L.wy) hok.2.2.2)
 clear hp ht hok
 unfold trvM
 go_enter Tryz.func119,Tryz.ntmps119
 go_wp2_with fail
 refine Calls.mono (impl_waysOf v u L _ (Hp.out.up exts) (Ht.out.up exts) Hok.out) ?_
 rintro e w1 ⟨b,off,c,gs,os,cs,rfl,hx1,hM⟩
 have hlo:w.heap.size+1 ≤ (w.alloc (.cells #[v,u] 52)).heap.size:=by rw [World.size_alloc];exact Nat.le_refl _
 have HM0:=qh (show MatC w1 (w.heap.size+1) b off L.pl.length c gs os cs (wayTo L.wy L.wy.length) from { hM with lob:=Nat.le_trans hlo hM.lob,log:=fun i hi=>Nat.le_trans hlo (hM.log i hi) })
 have hxw1:Ext w w1:=exts
 have hnc:=hM.nc
 clear hM hlo hx1
 generalize wayTo L.wy L.wy.length=M0 at *
 generalize L.pl.length=n at *
 go_wp2_with fail
 go_loopg [4,5,6,11] n (fun q u4 u5 u6 i wr=>∃ (k:Nat),k+q=n∧i=.int .i64 k∧Ext w wr∧Hid (MatC wr (w.heap.size+1) b off n c gs os cs (fwK M0 n k))∧Hid (MBd n (fwK M0 n k)))
 case atStart=>exact ⟨0,by omega,rfl,exts,HM0,Hbd0⟩
 clear HM0 Hbd0
 case round =>
  obtain ⟨k,hk,rfl,hxk,HMk,Hbk⟩:=hrel
  have hk0:(0:Int) ≤ (k:Int):=by omega
  by_cases hkn:k < n
  ·have hki:(k:Int) < (n:Int):=by omega
   obtain ⟨wk,rfl⟩:∃ x:World,x=wr:=⟨_,rfl⟩
   obtain ⟨Mk,hMk⟩:∃ M,fwK M0 n k=M:=⟨_,rfl⟩
   have HMk1:=qh (show fwK M0 n (k+1)=fwI Mk k n n from by rw [← hMk];rfl)
   rw [hMk] at HMk Hbk
   clear hMk
   go_wp2_with fail
   go_loopg [5,6,16] n (fun q u5 u6 i wr=>∃ (a:Nat),a+q=n∧i=.int .i64 a∧Ext w wr∧Hid (MatC wr (w.heap.size+1) b off n c gs os cs (fwI Mk k n a))∧Hid (MBd n (fwI Mk k n a)))
   case atStart=>exact ⟨0,by omega,rfl,hxk,HMk,Hbk⟩
   clear HMk Hbk
   case round =>
    obtain ⟨a,ha,rfl,hxa,HMa,Hba⟩:=hrel
    have ha0:(0:Int) ≤ (a:Int):=by omega
    by_cases han:a < n
    ·have hai:(a:Int) < (n:Int):=by omega
     obtain ⟨wa,rfl⟩:∃ x:World,x=wr:=⟨_,rfl⟩
     obtain ⟨Ma,hMa⟩:∃ M,fwI Mk k n a=M:=⟨_,rfl⟩
     have HMa1:=qh (show fwI Mk k n (a+1)=fwJ Ma k a n from by rw [← hMa];rfl)
     rw [hMa] at HMa Hba
     clear hMa
     go_wp2_with fail
     go_loopg [6,21] n (fun q u6 i wr=>∃ (d:Nat),d+q=n∧i=.int .i64 d∧Ext w wr∧Hid (MatC wr (w.heap.size+1) b off n c gs os cs (fwJ Ma k a d))∧Hid (MBd n (fwJ Ma k a d)))
     case atStart=>exact ⟨0,by omega,rfl,hxa,HMa,Hba⟩
     clear HMa Hba
     case round =>
      obtain ⟨d,hd,rfl,hxd,HMd,Hbd⟩:=hrel
      have hd0:(0:Int) ≤ (d:Int):=by omega
      by_cases hdn:d < n
      ·have hdi:(d:Int) < (n:Int):=by omega
       obtain ⟨M,hM⟩:∃ M,fwJ Ma k a d=M:=⟨_,rfl⟩
       have HM1:=qh (show fwJ Ma k a (d+1)=fwS M k a d from by rw [← hM];rfl)
       rw [hM] at HMd Hbd
       clear hM
       have cA:=HMd.out.cell a (by omega)
       have cK:=HMd.out.cell k (by omega)
       have mAD:=HMd.out.at_ a d (by omega) (by omega)
       have mAK:=HMd.out.at_ a k (by omega) (by omega)
       have mKD:=HMd.out.at_ k d (by omega) (by omega)
       have hbw:=HMd.out.bw
       have hgA:=HMd.out.gw a (by omega)
       have hgK:=HMd.out.gw k (by omega)
       obtain ⟨s1,s2⟩:=Hbd.out a k (by omega) (by omega)
       obtain ⟨s3,s4⟩:=Hbd.out k d (by omega) (by omega)
       have W1:IntKind.i64.wrap (M a k+M k d)=M a k+M k d:=IntWalk.i64_in _ (by omega)
       go_upto_region 11 with fail
       (refine wp_region_last prog_mixed rfl (by kernel_rfl) (by kernel_rfl) (by kernel_rfl) (by kernel_rfl) ?_;simp only [List.dropLast_cons_cons,List.dropLast_singleton];(repeat (go_big_quiet_step ((fail))));refine last_end ?_;intro w3 hx3;dsimp only [List.getLast])
       have hxr3:Ext wr w3:=exts
       have HM5:=qh (HMd.out.ext hxr3)
       have n1:=HM5.out.at_ a d (by omega) (by omega)
       have n2:=HM5.out.fz a d (by omega) (by omega)
       clear cA cK mAD mAK mKD hbw hgA hgK
       have HM6:=qh (show MatC (w3.setCell ⟨gs a,os a+d,none⟩ (.int .i64 (min (M a d) (M a k+M k d)))) (w.heap.size+1) b off n c gs os cs (fwJ Ma k a (d+1)) from by rw [HM1.out];exact HM5.out.set (i:=a) (j:=d) (by omega) (by omega) (min (M a d) (M a k+M k d)))
       have Hb6:=qh (show MBd n (fwJ Ma k a (d+1)) from by rw [HM1.out];exact Hbd.out.step (by omega) (by omega) (by omega))
       have hx6:Ext w (w3.setCell ⟨gs a,os a+d,none⟩ (.int .i64 (min (M a d) (M a k+M k d)))):=(hxd.trans hxr3).setCell (by have:=HM5.out.log a (by omega);show w.heap.size ≤ gs a;omega) _
       go_wp2_with fail
       go_roundg (n - (d+1))
       case measure=>omega
       case rel=>exact ⟨d+1,by omega,by go_num,hx6,HM6,Hb6⟩
      ·obtain rfl:d=n:=by omega
       have hdi:¬ (d:Int) < (d:Int):=by omega
       have HMx:=qh (show MatC wr (w.heap.size+1) b off d c gs os cs (fwI Mk k d (a+1)) from by rw [HMa1.out];exact HMd.out)
       have Hbx:=qh (show MBd d (fwI Mk k d (a+1)) from by rw [HMa1.out];exact Hbd.out)
       go_wp2_with fail
       go_roundg (d - (a+1))
       case measure=>omega
       case rel=>exact ⟨a+1,by omega,by go_num,hxd,HMx,Hbx⟩
    ·obtain rfl:a=n:=by omega
     have hai:¬ (a:Int) < (a:Int):=by omega
     have HMx:=qh (show MatC wr (w.heap.size+1) b off a c gs os cs (fwK M0 a (k+1)) from by rw [HMk1.out];exact HMa.out)
     have Hbx:=qh (show MBd a (fwK M0 a (k+1)) from by rw [HMk1.out];exact Hba.out)
     go_wp2_with fail
     go_roundg (a - (k+1))
     case measure=>omega
     case rel=>exact ⟨k+1,by omega,by go_num,hxa,HMx,Hbx⟩
  ·obtain rfl:k=n:=by omega
   have hki:¬ (k:Int) < (k:Int):=by omega
   have h9:=qh (show MatC wr w.heap.size b off k c gs os cs (fwK M0 k k) from { HMk.out with lob:=by have:=HMk.out.lob;omega,log:=fun i hi=>by have:=HMk.out.log i hi;omega })
   go_wp2_with fail
   go_ret
   exact ⟨_,_,_,_,_,_,rfl,exts,h9.out.ext exts⟩
set_option maxHeartbeats 4000000 in
theorem impl_isStay (A:Option Addr) (n c:Nat) (u:Value) (s:Wy) (w:World) (hn:n ≤ 9223372036854775807):Calls Tryz.prog 273 #[.agg #[.slice A n c,u],.agg #[.int .i64 s.a,.int .i64 s.b,.int .i64 s.d]] w (RetX (.bool (B (StyOk n s))) w):=by
 obtain ⟨q1,eq1⟩:∃ b,B (0 ≤ s.a∧s.a ≤ (n:Int) - 1)=b:=⟨_,rfl⟩
 have Hq1:=qh eq1
 clear eq1
 obtain ⟨q2,eq2⟩:∃ b,B (DayOk s.b)=b:=⟨_,rfl⟩
 have Hq2:=qh eq2
 clear eq2
 obtain ⟨q3,eq3⟩:∃ b,B (DayOk s.d)=b:=⟨_,rfl⟩
 have Hq3:=qh eq3
 clear eq3
 have Hb:=qh (Boxed.new (w.alloc (.cells #[.slice A n c,u] 52)) [.int .i64 s.a,.int .i64 s.b,.int .i64 s.d] 162)
 go_enter Tryz.func273,Tryz.ntmps273
 go_wp2_with fail
 refine Calls.mono (impl_isPlace_b Hq1.out _ _ _ _ hn) ?_
 rintro e w1 ⟨rfl,hx1⟩
 have hb1:=Hb.out.ext hx1
 rw [World.size_alloc] at hb1
 have bx:=hb1;have bx0:=bx.at0;have bx1:=bx.at1;have bx2:=bx.at2;have bxg:=bx.1;have Hbx:=qh bx;clear bx
 have hxw1:Ext w w1:=exts
 cases q1 with
 | false =>
  go_wp2_with fail
  go_ret
  exact ⟨ret_bool (B_false (fun h=>absurd (h.1) (B_not.1 Hq1.out))).symm,exts⟩
 | true =>
  go_wp2_with fail
  refine Calls.mono (impl_isDay_b Hq2.out _) ?_
  rintro e w2 ⟨rfl,rfl⟩
  cases q2 with
  | false =>
   go_wp2_with fail
   go_ret
   exact ⟨ret_bool (B_false (fun h=>absurd (h.2.1) (B_not.1 Hq2.out))).symm,exts⟩
  | true =>
   go_wp2_with fail
   refine Calls.mono (impl_isDay_b Hq3.out _) ?_
   rintro e w3 ⟨rfl,rfl⟩
   cases q3 with
   | false =>
    go_wp2_with fail
    go_ret
    exact ⟨ret_bool (B_false (fun h=>absurd (h.2.2.1) (B_not.1 Hq3.out))).symm,exts⟩
   | true =>
    by_cases h4:s.b ≤ s.d
    ·have d4:decide (s.b ≤ s.d)=true:=decide_eq_true h4
     go_wp2_with fail
     go_ret
     exact ⟨ret_bool (B_true ⟨B_iff.1 Hq1.out,B_iff.1 Hq2.out,B_iff.1 Hq3.out,h4⟩).symm,exts⟩
    ·have d4:decide (s.b ≤ s.d)=false:=decide_eq_false h4
     go_wp2_with fail
     go_ret
     exact ⟨ret_bool (B_false (fun h=>by have:=h.2.2.2;omega)).symm,exts⟩
def StsOk (n:Nat) (M:Mat) (l:List Wy):Prop:=l.length ≤ 40∧∀ i,i < l.length → StStep n M l i
set_option maxRecDepth 100000 in
set_option maxHeartbeats 16000000 in
theorem impl_areStays (v u vs:Value) (L:Lnd) (l:List Wy) (b off c:Nat) (gs os cs:Nat → Nat) (M:Mat) (w:World) (hp:Strs w 0 w.heap.size v L.pl) (hs:Wys w 0 w.heap.size vs l) (lo:Nat) (hM:MatC w lo b off L.pl.length c gs os cs M) (hbd:MBd L.pl.length M) :
  Calls Tryz.prog 233 #[.agg #[v,u],.slice (some ⟨b,off,none⟩) L.pl.length c,vs] w (RetX (.bool (B (StsOk L.pl.length M l))) w):=by
 obtain ⟨Ap,cp,rfl,hnp,hcp⟩:=hp.len
 obtain ⟨As,cs', rfl,hns,hcs⟩:=hs.len
 have Hs:=qh hs
 have HM:=qh hM
 have Hbd:=qh hbd
 have hnc:=hM.nc
 clear hp hs hM hbd
 obtain ⟨n,hn⟩:∃ n,L.pl.length=n:=⟨_,rfl⟩
 rw [hn] at hnp hcp hnc ⊢
 rw [hn] at HM Hbd
 clear hn
 have Hb:=qh (Boxed.new w [.slice Ap n cp,u] 52)
 go_enter Tryz.func233,Tryz.ntmps233
 go_wp2_with fail
 go_loopg [7,8,9,10,13] l.length (fun q u7 u8 u9 u10 i wr=>∃ j:Nat,j+q=l.length∧i=.int .i64 j∧Ext (w.alloc (.cells #[.slice Ap n cp,u] 52)) wr∧∀ i,i < j → StStep n M l i)
 case atStart=>exact ⟨0,by omega,rfl,exts,fun i hi=>absurd hi (by omega)⟩
 case round =>
  obtain ⟨j,hj,rfl,hxr,hok⟩:=hrel
  have Hok:=qh hok
  clear hok
  have hx:Ext w wr:=exts
  have bx:=Hb.out.ext hxr;have bx0:=bx.at0;have bx1:=bx.at1;have bxg:=bx.1;have Hbx:=qh bx;clear bx
  have hj0:(0:Int) ≤ (j:Int):=by omega
  by_cases hlt:j < l.length
  ·have hji:(j:Int) < (l.length:Int):=by omega
   obtain ⟨bs,ofs,eA,_,hbs,h1,h2,h3⟩:=(Hs.out.ext hx (Nat.le_refl _)).at_ hlt
   subst eA
   have hbr:bs < wr.heap.size:=Nat.lt_of_lt_of_le hbs hx.size
   obtain ⟨s,hs⟩:∃ s,wyAt l j=s:=⟨_,rfl⟩
   rw [hs] at h1 h2 h3
   have HS:=qh hs
   clear hs
   obtain ⟨q1,e1⟩:∃ b,B (StyOk n s)=b:=⟨_,rfl⟩
   have Hq1:=qh e1
   clear e1
   go_wp2_with fail
   refine Calls.mono (impl_isStay _ _ _ _ s _ hnp) ?_
   rintro e w1 ⟨rfl,hx1⟩
   rw [Hq1.out]
   have bt:=(Boxed.new wr [.int .i64 s.a,.int .i64 s.b,.int .i64 s.d] 162).ext hx1;have bt0:=bt.at0;have bt1:=bt.at1;have bt2:=bt.at2;have btg:=bt.1;have Hbt:=qh bt;clear bt
   have hxr1:Ext wr w1:=exts
   have hxw1:Ext w w1:=hx.trans hxr1
   clear h1 h2 h3 bx0 bx1 bxg
   cases q1 with
   | false =>
    go_wp2_with fail
    go_ret
    exact ⟨ret_bool (B_false (fun h=>B_not.1 Hq1.out (by have:=(h.2 j hlt).1;rwa [HS.out] at this))).symm,exts⟩
   | true =>
    by_cases h0:j=0
    ·have d0:((j:Int) == 0)=true:=by simp;omega
     have d1:decide ((j:Int)=0)=true:=decide_eq_true (by omega)
     have d2:(j:Int)=0:=by omega
     go_wp2_with fail
     go_roundg (l.length - (j+1))
     case measure=>omega
     case rel=>exact ⟨j+1,by omega,by go_num,(hxr.trans hxr1).trans exts,fun i hi=>by
      obtain rfl:i=j:=by omega
      exact ⟨by rw [HS.out];exact B_iff.1 Hq1.out,fun hh=>absurd hh (by omega)⟩⟩
    have d0:((j:Int) == 0)=false:=by simpa using h0
    have d1:decide ((j:Int)=0)=false:=decide_eq_false (by omega)
    have d2:¬ (j:Int)=0:=by omega
    obtain ⟨bs', ofs', e,_,_,k1,k2,k3⟩:=(Hs.out.ext hxw1 (Nat.le_refl _)).at_ (i:=j - 1) (by omega)
    injection e with e
    injection e with e1 e2
    subst e1 e2
    have hq0:(0:Int) ≤ (j:Int) - 1:=by omega
    have hq1:(j:Int) - 1 < (l.length:Int):=by omega
    have hq2:((j:Int) - 1).toNat=j - 1:=by omega
    have hpr:=(Hok.out (j - 1) (by omega)).1
    obtain ⟨t,ht⟩:∃ t,wyAt l (j - 1)=t:=⟨_,rfl⟩
    rw [ht] at k1 k2 k3 hpr
    have HT:=qh ht
    clear ht
    obtain ⟨⟨ta0,ta1⟩,⟨tb0,tb1⟩,⟨td0,td1⟩,_⟩:=hpr
    obtain ⟨⟨sa0,sa1⟩,⟨sb0,sb1⟩,_,_⟩:=B_iff.1 Hq1.out
    have ta2:t.a < (n:Int):=by omega
    have sa2:s.a < (n:Int):=by omega
    have yt:t.a.toNat < n:=by omega
    have ys:s.a.toNat < n:=by omega
    have hbw1:bs < w1.heap.size:=Nat.lt_of_lt_of_le hbr hxr1.size
    have HM1:=qh (HM.out.ext hxw1)
    have cT:=HM1.out.cell t.a.toNat yt
    have mT:=HM1.out.at_ t.a.toNat s.a.toNat yt ys
    have hbm:=HM1.out.bw
    have hgm:=HM1.out.gw t.a.toNat yt
    have kcm:=HM1.out.cap t.a.toNat yt
    have hgm1:gs t.a.toNat < w1.heap.size+1:=by omega
    have hbm1:b < w1.heap.size+1:=by omega
    obtain ⟨m1,m2⟩:=Hbd.out t.a.toNat s.a.toNat yt ys
    have Hiff:=qh (show StStep n M l j ↔ (M t.a.toNat s.a.toNat < 1000000∧t.d < s.b∧t.d+M t.a.toNat s.a.toNat ≤ s.b) from ⟨fun h=>by
     have:=h.2 (by omega)
     unfold Nxt at this
     rwa [HS.out,HT.out] at this,fun h=>⟨by rw [HS.out];exact B_iff.1 Hq1.out,fun _=>by unfold Nxt;rw [HS.out,HT.out];exact h⟩⟩)
    generalize M t.a.toNat s.a.toNat=mm at *
    have W1:IntKind.i64.wrap (t.d+mm)=t.d+mm:=IntWalk.i64_in _ (by omega)
    have hbtg1:wr.heap.size < w1.heap.size+1:=by omega
    go_upto_region 8 with fail
    (refine wp_region_onto prog_mixed (by kernel_rfl) ?_;(repeat (go_big_quiet_step ((fail))));refine onto_end ?_;intro w2 hx2)
    have hxq:Ext w1 w2:=exts
    have bt:=Hbt.out.ext hxq
    clear bt0 bt1 bt2 btg
    have bt0:=bt.at0
    have bt1:=bt.at1
    have bt2:=bt.at2
    have btg:=bt.1
    clear bt
    have bp:=(Boxed.new w1 [.int .i64 t.a,.int .i64 t.b,.int .i64 t.d] 162).ext (show Ext (w1.alloc (.cells #[.int .i64 t.a,.int .i64 t.b,.int .i64 t.d] 162)) w2 from exts);have bp0:=bp.at0;have bp1:=bp.at1;have bp2:=bp.at2;have bpg:=bp.1;have Hbp:=qh bp;clear bp
    clear cT mT k1 k2 k3
    by_cases t1:mm < 1000000
    case neg =>
     have dt1:decide ((1000000:Int) ≤ mm)=true:=decide_eq_true (by omega)
     go_wp2_with fail
     go_ret
     exact ⟨ret_bool (B_false (fun h=>by have:=Hiff.out.1 (h.2 j hlt);omega)).symm,exts⟩
    have dt1:decide ((1000000:Int) ≤ mm)=false:=decide_eq_false (by omega)
    by_cases t2:t.d < s.b
    case neg =>
     have dt2:decide (s.b ≤ t.d)=true:=decide_eq_true (by omega)
     go_wp2_with fail
     go_ret
     exact ⟨ret_bool (B_false (fun h=>by have:=Hiff.out.1 (h.2 j hlt);omega)).symm,exts⟩
    have dt2:decide (s.b ≤ t.d)=false:=decide_eq_false (by omega)
    by_cases t3:t.d+mm ≤ s.b
    case neg =>
     have dt3:decide (s.b < t.d+mm)=true:=decide_eq_true (by omega)
     go_wp2_with fail
     go_ret
     exact ⟨ret_bool (B_false (fun h=>by have:=Hiff.out.1 (h.2 j hlt);omega)).symm,exts⟩
    have dt3:decide (s.b < t.d+mm)=false:=decide_eq_false (by omega)
    go_wp2_with fail
    go_roundg (l.length - (j+1))
    case measure=>omega
    case rel=>exact ⟨j+1,by omega,by go_num,((hxr.trans hxr1).trans hxq).trans exts,st_step Hok.out (Hiff.out.2 ⟨t1,t2,t3⟩)⟩
  ·obtain rfl:j=l.length:=by omega
   have hji:¬ (l.length:Int) < (l.length:Int):=by omega
   go_wp2_with fail
   go_ret
   refine ⟨ret_bool (B_eq ?_),exts⟩
   simp only [decide_eq_true_eq]
   exact ⟨fun h=>⟨by omega,Hok.out⟩,fun h=>by have:=h.1;omega⟩
set_option maxRecDepth 100000 in
set_option maxHeartbeats 16000000 in
theorem impl_IsItinerary (v u vs:Value) (L:Lnd) (l:List Wy) (w:World) (hp:Strs w 0 w.heap.size v L.pl) (ht:Wys w 0 w.heap.size u L.wy) (hs:Wys w 0 w.heap.size vs l):Calls Tryz.prog 193 #[.agg #[v,u],vs] w (RetX (.bool (B (ItiOk L l))) w):=by
 have Hp:=qh hp
 have Ht:=qh ht
 have Hs:=qh hs
 clear hp ht hs
 have Hb:=qh (Boxed.new w [v,u] 52)
 obtain ⟨q1,e1⟩:∃ b,B (LndOk L)=b:=⟨_,rfl⟩
 have Hq1:=qh e1
 clear e1
 have HL:=qh (fun (W:World) (hX:Ext w W)=>show Calls Tryz.prog 232 #[.agg #[v,u]] W (RetX (.bool q1) W) from by rw [← Hq1.out];exact impl_IsLand v u L W (Hp.out.up hX) (Ht.out.up hX))
 have hxa:Ext w (w.alloc (.cells #[v,u] 52)):=(Ext.refl w).alloc _
 cases q1 with
 | false =>
  go_enter Tryz.func193,Tryz.ntmps193
  go_wp2_with fail
  (refine wp_region_onto prog_mixed (by kernel_rfl) ?_;(repeat (go_big_quiet_step ((go_at_call 232;exact onto_callX (HL.out _ (hxa.trans (onto_ext _ _)))))));refine onto_end ?_;intro w1 hx1)
  go_wp2_with fail
  go_ret
  exact ⟨ret_bool (B_false (fun h=>B_not.1 Hq1.out h.1)).symm,exts⟩
 | true =>
  have hok:=B_iff.1 Hq1.out
  have Hok:=qh hok
  have Hbd:=qh (show MBd L.pl.length (trvM L.pl.length L.wy) from fun i j hi hj=>by
   have h:=(trv_ok (n:=L.pl.length) (l:=L.wy) hok.2.2.2).1
   exact ⟨h.nn i j hi hj,h.le i j hi hj⟩)
  clear hok
  have Hiff:=qh (show ItiOk L l ↔ StsOk L.pl.length (trvM L.pl.length L.wy) l from ⟨fun h=>h.2,fun h=>⟨Hok.out,h⟩⟩)
  have b0:=Hb.out.at0
  have b1:=Hb.out.at1
  have hg:w.heap.size < (w.alloc (.cells #[v,u] 52)).heap.size:=Hb.out.1
  have Hb0:=qh (And.intro hg (And.intro b0 b1))
  clear b0 b1 hg
  go_enter Tryz.func193,Tryz.ntmps193
  go_upto_region 1 with fail
  go_region_held3 (fun w' => w'.cell? ⟨w.heap.size,0,none⟩=some v∧w'.cell? ⟨w.heap.size,1,none⟩=some u∧Ext (w.alloc (.cells #[v,u] 52)) w')
   (exact Ext.and_cell Hb0.out.1 Hb0.out.2.1 exts (Ext.and_cell Hb0.out.1 Hb0.out.2.2 exts exts))
   ((first
    | (go_at_call 232;refine Calls.mono (HL.out _ (hxa.trans exts)) ?_;rintro e w1 ⟨rfl,hx1⟩)
    | (go_at_call 119;refine Calls.mono (impl_travels v u L _ (Hp.out.up (hxa.trans exts)) (Ht.out.up (hxa.trans exts)) Hok.out) ?_;rintro e w2 ⟨b,off,c,gs,os,cs,rfl,hx2,hM⟩;have HM:=qh hM;clear hM)
    | (go_at_call 233;refine Calls.mono (impl_areStays v u vs L l b off c gs os cs _ _ (Hp.out.up (hxa.trans exts)) (Hs.out.up (hxa.trans exts)) _ (HM.out.ext exts) Hbd.out) ?_;rintro e w3 ⟨rfl,hx3⟩)))
  all_goals
   go_wp2_with fail
   go_ret
   exact ⟨ret_bool (B_congr Hiff.out).symm,exts⟩
end Go.Proofs.YtechbeegbhlppaaGreatDoor
