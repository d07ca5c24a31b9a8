/- Contract: l14From (the travels from a place, the reference's). (Printed by genKk.py.) -/
import Derived.Test.YtechbeegbhlppaaGreatDoorS2Qd
import Derived.Test.YtechbeegbhlppaaGreatDoorS2Ri
import Derived.Test.YtechbeegbhlppaaGreatDoorS2A
import Derived.IntWalk
import Derived.Deep.RegionLaw
import Derived.Deep.RegionHeld3
import Derived.Deep.Cut
namespace Go.Proofs.YtechbeegbhlppaaGreatDoor
set_option linter.unusedVariables false
set_option linter.unusedSimpArgs false
open Go.RowKit
attribute [local go_sem] cell_onto
def vcC (o:Vc):Nat → Value:=fun i=>.int .i64 (o i)
theorem Blk.congrF {w:World} {g n:Nat} {f f' : Nat → Value} (h:Blk w g n f) (he:∀ i,i < n → f i=f' i):Blk w g n f' := ⟨h.1,fun i hi=>by rw [← he i hi];exact h.2 i hi⟩
theorem Blk.setV {w:World} {g n:Nat} {o:Vc} (h:Blk w g n (vcC o)) (j:Nat) (x:Int) (hj:j < n):Blk (w.setCell ⟨g,j,none⟩ (.int .i64 x)) g n (vcC (set1 o j x)):=by
 refine (h.set j (.int .i64 x) hj).congrF (fun i _=>?_)
 unfold vcC set1
 by_cases e:i=j
 ·rw [if_pos e,if_pos e]
 ·rw [if_neg e,if_neg e]
def VBd (n:Nat) (c:Int) (o:Vc):Prop:=∀ i,i < n → -1 ≤ o i∧o i ≤ c
theorem VBd.rlx {n:Nat} {c:Int} {o:Vc} (h:VBd n c o) {a b:Nat} {d:Int} (ha:a < n) (d1:1 ≤ d) (d2:d ≤ 60) (hc:0 ≤ c):VBd n (c+60) (rlx o a b d):=by
 intro i hi
 have h1:=h i hi
 have h2:=h a ha
 unfold Proofs.YtechbeegbhlppaaGreatDoor.rlx
 split
 ·unfold set1
  split <;> omega
 ·omega
theorem rl_no1 {o:Vc} {a b:Nat} {d:Int} (h:¬ 0 ≤ o a):rlx o a b d=o:=by unfold rlx;rw [if_neg (fun hh=>h hh.1)]
theorem rl_yes1 {o:Vc} {a b:Nat} {d:Int} (h:0 ≤ o a) (h2:o b < 0):rlx o a b d=set1 o b (o a+d):=by unfold rlx;rw [if_pos ⟨h,.inl h2⟩]
theorem rl_yes2 {o:Vc} {a b:Nat} {d:Int} (h:0 ≤ o a) (h2:o a+d < o b):rlx o a b d=set1 o b (o a+d):=by unfold rlx;rw [if_pos ⟨h,.inr h2⟩]
theorem rl_no2 {o:Vc} {a b:Nat} {d:Int} (h1:¬ o b < 0) (h2:¬ o a+d < o b):rlx o a b d=o:=by unfold rlx;rw [if_neg (fun hh=>hh.2.elim h1 h2)]
def NewVc (n:Nat) (o:Vc) (w:World) (e:Ending) (w' : World):Prop:=∃ g,e=.returned (.slice (some ⟨g,0,none⟩) n n)∧Ext w w' ∧ w.heap.size ≤ g∧Blk w' g n (vcC o)
set_option maxRecDepth 100000 in
set_option maxHeartbeats 32000000 in
theorem spec_l14From (v u:Value) (L:Lnd) (a:Int) (w:World) (hp:Strs w 0 w.heap.size v L.pl) (ht:Wys w 0 w.heap.size u L.wy) (hok:LndOk L) (ha0:0 ≤ a) (ha1:a < L.pl.length):Calls Tryz.prog 157 #[.agg #[v,u],.int .i64 a] w (NewVc L.pl.length (frmV L.pl.length L.wy a.toNat) w):=by
 obtain ⟨Ap,cp,rfl,hnp,hcp⟩:=hp.len
 obtain ⟨At,ct,rfl,hnt,hct⟩:=ht.len
 have Ht:=qh ht
 obtain ⟨⟨hn1,hn12⟩,hw40,_,hwy⟩:=hok
 have Hwy:=qh hwy
 clear hp ht hwy
 obtain ⟨n,hn⟩:∃ n,L.pl.length=n:=⟨_,rfl⟩
 rw [hn] at hn1 hn12 hcp hnp ha1 ⊢
 rw [hn] at Hwy
 clear hn
 have Hb:=qh (Boxed.new w [.slice Ap n cp,.slice At L.wy.length ct] 52)
 have ha2:a.toNat < n:=by omega
 go_enter Tryz.func157,Tryz.ntmps157
 go_wp2_with (at_make;refine wpList_make_blk _ rfl _ _ 67 rfl 2 1 8 Tryz.underlying67 (by kernel_rfl) n rfl rfl (by omega) (by unfold maxLen;omega) ?_;intro w0 f0 hx0 hb0)
 rw [World.size_alloc] at hb0
 have Hb0:=qh hb0
 have hxa:Ext (w.alloc (.cells #[.slice Ap n cp,.slice At L.wy.length ct] 52)) w0:=exts
 clear hb0 hx0
 try simp only [World.size_alloc]
 go_loopg [6] n (fun q i wr=>∃ (j:Nat) (f:Nat → Value),j+q=n∧i=.int .i64 j∧Ext (w.alloc (.cells #[.slice Ap n cp,.slice At L.wy.length ct] 52)) wr∧Hid (Blk wr (w.heap.size+1) n f)∧Hid (∀ i,i < j → f i=.int .i64 (-1)))
 case atStart=>exact ⟨0,f0,by omega,rfl,hxa,(by have h9:=Hb0.out;rw [Nat.mul_one] at h9;exact qh h9),qh (fun i hi=>absurd hi (by omega))⟩
 clear Hb0 hxa
 case round =>
  obtain ⟨j,f,hj,rfl,hxr,HB,Hf⟩:=hrel
  have hj0:(0:Int) ≤ (j:Int):=by omega
  by_cases hlt:j < n
  ·have hji:(j:Int) < (n:Int):=by omega
   have c1:=(HB.out.2 j hlt).1
   have c2:=(HB.out.2 j hlt).2
   have hg:=HB.out.1
   have HB2:=qh (HB.out.set j (.int .i64 (-1)) hlt)
   have hx2:Ext (w.alloc (.cells #[.slice Ap n cp,.slice At L.wy.length ct] 52)) (wr.setCell ⟨w.heap.size+1,j,none⟩ (.int .i64 (-1))):=hxr.setCell (by rw [World.size_alloc];exact Nat.le_refl _) _
   go_wp2_with fail
   go_roundg (n - (j+1))
   case measure=>omega
   case rel=>exact ⟨j+1,_,by omega,by go_num,hx2,HB2,qh (fun i hi=>by
    by_cases e:i=j
    ·rw [if_pos e]
    ·rw [if_neg e];exact Hf.out i (by omega))⟩
  ·obtain rfl:j=n:=by omega
   have hji:¬ (j:Int) < (j:Int):=by omega
   have HV:=qh (show Blk wr (w.heap.size+1) j (vcC (fun _ => -1)) from HB.out.congrF (fun i hi=>Hf.out i hi))
   clear HB Hf hlt
   have c1:=(HV.out.2 a.toNat ha2).1
   have c2:=(HV.out.2 a.toNat ha2).2
   have hg:=HV.out.1
   have HV0:=qh (show Blk (wr.setCell ⟨w.heap.size+1,a.toNat,none⟩ (.int .i64 0)) (w.heap.size+1) j (vcC (bf0 a.toNat)) from HV.out.setV a.toNat 0 ha2)
   have hx2:Ext (w.alloc (.cells #[.slice Ap j cp,.slice At L.wy.length ct] 52)) (wr.setCell ⟨w.heap.size+1,a.toNat,none⟩ (.int .i64 0)):=hxr.setCell (by rw [World.size_alloc];exact Nat.le_refl _) _
   have HA:=qh (show VBd j (4800 * ((0:Nat):Int)) (bf0 a.toNat) from fun i _=>by unfold bf0;split <;> omega)
   go_wp2_with fail
   generalize (wr.setCell ⟨w.heap.size+1,a.toNat,none⟩ (.int .i64 0))=ws at *
   obtain ⟨n,hn⟩:∃ n,j=n:=⟨_,rfl⟩
   subst hn
   clear c1 c2 hg HV hxr
   go_loopg [7,8,9] j (fun q i u8 u9 wr=>∃ (r:Nat),r+q=j∧i=.int .i64 r∧Ext (w.alloc (.cells #[.slice Ap j cp,.slice At L.wy.length ct] 52)) wr∧Hid (Blk wr (w.heap.size+1) j (vcC (bfR L.wy (bf0 a.toNat) r)))∧Hid (VBd j (4800 * (r:Int)) (bfR L.wy (bf0 a.toNat) r)))
   case atStart=>exact ⟨0,by omega,rfl,hx2,HV0,HA⟩
   clear HV0 HA hx2
   case round =>
    obtain ⟨r,hr,rfl,hxr,HV,HA⟩:=hrel
    have hr0:(0:Int) ≤ (r:Int):=by omega
    have bxr:=Hb.out.ext hxr
    have bx0:=bxr.at0
    have bx1:=bxr.at1
    have bxg:=bxr.1
    clear bxr
    by_cases hlt:r < j
    ·have hri:(r:Int) < (j:Int):=by omega
     obtain ⟨wz,rfl⟩:∃ x:World,x=wr:=⟨_,rfl⟩
     obtain ⟨O,hO⟩:∃ O,bfR L.wy (bf0 a.toNat) r=O:=⟨_,rfl⟩
     have HO1:=qh (show bfR L.wy (bf0 a.toNat) (r+1)=bfW L.wy O L.wy.length from by rw [← hO];rfl)
     rw [hO] at HV HA
     clear hO
     go_wp2_with fail
     clear bx0 bx1 bxg
     go_loopg [8,9] L.wy.length (fun q i u9 wr=>∃ (m:Nat),m+q=L.wy.length∧i=.int .i64 m∧Ext (w.alloc (.cells #[.slice Ap j cp,.slice At L.wy.length ct] 52)) wr∧Hid (Blk wr (w.heap.size+1) j (vcC (bfW L.wy O m)))∧Hid (VBd j (4800 * (r:Int)+120 * (m:Int)) (bfW L.wy O m)))
     case atStart=>exact ⟨0,by omega,rfl,hxr,HV,qh (by
      have h9:=HA.out
      intro i hi
      have:=h9 i hi
      show -1 ≤ O i∧O i ≤ _
      omega)⟩
     clear HV HA
     case round =>
      obtain ⟨m,hm,rfl,hxm,HV,HA⟩:=hrel
      have hm0:(0:Int) ≤ (m:Int):=by omega
      have bxr:=Hb.out.ext hxm
      have bx0:=bxr.at0
      have bx1:=bxr.at1
      have bxg:=bxr.1
      have Hbx:=qh bxr
      clear bxr
      have bxg1:w.heap.size < wr.heap.size+1:=by omega
      by_cases hmn:m < L.wy.length
      ·have hmi:(m:Int) < (L.wy.length:Int):=by omega
       have hxw:Ext w wr:=((Ext.refl w).alloc _).trans hxm
       obtain ⟨bw,ow,eA,_,hbw,h1,h2,h3⟩:=(Ht.out.ext hxw (Nat.le_refl _)).at_ hmn
       subst eA
       have hbr:bw < wr.heap.size:=Nat.lt_of_lt_of_le hbw hxw.size
       obtain ⟨⟨a0,a1⟩,⟨b0,b1⟩,hne,d0,d1⟩:=Hwy.out m hmn
       obtain ⟨x,hxx⟩:∃ x,wyAt L.wy m=x:=⟨_,rfl⟩
       have HW1:=qh (show bfW L.wy O (m+1)=bfS (bfW L.wy O m) x from by rw [← hxx];rfl)
       rw [hxx] at h1 h2 h3 a0 a1 b0 b1 hne d0 d1
       clear hxx
       have a2:x.a < (j:Int):=by omega
       have b2:x.b < (j:Int):=by omega
       have ya:x.a.toNat < j:=by omega
       have yb:x.b.toNat < j:=by omega
       obtain ⟨o,ho⟩:∃ o,bfW L.wy O m=o:=⟨_,rfl⟩
       rw [ho] at HV HA HW1
       clear ho
       have hx3:=hxm
       have HBt:=qh (Boxed.new wr [.int .i64 x.a,.int .i64 x.b,.int .i64 x.d] 231)
       have hgw0:w.heap.size+1 < wr.heap.size:=HV.out.1
       have hgm:=HV.out.1
       have hgm1:w.heap.size+1 < wr.heap.size+1:=by omega
       obtain ⟨v1,v2⟩:=HA.out x.a.toNat ya
       obtain ⟨v3,v4⟩:=HA.out x.b.toNat yb
       have cS:wr.cell? ⟨w.heap.size+1,x.a.toNat,none⟩=some (.int .i64 (o x.a.toNat)):=(HV.out.2 x.a.toNat ya).1
       have cD:wr.cell? ⟨w.heap.size+1,x.b.toNat,none⟩=some (.int .i64 (o x.b.toNat)):=(HV.out.2 x.b.toNat yb).1
       have W1:IntKind.i64.wrap (o x.a.toNat+x.d)=o x.a.toNat+x.d:=IntWalk.i64_in _ (by omega)
       by_cases t1:0 ≤ o x.a.toNat
       case neg =>
        have D1:decide (0 ≤ o x.a.toNat)=false:=decide_eq_false t1
        have Hrl:=qh (rl_no1 t1:rlx o x.a.toNat x.b.toNat x.d=o)
        go_upto_region 14 with fail
        (refine wp_region_onto prog_mixed (by kernel_rfl) ?_;(repeat (go_big_quiet_step ((fail))));refine onto_end ?_;intro wq1 hq1)
        have hxq1:Ext wr wq1:=exts
        have HBt1:=qh (HBt.out.ext (show Ext (wr.alloc (.cells #[.int .i64 x.a,.int .i64 x.b,.int .i64 x.d] 231)) wq1 from exts))
        have Hbx1:=qh (Hbx.out.ext hxq1)
        have HV1:=qh (show Blk wq1 (w.heap.size+1) j (vcC (rlx o x.a.toNat x.b.toNat x.d)) from by rw [Hrl.out];exact HV.out.ext hxq1)
        have hx1n:=hxm.trans hxq1
        clear cS cD W1 v1 v2 v3 v4 hgm hgm1 bx0 bx1 bxg bxg1 h1 h2 h3
        clear Hrl
        clear D1
        have HA1:=qh (HA.out.rlx (b:=x.b.toNat) ya d0 d1 (by omega))
        obtain ⟨o1,ho1⟩:∃ o', rlx o x.a.toNat x.b.toNat x.d=o' := ⟨_,rfl⟩
        have HO1:=qh ho1
        rw [ho1] at HV1 HA1
        clear ho1
        obtain ⟨v1,v2⟩:=HA1.out x.b.toNat yb
        obtain ⟨v3,v4⟩:=HA1.out x.a.toNat ya
        have cS:wq1.cell? ⟨w.heap.size+1,x.b.toNat,none⟩=some (.int .i64 (o1 x.b.toNat)):=(HV1.out.2 x.b.toNat yb).1
        have cD:wq1.cell? ⟨w.heap.size+1,x.a.toNat,none⟩=some (.int .i64 (o1 x.a.toNat)):=(HV1.out.2 x.a.toNat ya).1
        have W1:IntKind.i64.wrap (o1 x.b.toNat+x.d)=o1 x.b.toNat+x.d:=IntWalk.i64_in _ (by omega)
        have bx0:=Hbx1.out.at0
        have bx1:=Hbx1.out.at1
        have bxg:=Hbx1.out.1
        have bt0:=HBt1.out.at0
        have bt1:=HBt1.out.at1
        have bt2:=HBt1.out.at2
        have btg:=HBt1.out.1
        have hgm:=HV1.out.1
        by_cases t1:0 ≤ o1 x.b.toNat
        case neg =>
         have D1:decide (0 ≤ o1 x.b.toNat)=false:=decide_eq_false t1
         have Hrl:=qh (rl_no1 t1:rlx o1 x.b.toNat x.a.toNat x.d=o1)
         go_upto_region 16 with fail
         (refine wp_region_onto prog_mixed (by kernel_rfl) ?_;(repeat (go_big_quiet_step ((fail))));refine onto_end ?_;intro wq2 hq2)
         have hxq2:Ext wq1 wq2:=exts
         have HBt2:=qh (HBt1.out.ext hxq2)
         have Hbx2:=qh (Hbx1.out.ext hxq2)
         have HV2:=qh (show Blk wq2 (w.heap.size+1) j (vcC (rlx o1 x.b.toNat x.a.toNat x.d)) from by rw [Hrl.out];exact HV1.out.ext hxq2)
         have hx2n:=hx1n.trans hxq2
         clear cS cD W1 v1 v2 v3 v4 hgm bx0 bx1 bxg bt0 bt1 bt2 btg
         clear Hrl
         clear D1
         go_wp2_with fail
         go_roundg (L.wy.length - (m+1))
         case measure=>omega
         case rel=>exact ⟨m+1,by omega,by go_num,hx2n,qh (by rw [HW1.out];unfold bfS;rw [HO1.out];exact HV2.out),qh (by
          have h9:=HA1.out.rlx (b:=x.a.toNat) yb d0 d1 (by omega)
          rw [HW1.out]
          unfold bfS
          rw [HO1.out]
          intro i hi
          have:=h9 i hi
          omega)⟩
        have D1:decide (0 ≤ o1 x.b.toNat)=true:=decide_eq_true t1
        by_cases t2:o1 x.a.toNat < 0
        case pos =>
         have D2:decide (o1 x.a.toNat < 0)=true:=decide_eq_true t2
         have Hrl:=qh (rl_yes1 t1 t2:rlx o1 x.b.toNat x.a.toNat x.d=set1 o1 x.a.toNat (o1 x.b.toNat+x.d))
         go_upto_region 16 with fail
         (refine wp_region_onto prog_mixed (by kernel_rfl) ?_;(repeat (go_big_quiet_step ((fail))));refine onto_end ?_;intro wq2 hq2)
         have hxq2:Ext wq1 wq2:=exts
         have HBq:=qh (HBt1.out.ext hxq2)
         have HVq:=qh (HV1.out.ext hxq2)
         clear cS cD W1 v1 v2 v3 v4 hgm bx0 bx1 bxg bt0 bt1 bt2 btg
         have cS:wq2.cell? ⟨w.heap.size+1,x.b.toNat,none⟩=some (.int .i64 (o1 x.b.toNat)):=(HVq.out.2 x.b.toNat yb).1
         have bt0:=HBq.out.at0
         have bt1:=HBq.out.at1
         have bt2:=HBq.out.at2
         have btg:=HBq.out.1
         have hgm:=HVq.out.1
         obtain ⟨v1,v2⟩:=HA1.out x.b.toNat yb
         have W1:IntKind.i64.wrap (o1 x.b.toNat+x.d)=o1 x.b.toNat+x.d:=IntWalk.i64_in _ (by omega)
         go_upto_region 17 with fail
         (refine wp_region_last prog_mixed rfl (by kernel_rfl) (by kernel_rfl) (by kernel_rfl) (by kernel_rfl) ?_;simp only [List.dropLast_cons_cons,List.dropLast_singleton];(repeat (go_big_quiet_step ((fail))));refine last_end ?_;intro ws2 hs2;dsimp only [List.getLast])
         have hxs2:Ext wq2 ws2:=exts
         have HVs:=qh (HVq.out.ext hxs2)
         have n1:ws2.cell? ⟨w.heap.size+1,x.a.toNat,none⟩=some (.int .i64 (o1 x.a.toNat)):=(HVs.out.2 x.a.toNat ya).1
         have n2:=(HVs.out.2 x.a.toNat ya).2
         clear bt0 bt1 bt2 btg cS hgm v1 v2
         have hgm:=HVs.out.1
         have HV2:=qh (show Blk (ws2.setCell ⟨w.heap.size+1,x.a.toNat,none⟩ (.int .i64 (o1 x.b.toNat+x.d))) (w.heap.size+1) j (vcC (rlx o1 x.b.toNat x.a.toNat x.d)) from by rw [Hrl.out];exact HVs.out.setV x.a.toNat (o1 x.b.toNat+x.d) ya)
         have HBt2:=qh ((HBq.out.ext hxs2).setOther (p:=⟨w.heap.size+1,x.a.toNat,none⟩) (by show wr.heap.size ≠ w.heap.size+1;omega) (.int .i64 (o1 x.b.toNat+x.d)))
         have Hbx2:=qh (((Hbx1.out.ext hxq2).ext hxs2).setOther (p:=⟨w.heap.size+1,x.a.toNat,none⟩) (by show w.heap.size ≠ w.heap.size+1;omega) (.int .i64 (o1 x.b.toNat+x.d)))
         have hx2n:Ext (w.alloc (.cells #[.slice Ap j cp,.slice (some ⟨bw,ow,none⟩) L.wy.length ct] 52)) (ws2.setCell ⟨w.heap.size+1,x.a.toNat,none⟩ (.int .i64 (o1 x.b.toNat+x.d))):=((hx1n.trans hxq2).trans hxs2).setCell (by rw [World.size_alloc];exact Nat.le_refl _) _
         clear HVs HBq HVq Hrl
         clear D1 D2
         go_wp2_with fail
         go_roundg (L.wy.length - (m+1))
         case measure=>omega
         case rel=>exact ⟨m+1,by omega,by go_num,hx2n,qh (by rw [HW1.out];unfold bfS;rw [HO1.out];exact HV2.out),qh (by
          have h9:=HA1.out.rlx (b:=x.a.toNat) yb d0 d1 (by omega)
          rw [HW1.out]
          unfold bfS
          rw [HO1.out]
          intro i hi
          have:=h9 i hi
          omega)⟩
        have D2:decide (o1 x.a.toNat < 0)=false:=decide_eq_false t2
        by_cases t3:o1 x.b.toNat+x.d < o1 x.a.toNat
        case pos =>
         have D3:decide (o1 x.b.toNat+x.d < o1 x.a.toNat)=true:=decide_eq_true t3
         have Hrl:=qh (rl_yes2 t1 t3:rlx o1 x.b.toNat x.a.toNat x.d=set1 o1 x.a.toNat (o1 x.b.toNat+x.d))
         go_upto_region 16 with fail
         (refine wp_region_onto prog_mixed (by kernel_rfl) ?_;(repeat (go_big_quiet_step ((fail))));refine onto_end ?_;intro wq2 hq2)
         have hxq2:Ext wq1 wq2:=exts
         have HBq:=qh (HBt1.out.ext hxq2)
         have HVq:=qh (HV1.out.ext hxq2)
         clear cS cD W1 v1 v2 v3 v4 hgm bx0 bx1 bxg bt0 bt1 bt2 btg
         have cS:wq2.cell? ⟨w.heap.size+1,x.b.toNat,none⟩=some (.int .i64 (o1 x.b.toNat)):=(HVq.out.2 x.b.toNat yb).1
         have bt0:=HBq.out.at0
         have bt1:=HBq.out.at1
         have bt2:=HBq.out.at2
         have btg:=HBq.out.1
         have hgm:=HVq.out.1
         obtain ⟨v1,v2⟩:=HA1.out x.b.toNat yb
         have W1:IntKind.i64.wrap (o1 x.b.toNat+x.d)=o1 x.b.toNat+x.d:=IntWalk.i64_in _ (by omega)
         go_upto_region 17 with fail
         (refine wp_region_last prog_mixed rfl (by kernel_rfl) (by kernel_rfl) (by kernel_rfl) (by kernel_rfl) ?_;simp only [List.dropLast_cons_cons,List.dropLast_singleton];(repeat (go_big_quiet_step ((fail))));refine last_end ?_;intro ws2 hs2;dsimp only [List.getLast])
         have hxs2:Ext wq2 ws2:=exts
         have HVs:=qh (HVq.out.ext hxs2)
         have n1:ws2.cell? ⟨w.heap.size+1,x.a.toNat,none⟩=some (.int .i64 (o1 x.a.toNat)):=(HVs.out.2 x.a.toNat ya).1
         have n2:=(HVs.out.2 x.a.toNat ya).2
         clear bt0 bt1 bt2 btg cS hgm v1 v2
         have hgm:=HVs.out.1
         have HV2:=qh (show Blk (ws2.setCell ⟨w.heap.size+1,x.a.toNat,none⟩ (.int .i64 (o1 x.b.toNat+x.d))) (w.heap.size+1) j (vcC (rlx o1 x.b.toNat x.a.toNat x.d)) from by rw [Hrl.out];exact HVs.out.setV x.a.toNat (o1 x.b.toNat+x.d) ya)
         have HBt2:=qh ((HBq.out.ext hxs2).setOther (p:=⟨w.heap.size+1,x.a.toNat,none⟩) (by show wr.heap.size ≠ w.heap.size+1;omega) (.int .i64 (o1 x.b.toNat+x.d)))
         have Hbx2:=qh (((Hbx1.out.ext hxq2).ext hxs2).setOther (p:=⟨w.heap.size+1,x.a.toNat,none⟩) (by show w.heap.size ≠ w.heap.size+1;omega) (.int .i64 (o1 x.b.toNat+x.d)))
         have hx2n:Ext (w.alloc (.cells #[.slice Ap j cp,.slice (some ⟨bw,ow,none⟩) L.wy.length ct] 52)) (ws2.setCell ⟨w.heap.size+1,x.a.toNat,none⟩ (.int .i64 (o1 x.b.toNat+x.d))):=((hx1n.trans hxq2).trans hxs2).setCell (by rw [World.size_alloc];exact Nat.le_refl _) _
         clear HVs HBq HVq Hrl
         clear D1 D2 D3
         go_wp2_with fail
         go_roundg (L.wy.length - (m+1))
         case measure=>omega
         case rel=>exact ⟨m+1,by omega,by go_num,hx2n,qh (by rw [HW1.out];unfold bfS;rw [HO1.out];exact HV2.out),qh (by
          have h9:=HA1.out.rlx (b:=x.a.toNat) yb d0 d1 (by omega)
          rw [HW1.out]
          unfold bfS
          rw [HO1.out]
          intro i hi
          have:=h9 i hi
          omega)⟩
        have D3:decide (o1 x.b.toNat+x.d < o1 x.a.toNat)=false:=decide_eq_false t3
        have Hrl:=qh (rl_no2 t2 t3:rlx o1 x.b.toNat x.a.toNat x.d=o1)
        go_upto_region 16 with fail
        (refine wp_region_onto prog_mixed (by kernel_rfl) ?_;(repeat (go_big_quiet_step ((fail))));refine onto_end ?_;intro wq2 hq2)
        have hxq2:Ext wq1 wq2:=exts
        have HBt2:=qh (HBt1.out.ext hxq2)
        have Hbx2:=qh (Hbx1.out.ext hxq2)
        have HV2:=qh (show Blk wq2 (w.heap.size+1) j (vcC (rlx o1 x.b.toNat x.a.toNat x.d)) from by rw [Hrl.out];exact HV1.out.ext hxq2)
        have hx2n:=hx1n.trans hxq2
        clear cS cD W1 v1 v2 v3 v4 hgm bx0 bx1 bxg bt0 bt1 bt2 btg
        clear Hrl
        clear D1 D2 D3
        go_wp2_with fail
        go_roundg (L.wy.length - (m+1))
        case measure=>omega
        case rel=>exact ⟨m+1,by omega,by go_num,hx2n,qh (by rw [HW1.out];unfold bfS;rw [HO1.out];exact HV2.out),qh (by
         have h9:=HA1.out.rlx (b:=x.a.toNat) yb d0 d1 (by omega)
         rw [HW1.out]
         unfold bfS
         rw [HO1.out]
         intro i hi
         have:=h9 i hi
         omega)⟩
       have D1:decide (0 ≤ o x.a.toNat)=true:=decide_eq_true t1
       by_cases t2:o x.b.toNat < 0
       case pos =>
        have D2:decide (o x.b.toNat < 0)=true:=decide_eq_true t2
        have Hrl:=qh (rl_yes1 t1 t2:rlx o x.a.toNat x.b.toNat x.d=set1 o x.b.toNat (o x.a.toNat+x.d))
        go_upto_region 14 with fail
        (refine wp_region_onto prog_mixed (by kernel_rfl) ?_;(repeat (go_big_quiet_step ((fail))));refine onto_end ?_;intro wq1 hq1)
        have hxq1:Ext wr wq1:=exts
        have HBq:=qh (HBt.out.ext (show Ext (wr.alloc (.cells #[.int .i64 x.a,.int .i64 x.b,.int .i64 x.d] 231)) wq1 from exts))
        have HVq:=qh (HV.out.ext hxq1)
        clear cS cD W1 v1 v2 v3 v4 hgm hgm1 bx0 bx1 bxg bxg1 h1 h2 h3
        have cS:wq1.cell? ⟨w.heap.size+1,x.a.toNat,none⟩=some (.int .i64 (o x.a.toNat)):=(HVq.out.2 x.a.toNat ya).1
        have bt0:=HBq.out.at0
        have bt1:=HBq.out.at1
        have bt2:=HBq.out.at2
        have btg:=HBq.out.1
        have hgm:=HVq.out.1
        obtain ⟨v1,v2⟩:=HA.out x.a.toNat ya
        have W1:IntKind.i64.wrap (o x.a.toNat+x.d)=o x.a.toNat+x.d:=IntWalk.i64_in _ (by omega)
        go_upto_region 15 with fail
        (refine wp_region_last prog_mixed rfl (by kernel_rfl) (by kernel_rfl) (by kernel_rfl) (by kernel_rfl) ?_;simp only [List.dropLast_cons_cons,List.dropLast_singleton];(repeat (go_big_quiet_step ((fail))));refine last_end ?_;intro ws1 hs1;dsimp only [List.getLast])
        have hxs1:Ext wq1 ws1:=exts
        have HVs:=qh (HVq.out.ext hxs1)
        have n1:ws1.cell? ⟨w.heap.size+1,x.b.toNat,none⟩=some (.int .i64 (o x.b.toNat)):=(HVs.out.2 x.b.toNat yb).1
        have n2:=(HVs.out.2 x.b.toNat yb).2
        clear bt0 bt1 bt2 btg cS hgm v1 v2
        have hgm:=HVs.out.1
        have HV1:=qh (show Blk (ws1.setCell ⟨w.heap.size+1,x.b.toNat,none⟩ (.int .i64 (o x.a.toNat+x.d))) (w.heap.size+1) j (vcC (rlx o x.a.toNat x.b.toNat x.d)) from by rw [Hrl.out];exact HVs.out.setV x.b.toNat (o x.a.toNat+x.d) yb)
        have HBt1:=qh ((HBq.out.ext hxs1).setOther (p:=⟨w.heap.size+1,x.b.toNat,none⟩) (by show wr.heap.size ≠ w.heap.size+1;omega) (.int .i64 (o x.a.toNat+x.d)))
        have Hbx1:=qh (((Hbx.out.ext hxq1).ext hxs1).setOther (p:=⟨w.heap.size+1,x.b.toNat,none⟩) (by show w.heap.size ≠ w.heap.size+1;omega) (.int .i64 (o x.a.toNat+x.d)))
        have hx1n:Ext (w.alloc (.cells #[.slice Ap j cp,.slice (some ⟨bw,ow,none⟩) L.wy.length ct] 52)) (ws1.setCell ⟨w.heap.size+1,x.b.toNat,none⟩ (.int .i64 (o x.a.toNat+x.d))):=((hxm.trans hxq1).trans hxs1).setCell (by rw [World.size_alloc];exact Nat.le_refl _) _
        clear HVs HBq HVq Hrl
        clear D1 D2
        go_upto_region 16 with fail
        clear n1 n2 W1 hgm
        generalize (ws1.setCell ⟨w.heap.size+1,x.b.toNat,none⟩ (.int .i64 (o x.a.toNat+x.d)))=wt1 at *
        have HA1:=qh (HA.out.rlx (b:=x.b.toNat) ya d0 d1 (by omega))
        obtain ⟨o1,ho1⟩:∃ o', rlx o x.a.toNat x.b.toNat x.d=o' := ⟨_,rfl⟩
        have HO1:=qh ho1
        rw [ho1] at HV1 HA1
        clear ho1
        obtain ⟨v1,v2⟩:=HA1.out x.b.toNat yb
        obtain ⟨v3,v4⟩:=HA1.out x.a.toNat ya
        have cS:wt1.cell? ⟨w.heap.size+1,x.b.toNat,none⟩=some (.int .i64 (o1 x.b.toNat)):=(HV1.out.2 x.b.toNat yb).1
        have cD:wt1.cell? ⟨w.heap.size+1,x.a.toNat,none⟩=some (.int .i64 (o1 x.a.toNat)):=(HV1.out.2 x.a.toNat ya).1
        have W1:IntKind.i64.wrap (o1 x.b.toNat+x.d)=o1 x.b.toNat+x.d:=IntWalk.i64_in _ (by omega)
        have bx0:=Hbx1.out.at0
        have bx1:=Hbx1.out.at1
        have bxg:=Hbx1.out.1
        have bt0:=HBt1.out.at0
        have bt1:=HBt1.out.at1
        have bt2:=HBt1.out.at2
        have btg:=HBt1.out.1
        have hgm:=HV1.out.1
        by_cases t1:0 ≤ o1 x.b.toNat
        case neg =>
         have D1:decide (0 ≤ o1 x.b.toNat)=false:=decide_eq_false t1
         have Hrl:=qh (rl_no1 t1:rlx o1 x.b.toNat x.a.toNat x.d=o1)
         go_upto_region 16 with fail
         (refine wp_region_onto prog_mixed (by kernel_rfl) ?_;(repeat (go_big_quiet_step ((fail))));refine onto_end ?_;intro wq3 hq3)
         have hxq3:Ext wt1 wq3:=exts
         have HBt3:=qh (HBt1.out.ext hxq3)
         have Hbx3:=qh (Hbx1.out.ext hxq3)
         have HV3:=qh (show Blk wq3 (w.heap.size+1) j (vcC (rlx o1 x.b.toNat x.a.toNat x.d)) from by rw [Hrl.out];exact HV1.out.ext hxq3)
         have hx3n:=hx1n.trans hxq3
         clear cS cD W1 v1 v2 v3 v4 hgm bx0 bx1 bxg bt0 bt1 bt2 btg
         clear Hrl
         clear D1
         go_wp2_with fail
         go_roundg (L.wy.length - (m+1))
         case measure=>omega
         case rel=>exact ⟨m+1,by omega,by go_num,hx3n,qh (by rw [HW1.out];unfold bfS;rw [HO1.out];exact HV3.out),qh (by
          have h9:=HA1.out.rlx (b:=x.a.toNat) yb d0 d1 (by omega)
          rw [HW1.out]
          unfold bfS
          rw [HO1.out]
          intro i hi
          have:=h9 i hi
          omega)⟩
        have D1:decide (0 ≤ o1 x.b.toNat)=true:=decide_eq_true t1
        by_cases t2:o1 x.a.toNat < 0
        case pos =>
         have D2:decide (o1 x.a.toNat < 0)=true:=decide_eq_true t2
         have Hrl:=qh (rl_yes1 t1 t2:rlx o1 x.b.toNat x.a.toNat x.d=set1 o1 x.a.toNat (o1 x.b.toNat+x.d))
         go_upto_region 16 with fail
         (refine wp_region_onto prog_mixed (by kernel_rfl) ?_;(repeat (go_big_quiet_step ((fail))));refine onto_end ?_;intro wq3 hq3)
         have hxq3:Ext wt1 wq3:=exts
         have HBq:=qh (HBt1.out.ext hxq3)
         have HVq:=qh (HV1.out.ext hxq3)
         clear cS cD W1 v1 v2 v3 v4 hgm bx0 bx1 bxg bt0 bt1 bt2 btg
         have cS:wq3.cell? ⟨w.heap.size+1,x.b.toNat,none⟩=some (.int .i64 (o1 x.b.toNat)):=(HVq.out.2 x.b.toNat yb).1
         have bt0:=HBq.out.at0
         have bt1:=HBq.out.at1
         have bt2:=HBq.out.at2
         have btg:=HBq.out.1
         have hgm:=HVq.out.1
         obtain ⟨v1,v2⟩:=HA1.out x.b.toNat yb
         have W1:IntKind.i64.wrap (o1 x.b.toNat+x.d)=o1 x.b.toNat+x.d:=IntWalk.i64_in _ (by omega)
         go_upto_region 17 with fail
         (refine wp_region_last prog_mixed rfl (by kernel_rfl) (by kernel_rfl) (by kernel_rfl) (by kernel_rfl) ?_;simp only [List.dropLast_cons_cons,List.dropLast_singleton];(repeat (go_big_quiet_step ((fail))));refine last_end ?_;intro ws3 hs3;dsimp only [List.getLast])
         have hxs3:Ext wq3 ws3:=exts
         have HVs:=qh (HVq.out.ext hxs3)
         have n1:ws3.cell? ⟨w.heap.size+1,x.a.toNat,none⟩=some (.int .i64 (o1 x.a.toNat)):=(HVs.out.2 x.a.toNat ya).1
         have n2:=(HVs.out.2 x.a.toNat ya).2
         clear bt0 bt1 bt2 btg cS hgm v1 v2
         have hgm:=HVs.out.1
         have HV3:=qh (show Blk (ws3.setCell ⟨w.heap.size+1,x.a.toNat,none⟩ (.int .i64 (o1 x.b.toNat+x.d))) (w.heap.size+1) j (vcC (rlx o1 x.b.toNat x.a.toNat x.d)) from by rw [Hrl.out];exact HVs.out.setV x.a.toNat (o1 x.b.toNat+x.d) ya)
         have HBt3:=qh ((HBq.out.ext hxs3).setOther (p:=⟨w.heap.size+1,x.a.toNat,none⟩) (by show wr.heap.size ≠ w.heap.size+1;omega) (.int .i64 (o1 x.b.toNat+x.d)))
         have Hbx3:=qh (((Hbx1.out.ext hxq3).ext hxs3).setOther (p:=⟨w.heap.size+1,x.a.toNat,none⟩) (by show w.heap.size ≠ w.heap.size+1;omega) (.int .i64 (o1 x.b.toNat+x.d)))
         have hx3n:Ext (w.alloc (.cells #[.slice Ap j cp,.slice (some ⟨bw,ow,none⟩) L.wy.length ct] 52)) (ws3.setCell ⟨w.heap.size+1,x.a.toNat,none⟩ (.int .i64 (o1 x.b.toNat+x.d))):=((hx1n.trans hxq3).trans hxs3).setCell (by rw [World.size_alloc];exact Nat.le_refl _) _
         clear HVs HBq HVq Hrl
         clear D1 D2
         go_wp2_with fail
         go_roundg (L.wy.length - (m+1))
         case measure=>omega
         case rel=>exact ⟨m+1,by omega,by go_num,hx3n,qh (by rw [HW1.out];unfold bfS;rw [HO1.out];exact HV3.out),qh (by
          have h9:=HA1.out.rlx (b:=x.a.toNat) yb d0 d1 (by omega)
          rw [HW1.out]
          unfold bfS
          rw [HO1.out]
          intro i hi
          have:=h9 i hi
          omega)⟩
        have D2:decide (o1 x.a.toNat < 0)=false:=decide_eq_false t2
        by_cases t3:o1 x.b.toNat+x.d < o1 x.a.toNat
        case pos =>
         have D3:decide (o1 x.b.toNat+x.d < o1 x.a.toNat)=true:=decide_eq_true t3
         have Hrl:=qh (rl_yes2 t1 t3:rlx o1 x.b.toNat x.a.toNat x.d=set1 o1 x.a.toNat (o1 x.b.toNat+x.d))
         go_upto_region 16 with fail
         (refine wp_region_onto prog_mixed (by kernel_rfl) ?_;(repeat (go_big_quiet_step ((fail))));refine onto_end ?_;intro wq3 hq3)
         have hxq3:Ext wt1 wq3:=exts
         have HBq:=qh (HBt1.out.ext hxq3)
         have HVq:=qh (HV1.out.ext hxq3)
         clear cS cD W1 v1 v2 v3 v4 hgm bx0 bx1 bxg bt0 bt1 bt2 btg
         have cS:wq3.cell? ⟨w.heap.size+1,x.b.toNat,none⟩=some (.int .i64 (o1 x.b.toNat)):=(HVq.out.2 x.b.toNat yb).1
         have bt0:=HBq.out.at0
         have bt1:=HBq.out.at1
         have bt2:=HBq.out.at2
         have btg:=HBq.out.1
         have hgm:=HVq.out.1
         obtain ⟨v1,v2⟩:=HA1.out x.b.toNat yb
         have W1:IntKind.i64.wrap (o1 x.b.toNat+x.d)=o1 x.b.toNat+x.d:=IntWalk.i64_in _ (by omega)
         go_upto_region 17 with fail
         (refine wp_region_last prog_mixed rfl (by kernel_rfl) (by kernel_rfl) (by kernel_rfl) (by kernel_rfl) ?_;simp only [List.dropLast_cons_cons,List.dropLast_singleton];(repeat (go_big_quiet_step ((fail))));refine last_end ?_;intro ws3 hs3;dsimp only [List.getLast])
         have hxs3:Ext wq3 ws3:=exts
         have HVs:=qh (HVq.out.ext hxs3)
         have n1:ws3.cell? ⟨w.heap.size+1,x.a.toNat,none⟩=some (.int .i64 (o1 x.a.toNat)):=(HVs.out.2 x.a.toNat ya).1
         have n2:=(HVs.out.2 x.a.toNat ya).2
         clear bt0 bt1 bt2 btg cS hgm v1 v2
         have hgm:=HVs.out.1
         have HV3:=qh (show Blk (ws3.setCell ⟨w.heap.size+1,x.a.toNat,none⟩ (.int .i64 (o1 x.b.toNat+x.d))) (w.heap.size+1) j (vcC (rlx o1 x.b.toNat x.a.toNat x.d)) from by rw [Hrl.out];exact HVs.out.setV x.a.toNat (o1 x.b.toNat+x.d) ya)
         have HBt3:=qh ((HBq.out.ext hxs3).setOther (p:=⟨w.heap.size+1,x.a.toNat,none⟩) (by show wr.heap.size ≠ w.heap.size+1;omega) (.int .i64 (o1 x.b.toNat+x.d)))
         have Hbx3:=qh (((Hbx1.out.ext hxq3).ext hxs3).setOther (p:=⟨w.heap.size+1,x.a.toNat,none⟩) (by show w.heap.size ≠ w.heap.size+1;omega) (.int .i64 (o1 x.b.toNat+x.d)))
         have hx3n:Ext (w.alloc (.cells #[.slice Ap j cp,.slice (some ⟨bw,ow,none⟩) L.wy.length ct] 52)) (ws3.setCell ⟨w.heap.size+1,x.a.toNat,none⟩ (.int .i64 (o1 x.b.toNat+x.d))):=((hx1n.trans hxq3).trans hxs3).setCell (by rw [World.size_alloc];exact Nat.le_refl _) _
         clear HVs HBq HVq Hrl
         clear D1 D2 D3
         go_wp2_with fail
         go_roundg (L.wy.length - (m+1))
         case measure=>omega
         case rel=>exact ⟨m+1,by omega,by go_num,hx3n,qh (by rw [HW1.out];unfold bfS;rw [HO1.out];exact HV3.out),qh (by
          have h9:=HA1.out.rlx (b:=x.a.toNat) yb d0 d1 (by omega)
          rw [HW1.out]
          unfold bfS
          rw [HO1.out]
          intro i hi
          have:=h9 i hi
          omega)⟩
        have D3:decide (o1 x.b.toNat+x.d < o1 x.a.toNat)=false:=decide_eq_false t3
        have Hrl:=qh (rl_no2 t2 t3:rlx o1 x.b.toNat x.a.toNat x.d=o1)
        go_upto_region 16 with fail
        (refine wp_region_onto prog_mixed (by kernel_rfl) ?_;(repeat (go_big_quiet_step ((fail))));refine onto_end ?_;intro wq3 hq3)
        have hxq3:Ext wt1 wq3:=exts
        have HBt3:=qh (HBt1.out.ext hxq3)
        have Hbx3:=qh (Hbx1.out.ext hxq3)
        have HV3:=qh (show Blk wq3 (w.heap.size+1) j (vcC (rlx o1 x.b.toNat x.a.toNat x.d)) from by rw [Hrl.out];exact HV1.out.ext hxq3)
        have hx3n:=hx1n.trans hxq3
        clear cS cD W1 v1 v2 v3 v4 hgm bx0 bx1 bxg bt0 bt1 bt2 btg
        clear Hrl
        clear D1 D2 D3
        go_wp2_with fail
        go_roundg (L.wy.length - (m+1))
        case measure=>omega
        case rel=>exact ⟨m+1,by omega,by go_num,hx3n,qh (by rw [HW1.out];unfold bfS;rw [HO1.out];exact HV3.out),qh (by
         have h9:=HA1.out.rlx (b:=x.a.toNat) yb d0 d1 (by omega)
         rw [HW1.out]
         unfold bfS
         rw [HO1.out]
         intro i hi
         have:=h9 i hi
         omega)⟩
       have D2:decide (o x.b.toNat < 0)=false:=decide_eq_false t2
       by_cases t3:o x.a.toNat+x.d < o x.b.toNat
       case pos =>
        have D3:decide (o x.a.toNat+x.d < o x.b.toNat)=true:=decide_eq_true t3
        have Hrl:=qh (rl_yes2 t1 t3:rlx o x.a.toNat x.b.toNat x.d=set1 o x.b.toNat (o x.a.toNat+x.d))
        go_upto_region 14 with fail
        (refine wp_region_onto prog_mixed (by kernel_rfl) ?_;(repeat (go_big_quiet_step ((fail))));refine onto_end ?_;intro wq1 hq1)
        have hxq1:Ext wr wq1:=exts
        have HBq:=qh (HBt.out.ext (show Ext (wr.alloc (.cells #[.int .i64 x.a,.int .i64 x.b,.int .i64 x.d] 231)) wq1 from exts))
        have HVq:=qh (HV.out.ext hxq1)
        clear cS cD W1 v1 v2 v3 v4 hgm hgm1 bx0 bx1 bxg bxg1 h1 h2 h3
        have cS:wq1.cell? ⟨w.heap.size+1,x.a.toNat,none⟩=some (.int .i64 (o x.a.toNat)):=(HVq.out.2 x.a.toNat ya).1
        have bt0:=HBq.out.at0
        have bt1:=HBq.out.at1
        have bt2:=HBq.out.at2
        have btg:=HBq.out.1
        have hgm:=HVq.out.1
        obtain ⟨v1,v2⟩:=HA.out x.a.toNat ya
        have W1:IntKind.i64.wrap (o x.a.toNat+x.d)=o x.a.toNat+x.d:=IntWalk.i64_in _ (by omega)
        go_upto_region 15 with fail
        (refine wp_region_last prog_mixed rfl (by kernel_rfl) (by kernel_rfl) (by kernel_rfl) (by kernel_rfl) ?_;simp only [List.dropLast_cons_cons,List.dropLast_singleton];(repeat (go_big_quiet_step ((fail))));refine last_end ?_;intro ws1 hs1;dsimp only [List.getLast])
        have hxs1:Ext wq1 ws1:=exts
        have HVs:=qh (HVq.out.ext hxs1)
        have n1:ws1.cell? ⟨w.heap.size+1,x.b.toNat,none⟩=some (.int .i64 (o x.b.toNat)):=(HVs.out.2 x.b.toNat yb).1
        have n2:=(HVs.out.2 x.b.toNat yb).2
        clear bt0 bt1 bt2 btg cS hgm v1 v2
        have hgm:=HVs.out.1
        have HV1:=qh (show Blk (ws1.setCell ⟨w.heap.size+1,x.b.toNat,none⟩ (.int .i64 (o x.a.toNat+x.d))) (w.heap.size+1) j (vcC (rlx o x.a.toNat x.b.toNat x.d)) from by rw [Hrl.out];exact HVs.out.setV x.b.toNat (o x.a.toNat+x.d) yb)
        have HBt1:=qh ((HBq.out.ext hxs1).setOther (p:=⟨w.heap.size+1,x.b.toNat,none⟩) (by show wr.heap.size ≠ w.heap.size+1;omega) (.int .i64 (o x.a.toNat+x.d)))
        have Hbx1:=qh (((Hbx.out.ext hxq1).ext hxs1).setOther (p:=⟨w.heap.size+1,x.b.toNat,none⟩) (by show w.heap.size ≠ w.heap.size+1;omega) (.int .i64 (o x.a.toNat+x.d)))
        have hx1n:Ext (w.alloc (.cells #[.slice Ap j cp,.slice (some ⟨bw,ow,none⟩) L.wy.length ct] 52)) (ws1.setCell ⟨w.heap.size+1,x.b.toNat,none⟩ (.int .i64 (o x.a.toNat+x.d))):=((hxm.trans hxq1).trans hxs1).setCell (by rw [World.size_alloc];exact Nat.le_refl _) _
        clear HVs HBq HVq Hrl
        clear D1 D2 D3
        go_upto_region 16 with fail
        clear n1 n2 W1 hgm
        generalize (ws1.setCell ⟨w.heap.size+1,x.b.toNat,none⟩ (.int .i64 (o x.a.toNat+x.d)))=wt1 at *
        have HA1:=qh (HA.out.rlx (b:=x.b.toNat) ya d0 d1 (by omega))
        obtain ⟨o1,ho1⟩:∃ o', rlx o x.a.toNat x.b.toNat x.d=o' := ⟨_,rfl⟩
        have HO1:=qh ho1
        rw [ho1] at HV1 HA1
        clear ho1
        obtain ⟨v1,v2⟩:=HA1.out x.b.toNat yb
        obtain ⟨v3,v4⟩:=HA1.out x.a.toNat ya
        have cS:wt1.cell? ⟨w.heap.size+1,x.b.toNat,none⟩=some (.int .i64 (o1 x.b.toNat)):=(HV1.out.2 x.b.toNat yb).1
        have cD:wt1.cell? ⟨w.heap.size+1,x.a.toNat,none⟩=some (.int .i64 (o1 x.a.toNat)):=(HV1.out.2 x.a.toNat ya).1
        have W1:IntKind.i64.wrap (o1 x.b.toNat+x.d)=o1 x.b.toNat+x.d:=IntWalk.i64_in _ (by omega)
        have bx0:=Hbx1.out.at0
        have bx1:=Hbx1.out.at1
        have bxg:=Hbx1.out.1
        have bt0:=HBt1.out.at0
        have bt1:=HBt1.out.at1
        have bt2:=HBt1.out.at2
        have btg:=HBt1.out.1
        have hgm:=HV1.out.1
        by_cases t1:0 ≤ o1 x.b.toNat
        case neg =>
         have D1:decide (0 ≤ o1 x.b.toNat)=false:=decide_eq_false t1
         have Hrl:=qh (rl_no1 t1:rlx o1 x.b.toNat x.a.toNat x.d=o1)
         go_upto_region 16 with fail
         (refine wp_region_onto prog_mixed (by kernel_rfl) ?_;(repeat (go_big_quiet_step ((fail))));refine onto_end ?_;intro wq4 hq4)
         have hxq4:Ext wt1 wq4:=exts
         have HBt4:=qh (HBt1.out.ext hxq4)
         have Hbx4:=qh (Hbx1.out.ext hxq4)
         have HV4:=qh (show Blk wq4 (w.heap.size+1) j (vcC (rlx o1 x.b.toNat x.a.toNat x.d)) from by rw [Hrl.out];exact HV1.out.ext hxq4)
         have hx4n:=hx1n.trans hxq4
         clear cS cD W1 v1 v2 v3 v4 hgm bx0 bx1 bxg bt0 bt1 bt2 btg
         clear Hrl
         clear D1
         go_wp2_with fail
         go_roundg (L.wy.length - (m+1))
         case measure=>omega
         case rel=>exact ⟨m+1,by omega,by go_num,hx4n,qh (by rw [HW1.out];unfold bfS;rw [HO1.out];exact HV4.out),qh (by
          have h9:=HA1.out.rlx (b:=x.a.toNat) yb d0 d1 (by omega)
          rw [HW1.out]
          unfold bfS
          rw [HO1.out]
          intro i hi
          have:=h9 i hi
          omega)⟩
        have D1:decide (0 ≤ o1 x.b.toNat)=true:=decide_eq_true t1
        by_cases t2:o1 x.a.toNat < 0
        case pos =>
         have D2:decide (o1 x.a.toNat < 0)=true:=decide_eq_true t2
         have Hrl:=qh (rl_yes1 t1 t2:rlx o1 x.b.toNat x.a.toNat x.d=set1 o1 x.a.toNat (o1 x.b.toNat+x.d))
         go_upto_region 16 with fail
         (refine wp_region_onto prog_mixed (by kernel_rfl) ?_;(repeat (go_big_quiet_step ((fail))));refine onto_end ?_;intro wq4 hq4)
         have hxq4:Ext wt1 wq4:=exts
         have HBq:=qh (HBt1.out.ext hxq4)
         have HVq:=qh (HV1.out.ext hxq4)
         clear cS cD W1 v1 v2 v3 v4 hgm bx0 bx1 bxg bt0 bt1 bt2 btg
         have cS:wq4.cell? ⟨w.heap.size+1,x.b.toNat,none⟩=some (.int .i64 (o1 x.b.toNat)):=(HVq.out.2 x.b.toNat yb).1
         have bt0:=HBq.out.at0
         have bt1:=HBq.out.at1
         have bt2:=HBq.out.at2
         have btg:=HBq.out.1
         have hgm:=HVq.out.1
         obtain ⟨v1,v2⟩:=HA1.out x.b.toNat yb
         have W1:IntKind.i64.wrap (o1 x.b.toNat+x.d)=o1 x.b.toNat+x.d:=IntWalk.i64_in _ (by omega)
         go_upto_region 17 with fail
         (refine wp_region_last prog_mixed rfl (by kernel_rfl) (by kernel_rfl) (by kernel_rfl) (by kernel_rfl) ?_;simp only [List.dropLast_cons_cons,List.dropLast_singleton];(repeat (go_big_quiet_step ((fail))));refine last_end ?_;intro ws4 hs4;dsimp only [List.getLast])
         have hxs4:Ext wq4 ws4:=exts
         have HVs:=qh (HVq.out.ext hxs4)
         have n1:ws4.cell? ⟨w.heap.size+1,x.a.toNat,none⟩=some (.int .i64 (o1 x.a.toNat)):=(HVs.out.2 x.a.toNat ya).1
         have n2:=(HVs.out.2 x.a.toNat ya).2
         clear bt0 bt1 bt2 btg cS hgm v1 v2
         have hgm:=HVs.out.1
         have HV4:=qh (show Blk (ws4.setCell ⟨w.heap.size+1,x.a.toNat,none⟩ (.int .i64 (o1 x.b.toNat+x.d))) (w.heap.size+1) j (vcC (rlx o1 x.b.toNat x.a.toNat x.d)) from by rw [Hrl.out];exact HVs.out.setV x.a.toNat (o1 x.b.toNat+x.d) ya)
         have HBt4:=qh ((HBq.out.ext hxs4).setOther (p:=⟨w.heap.size+1,x.a.toNat,none⟩) (by show wr.heap.size ≠ w.heap.size+1;omega) (.int .i64 (o1 x.b.toNat+x.d)))
         have Hbx4:=qh (((Hbx1.out.ext hxq4).ext hxs4).setOther (p:=⟨w.heap.size+1,x.a.toNat,none⟩) (by show w.heap.size ≠ w.heap.size+1;omega) (.int .i64 (o1 x.b.toNat+x.d)))
         have hx4n:Ext (w.alloc (.cells #[.slice Ap j cp,.slice (some ⟨bw,ow,none⟩) L.wy.length ct] 52)) (ws4.setCell ⟨w.heap.size+1,x.a.toNat,none⟩ (.int .i64 (o1 x.b.toNat+x.d))):=((hx1n.trans hxq4).trans hxs4).setCell (by rw [World.size_alloc];exact Nat.le_refl _) _
         clear HVs HBq HVq Hrl
         clear D1 D2
         go_wp2_with fail
         go_roundg (L.wy.length - (m+1))
         case measure=>omega
         case rel=>exact ⟨m+1,by omega,by go_num,hx4n,qh (by rw [HW1.out];unfold bfS;rw [HO1.out];exact HV4.out),qh (by
          have h9:=HA1.out.rlx (b:=x.a.toNat) yb d0 d1 (by omega)
          rw [HW1.out]
          unfold bfS
          rw [HO1.out]
          intro i hi
          have:=h9 i hi
          omega)⟩
        have D2:decide (o1 x.a.toNat < 0)=false:=decide_eq_false t2
        by_cases t3:o1 x.b.toNat+x.d < o1 x.a.toNat
        case pos =>
         have D3:decide (o1 x.b.toNat+x.d < o1 x.a.toNat)=true:=decide_eq_true t3
         have Hrl:=qh (rl_yes2 t1 t3:rlx o1 x.b.toNat x.a.toNat x.d=set1 o1 x.a.toNat (o1 x.b.toNat+x.d))
         go_upto_region 16 with fail
         (refine wp_region_onto prog_mixed (by kernel_rfl) ?_;(repeat (go_big_quiet_step ((fail))));refine onto_end ?_;intro wq4 hq4)
         have hxq4:Ext wt1 wq4:=exts
         have HBq:=qh (HBt1.out.ext hxq4)
         have HVq:=qh (HV1.out.ext hxq4)
         clear cS cD W1 v1 v2 v3 v4 hgm bx0 bx1 bxg bt0 bt1 bt2 btg
         have cS:wq4.cell? ⟨w.heap.size+1,x.b.toNat,none⟩=some (.int .i64 (o1 x.b.toNat)):=(HVq.out.2 x.b.toNat yb).1
         have bt0:=HBq.out.at0
         have bt1:=HBq.out.at1
         have bt2:=HBq.out.at2
         have btg:=HBq.out.1
         have hgm:=HVq.out.1
         obtain ⟨v1,v2⟩:=HA1.out x.b.toNat yb
         have W1:IntKind.i64.wrap (o1 x.b.toNat+x.d)=o1 x.b.toNat+x.d:=IntWalk.i64_in _ (by omega)
         go_upto_region 17 with fail
         (refine wp_region_last prog_mixed rfl (by kernel_rfl) (by kernel_rfl) (by kernel_rfl) (by kernel_rfl) ?_;simp only [List.dropLast_cons_cons,List.dropLast_singleton];(repeat (go_big_quiet_step ((fail))));refine last_end ?_;intro ws4 hs4;dsimp only [List.getLast])
         have hxs4:Ext wq4 ws4:=exts
         have HVs:=qh (HVq.out.ext hxs4)
         have n1:ws4.cell? ⟨w.heap.size+1,x.a.toNat,none⟩=some (.int .i64 (o1 x.a.toNat)):=(HVs.out.2 x.a.toNat ya).1
         have n2:=(HVs.out.2 x.a.toNat ya).2
         clear bt0 bt1 bt2 btg cS hgm v1 v2
         have hgm:=HVs.out.1
         have HV4:=qh (show Blk (ws4.setCell ⟨w.heap.size+1,x.a.toNat,none⟩ (.int .i64 (o1 x.b.toNat+x.d))) (w.heap.size+1) j (vcC (rlx o1 x.b.toNat x.a.toNat x.d)) from by rw [Hrl.out];exact HVs.out.setV x.a.toNat (o1 x.b.toNat+x.d) ya)
         have HBt4:=qh ((HBq.out.ext hxs4).setOther (p:=⟨w.heap.size+1,x.a.toNat,none⟩) (by show wr.heap.size ≠ w.heap.size+1;omega) (.int .i64 (o1 x.b.toNat+x.d)))
         have Hbx4:=qh (((Hbx1.out.ext hxq4).ext hxs4).setOther (p:=⟨w.heap.size+1,x.a.toNat,none⟩) (by show w.heap.size ≠ w.heap.size+1;omega) (.int .i64 (o1 x.b.toNat+x.d)))
         have hx4n:Ext (w.alloc (.cells #[.slice Ap j cp,.slice (some ⟨bw,ow,none⟩) L.wy.length ct] 52)) (ws4.setCell ⟨w.heap.size+1,x.a.toNat,none⟩ (.int .i64 (o1 x.b.toNat+x.d))):=((hx1n.trans hxq4).trans hxs4).setCell (by rw [World.size_alloc];exact Nat.le_refl _) _
         clear HVs HBq HVq Hrl
         clear D1 D2 D3
         go_wp2_with fail
         go_roundg (L.wy.length - (m+1))
         case measure=>omega
         case rel=>exact ⟨m+1,by omega,by go_num,hx4n,qh (by rw [HW1.out];unfold bfS;rw [HO1.out];exact HV4.out),qh (by
          have h9:=HA1.out.rlx (b:=x.a.toNat) yb d0 d1 (by omega)
          rw [HW1.out]
          unfold bfS
          rw [HO1.out]
          intro i hi
          have:=h9 i hi
          omega)⟩
        have D3:decide (o1 x.b.toNat+x.d < o1 x.a.toNat)=false:=decide_eq_false t3
        have Hrl:=qh (rl_no2 t2 t3:rlx o1 x.b.toNat x.a.toNat x.d=o1)
        go_upto_region 16 with fail
        (refine wp_region_onto prog_mixed (by kernel_rfl) ?_;(repeat (go_big_quiet_step ((fail))));refine onto_end ?_;intro wq4 hq4)
        have hxq4:Ext wt1 wq4:=exts
        have HBt4:=qh (HBt1.out.ext hxq4)
        have Hbx4:=qh (Hbx1.out.ext hxq4)
        have HV4:=qh (show Blk wq4 (w.heap.size+1) j (vcC (rlx o1 x.b.toNat x.a.toNat x.d)) from by rw [Hrl.out];exact HV1.out.ext hxq4)
        have hx4n:=hx1n.trans hxq4
        clear cS cD W1 v1 v2 v3 v4 hgm bx0 bx1 bxg bt0 bt1 bt2 btg
        clear Hrl
        clear D1 D2 D3
        go_wp2_with fail
        go_roundg (L.wy.length - (m+1))
        case measure=>omega
        case rel=>exact ⟨m+1,by omega,by go_num,hx4n,qh (by rw [HW1.out];unfold bfS;rw [HO1.out];exact HV4.out),qh (by
         have h9:=HA1.out.rlx (b:=x.a.toNat) yb d0 d1 (by omega)
         rw [HW1.out]
         unfold bfS
         rw [HO1.out]
         intro i hi
         have:=h9 i hi
         omega)⟩
       have D3:decide (o x.a.toNat+x.d < o x.b.toNat)=false:=decide_eq_false t3
       have Hrl:=qh (rl_no2 t2 t3:rlx o x.a.toNat x.b.toNat x.d=o)
       go_upto_region 14 with fail
       (refine wp_region_onto prog_mixed (by kernel_rfl) ?_;(repeat (go_big_quiet_step ((fail))));refine onto_end ?_;intro wq1 hq1)
       have hxq1:Ext wr wq1:=exts
       have HBt1:=qh (HBt.out.ext (show Ext (wr.alloc (.cells #[.int .i64 x.a,.int .i64 x.b,.int .i64 x.d] 231)) wq1 from exts))
       have Hbx1:=qh (Hbx.out.ext hxq1)
       have HV1:=qh (show Blk wq1 (w.heap.size+1) j (vcC (rlx o x.a.toNat x.b.toNat x.d)) from by rw [Hrl.out];exact HV.out.ext hxq1)
       have hx1n:=hxm.trans hxq1
       clear cS cD W1 v1 v2 v3 v4 hgm hgm1 bx0 bx1 bxg bxg1 h1 h2 h3
       clear Hrl
       clear D1 D2 D3
       have HA1:=qh (HA.out.rlx (b:=x.b.toNat) ya d0 d1 (by omega))
       obtain ⟨o1,ho1⟩:∃ o', rlx o x.a.toNat x.b.toNat x.d=o' := ⟨_,rfl⟩
       have HO1:=qh ho1
       rw [ho1] at HV1 HA1
       clear ho1
       obtain ⟨v1,v2⟩:=HA1.out x.b.toNat yb
       obtain ⟨v3,v4⟩:=HA1.out x.a.toNat ya
       have cS:wq1.cell? ⟨w.heap.size+1,x.b.toNat,none⟩=some (.int .i64 (o1 x.b.toNat)):=(HV1.out.2 x.b.toNat yb).1
       have cD:wq1.cell? ⟨w.heap.size+1,x.a.toNat,none⟩=some (.int .i64 (o1 x.a.toNat)):=(HV1.out.2 x.a.toNat ya).1
       have W1:IntKind.i64.wrap (o1 x.b.toNat+x.d)=o1 x.b.toNat+x.d:=IntWalk.i64_in _ (by omega)
       have bx0:=Hbx1.out.at0
       have bx1:=Hbx1.out.at1
       have bxg:=Hbx1.out.1
       have bt0:=HBt1.out.at0
       have bt1:=HBt1.out.at1
       have bt2:=HBt1.out.at2
       have btg:=HBt1.out.1
       have hgm:=HV1.out.1
       by_cases t1:0 ≤ o1 x.b.toNat
       case neg =>
        have D1:decide (0 ≤ o1 x.b.toNat)=false:=decide_eq_false t1
        have Hrl:=qh (rl_no1 t1:rlx o1 x.b.toNat x.a.toNat x.d=o1)
        go_upto_region 16 with fail
        (refine wp_region_onto prog_mixed (by kernel_rfl) ?_;(repeat (go_big_quiet_step ((fail))));refine onto_end ?_;intro wq5 hq5)
        have hxq5:Ext wq1 wq5:=exts
        have HBt5:=qh (HBt1.out.ext hxq5)
        have Hbx5:=qh (Hbx1.out.ext hxq5)
        have HV5:=qh (show Blk wq5 (w.heap.size+1) j (vcC (rlx o1 x.b.toNat x.a.toNat x.d)) from by rw [Hrl.out];exact HV1.out.ext hxq5)
        have hx5n:=hx1n.trans hxq5
        clear cS cD W1 v1 v2 v3 v4 hgm bx0 bx1 bxg bt0 bt1 bt2 btg
        clear Hrl
        clear D1
        go_wp2_with fail
        go_roundg (L.wy.length - (m+1))
        case measure=>omega
        case rel=>exact ⟨m+1,by omega,by go_num,hx5n,qh (by rw [HW1.out];unfold bfS;rw [HO1.out];exact HV5.out),qh (by
         have h9:=HA1.out.rlx (b:=x.a.toNat) yb d0 d1 (by omega)
         rw [HW1.out]
         unfold bfS
         rw [HO1.out]
         intro i hi
         have:=h9 i hi
         omega)⟩
       have D1:decide (0 ≤ o1 x.b.toNat)=true:=decide_eq_true t1
       by_cases t2:o1 x.a.toNat < 0
       case pos =>
        have D2:decide (o1 x.a.toNat < 0)=true:=decide_eq_true t2
        have Hrl:=qh (rl_yes1 t1 t2:rlx o1 x.b.toNat x.a.toNat x.d=set1 o1 x.a.toNat (o1 x.b.toNat+x.d))
        go_upto_region 16 with fail
        (refine wp_region_onto prog_mixed (by kernel_rfl) ?_;(repeat (go_big_quiet_step ((fail))));refine onto_end ?_;intro wq5 hq5)
        have hxq5:Ext wq1 wq5:=exts
        have HBq:=qh (HBt1.out.ext hxq5)
        have HVq:=qh (HV1.out.ext hxq5)
        clear cS cD W1 v1 v2 v3 v4 hgm bx0 bx1 bxg bt0 bt1 bt2 btg
        have cS:wq5.cell? ⟨w.heap.size+1,x.b.toNat,none⟩=some (.int .i64 (o1 x.b.toNat)):=(HVq.out.2 x.b.toNat yb).1
        have bt0:=HBq.out.at0
        have bt1:=HBq.out.at1
        have bt2:=HBq.out.at2
        have btg:=HBq.out.1
        have hgm:=HVq.out.1
        obtain ⟨v1,v2⟩:=HA1.out x.b.toNat yb
        have W1:IntKind.i64.wrap (o1 x.b.toNat+x.d)=o1 x.b.toNat+x.d:=IntWalk.i64_in _ (by omega)
        go_upto_region 17 with fail
        (refine wp_region_last prog_mixed rfl (by kernel_rfl) (by kernel_rfl) (by kernel_rfl) (by kernel_rfl) ?_;simp only [List.dropLast_cons_cons,List.dropLast_singleton];(repeat (go_big_quiet_step ((fail))));refine last_end ?_;intro ws5 hs5;dsimp only [List.getLast])
        have hxs5:Ext wq5 ws5:=exts
        have HVs:=qh (HVq.out.ext hxs5)
        have n1:ws5.cell? ⟨w.heap.size+1,x.a.toNat,none⟩=some (.int .i64 (o1 x.a.toNat)):=(HVs.out.2 x.a.toNat ya).1
        have n2:=(HVs.out.2 x.a.toNat ya).2
        clear bt0 bt1 bt2 btg cS hgm v1 v2
        have hgm:=HVs.out.1
        have HV5:=qh (show Blk (ws5.setCell ⟨w.heap.size+1,x.a.toNat,none⟩ (.int .i64 (o1 x.b.toNat+x.d))) (w.heap.size+1) j (vcC (rlx o1 x.b.toNat x.a.toNat x.d)) from by rw [Hrl.out];exact HVs.out.setV x.a.toNat (o1 x.b.toNat+x.d) ya)
        have HBt5:=qh ((HBq.out.ext hxs5).setOther (p:=⟨w.heap.size+1,x.a.toNat,none⟩) (by show wr.heap.size ≠ w.heap.size+1;omega) (.int .i64 (o1 x.b.toNat+x.d)))
        have Hbx5:=qh (((Hbx1.out.ext hxq5).ext hxs5).setOther (p:=⟨w.heap.size+1,x.a.toNat,none⟩) (by show w.heap.size ≠ w.heap.size+1;omega) (.int .i64 (o1 x.b.toNat+x.d)))
        have hx5n:Ext (w.alloc (.cells #[.slice Ap j cp,.slice (some ⟨bw,ow,none⟩) L.wy.length ct] 52)) (ws5.setCell ⟨w.heap.size+1,x.a.toNat,none⟩ (.int .i64 (o1 x.b.toNat+x.d))):=((hx1n.trans hxq5).trans hxs5).setCell (by rw [World.size_alloc];exact Nat.le_refl _) _
        clear HVs HBq HVq Hrl
        clear D1 D2
        go_wp2_with fail
        go_roundg (L.wy.length - (m+1))
        case measure=>omega
        case rel=>exact ⟨m+1,by omega,by go_num,hx5n,qh (by rw [HW1.out];unfold bfS;rw [HO1.out];exact HV5.out),qh (by
         have h9:=HA1.out.rlx (b:=x.a.toNat) yb d0 d1 (by omega)
         rw [HW1.out]
         unfold bfS
         rw [HO1.out]
         intro i hi
         have:=h9 i hi
         omega)⟩
       have D2:decide (o1 x.a.toNat < 0)=false:=decide_eq_false t2
       by_cases t3:o1 x.b.toNat+x.d < o1 x.a.toNat
       case pos =>
        have D3:decide (o1 x.b.toNat+x.d < o1 x.a.toNat)=true:=decide_eq_true t3
        have Hrl:=qh (rl_yes2 t1 t3:rlx o1 x.b.toNat x.a.toNat x.d=set1 o1 x.a.toNat (o1 x.b.toNat+x.d))
        go_upto_region 16 with fail
        (refine wp_region_onto prog_mixed (by kernel_rfl) ?_;(repeat (go_big_quiet_step ((fail))));refine onto_end ?_;intro wq5 hq5)
        have hxq5:Ext wq1 wq5:=exts
        have HBq:=qh (HBt1.out.ext hxq5)
        have HVq:=qh (HV1.out.ext hxq5)
        clear cS cD W1 v1 v2 v3 v4 hgm bx0 bx1 bxg bt0 bt1 bt2 btg
        have cS:wq5.cell? ⟨w.heap.size+1,x.b.toNat,none⟩=some (.int .i64 (o1 x.b.toNat)):=(HVq.out.2 x.b.toNat yb).1
        have bt0:=HBq.out.at0
        have bt1:=HBq.out.at1
        have bt2:=HBq.out.at2
        have btg:=HBq.out.1
        have hgm:=HVq.out.1
        obtain ⟨v1,v2⟩:=HA1.out x.b.toNat yb
        have W1:IntKind.i64.wrap (o1 x.b.toNat+x.d)=o1 x.b.toNat+x.d:=IntWalk.i64_in _ (by omega)
        go_upto_region 17 with fail
        (refine wp_region_last prog_mixed rfl (by kernel_rfl) (by kernel_rfl) (by kernel_rfl) (by kernel_rfl) ?_;simp only [List.dropLast_cons_cons,List.dropLast_singleton];(repeat (go_big_quiet_step ((fail))));refine last_end ?_;intro ws5 hs5;dsimp only [List.getLast])
        have hxs5:Ext wq5 ws5:=exts
        have HVs:=qh (HVq.out.ext hxs5)
        have n1:ws5.cell? ⟨w.heap.size+1,x.a.toNat,none⟩=some (.int .i64 (o1 x.a.toNat)):=(HVs.out.2 x.a.toNat ya).1
        have n2:=(HVs.out.2 x.a.toNat ya).2
        clear bt0 bt1 bt2 btg cS hgm v1 v2
        have hgm:=HVs.out.1
        have HV5:=qh (show Blk (ws5.setCell ⟨w.heap.size+1,x.a.toNat,none⟩ (.int .i64 (o1 x.b.toNat+x.d))) (w.heap.size+1) j (vcC (rlx o1 x.b.toNat x.a.toNat x.d)) from by rw [Hrl.out];exact HVs.out.setV x.a.toNat (o1 x.b.toNat+x.d) ya)
        have HBt5:=qh ((HBq.out.ext hxs5).setOther (p:=⟨w.heap.size+1,x.a.toNat,none⟩) (by show wr.heap.size ≠ w.heap.size+1;omega) (.int .i64 (o1 x.b.toNat+x.d)))
        have Hbx5:=qh (((Hbx1.out.ext hxq5).ext hxs5).setOther (p:=⟨w.heap.size+1,x.a.toNat,none⟩) (by show w.heap.size ≠ w.heap.size+1;omega) (.int .i64 (o1 x.b.toNat+x.d)))
        have hx5n:Ext (w.alloc (.cells #[.slice Ap j cp,.slice (some ⟨bw,ow,none⟩) L.wy.length ct] 52)) (ws5.setCell ⟨w.heap.size+1,x.a.toNat,none⟩ (.int .i64 (o1 x.b.toNat+x.d))):=((hx1n.trans hxq5).trans hxs5).setCell (by rw [World.size_alloc];exact Nat.le_refl _) _
        clear HVs HBq HVq Hrl
        clear D1 D2 D3
        go_wp2_with fail
        go_roundg (L.wy.length - (m+1))
        case measure=>omega
        case rel=>exact ⟨m+1,by omega,by go_num,hx5n,qh (by rw [HW1.out];unfold bfS;rw [HO1.out];exact HV5.out),qh (by
         have h9:=HA1.out.rlx (b:=x.a.toNat) yb d0 d1 (by omega)
         rw [HW1.out]
         unfold bfS
         rw [HO1.out]
         intro i hi
         have:=h9 i hi
         omega)⟩
       have D3:decide (o1 x.b.toNat+x.d < o1 x.a.toNat)=false:=decide_eq_false t3
       have Hrl:=qh (rl_no2 t2 t3:rlx o1 x.b.toNat x.a.toNat x.d=o1)
       go_upto_region 16 with fail
       (refine wp_region_onto prog_mixed (by kernel_rfl) ?_;(repeat (go_big_quiet_step ((fail))));refine onto_end ?_;intro wq5 hq5)
       have hxq5:Ext wq1 wq5:=exts
       have HBt5:=qh (HBt1.out.ext hxq5)
       have Hbx5:=qh (Hbx1.out.ext hxq5)
       have HV5:=qh (show Blk wq5 (w.heap.size+1) j (vcC (rlx o1 x.b.toNat x.a.toNat x.d)) from by rw [Hrl.out];exact HV1.out.ext hxq5)
       have hx5n:=hx1n.trans hxq5
       clear cS cD W1 v1 v2 v3 v4 hgm bx0 bx1 bxg bt0 bt1 bt2 btg
       clear Hrl
       clear D1 D2 D3
       go_wp2_with fail
       go_roundg (L.wy.length - (m+1))
       case measure=>omega
       case rel=>exact ⟨m+1,by omega,by go_num,hx5n,qh (by rw [HW1.out];unfold bfS;rw [HO1.out];exact HV5.out),qh (by
        have h9:=HA1.out.rlx (b:=x.a.toNat) yb d0 d1 (by omega)
        rw [HW1.out]
        unfold bfS
        rw [HO1.out]
        intro i hi
        have:=h9 i hi
        omega)⟩
      ·obtain rfl:m=L.wy.length:=by omega
       have hmi:¬ (L.wy.length:Int) < (L.wy.length:Int):=by omega
       go_wp2_with fail
       go_roundg (j - (r+1))
       case measure=>omega
       case rel=>exact ⟨r+1,by omega,by go_num,hxm,qh (by rw [HO1.out];exact HV.out),qh (by rw [HO1.out];intro i hi;have:=HA.out i hi;omega)⟩
    ·obtain rfl:r=j:=by omega
     have hri:¬ (r:Int) < (r:Int):=by omega
     have h9:=qh (show Blk wr (w.heap.size+1) r (vcC (frmV r L.wy a.toNat)) from HV.out)
     go_wp2_with fail
     go_ret
     exact ⟨_,rfl,exts,by omega,h9.out.ext exts⟩
end Go.Proofs.YtechbeegbhlppaaGreatDoor
