/- Texts merged (a claim holds at most sixty files): Vf, Vg, Vl, Vn, Vp, Vh, Vm, Vi. -/
import Derived.Test.YtechbeegbhlppaaGreatDoorS2Qd
import Derived.Test.YtechbeegbhlppaaGreatDoorS2Ri
import Derived.Deep.RegionLaw
import Derived.Deep.RegionHeld3
import Derived.Deep.Cut
import Derived.Test.YtechbeegbhlppaaGreatDoorS2Ka
namespace Go.Proofs.YtechbeegbhlppaaGreatDoor
set_option linter.unusedVariables false
set_option linter.unusedSimpArgs false
open Go.RowKit
attribute [local go_sem] cell_onto
set_option maxHeartbeats 1000000 in
theorem sort_Search (N K:Nat) (hK:K ≤ N) (hN:N ≤ 100000) (g:Nat) (caps:Array Value) (w:World)
  (hg:∀ (args:Array Value) (w:World),(callFunc g args).run Tryz.prog w=.ok (.enter g args) w)
  (hf:∀ (i:Nat) (w' : World),i < N → Ext w w' → Calls Tryz.prog g (#[.int .i64 (i:Int)] ++ caps) w' (RetX (.bool (decide (K ≤ i))) w')) :
  Calls Tryz.prog 246 #[.int .i64 (N:Int),.func (.func g) #[] caps] w (RetX (.int .i64 (K:Int)) w):=by
 have Hf:=qh hf
 clear hf
 go_enter Tryz.func246,Tryz.ntmps246
 go_wp2_with fail
 go_loopg [5,6,7] N (fun k a b c wr=>∃ i j:Nat,j - i ≤ k∧a=.int .i64 (i:Int)∧b=.int .i64 (j:Int)∧i ≤ K∧K ≤ j∧j ≤ N∧Ext w wr)
 case atStart=>exact ⟨0,N,by omega,rfl,rfl,by omega,hK,Nat.le_refl _,exts⟩
 case round =>
  obtain ⟨i,j,hk,rfl,rfl,hi,hj,hjN,hx⟩:=hrel
  by_cases hlt:i < j
  ·have hij:(i:Int) < (j:Int):=by omega
   have W1:IntKind.i64.wrap ((i:Int)+(j:Int))=(i:Int)+(j:Int):=IntWalk.i64_in _ (by omega)
   go_wp2_with fail
   rw [show ((i:Int)+(j:Int)) / 2=(((i+j) / 2:Nat):Int) by omega]
   refine (Hf.out ((i+j) / 2) wr (by omega) hx).mono ?_
   rintro e w1 ⟨rfl,hx1⟩
   by_cases hm:K ≤ (i+j) / 2
   ·have D:decide (K ≤ (i+j) / 2)=true:=decide_eq_true hm
    rw [D]
    have Hm:=qh hm
    clear hm
    go_wp2_with fail
    go_roundg ((i+j) / 2 - i)
    case measure=>omega
    case rel=>exact ⟨i,(i+j) / 2,by omega,rfl,rfl,hi,Hm.out,by omega,exts⟩
   ·have D:decide (K ≤ (i+j) / 2)=false:=decide_eq_false hm
    have W2:IntKind.i64.wrap ((((i+j) / 2:Nat):Int)+1)=(((i+j) / 2+1:Nat):Int):=by rw [IntWalk.i64_in _ (by omega)];omega
    rw [D]
    have Hm:=qh hm
    clear hm
    go_wp2_with fail
    go_roundg (j - ((i+j) / 2+1))
    case measure=>omega
    case rel=>exact ⟨(i+j) / 2+1,j,by omega,rfl,rfl,by have:=Hm.out;omega,hj,hjN,exts⟩
  ·have hij:¬ (i:Int) < (j:Int):=by omega
   obtain rfl:i=K:=by omega
   go_wp2_with fail
   go_ret
   exact ⟨rfl,exts⟩
theorem too_late {n:Int} (h:0 ≤ n) (i:Nat):(n < nyO ((i:Int)+2)) ↔ (yrO n - 1).toNat ≤ i:=by
 have h1:=yr_bd h
 have h2:=yr_pos h
 constructor
 ·intro h3
  by_cases e:(i:Int)+2 ≤ yrO n
  ·by_cases e2:(i:Int)+2=yrO n
   ·rw [e2] at h3;omega
   ·have:=ny_lt (show 1 ≤ (i:Int)+2 by omega) (show (i:Int)+2 < yrO n by omega);omega
  ·omega
 ·intro h3
  by_cases e:yrO n+1=(i:Int)+2
  ·rw [← e];omega
  ·have:=ny_lt (show 1 ≤ yrO n+1 by omega) (show yrO n+1 < (i:Int)+2 by omega);omega
set_option maxHeartbeats 1000000 in
theorem impl_dateOf_f (n:Int) (i:Nat) (hn:0 ≤ n∧n ≤ 730499) (hi:i < 2000) (g1 g2:Nat) (w:World) (h1:g1 < w.heap.size) (h2:g2 < w.heap.size) (c1:w.cell? ⟨g1,0,none⟩=some (.bool false)) (c2:w.cell? ⟨g2,0,none⟩=some (.int .i64 n)) :
  Calls Tryz.prog 247 #[.int .i64 (i:Int),.pointer (some ⟨g1,0,none⟩),.pointer (some ⟨g2,0,none⟩)] w (RetX (.bool (decide ((yrO n - 1).toNat ≤ i))) w):=by
 have W1:IntKind.i64.wrap ((i:Int)+2)=(i:Int)+2:=IntWalk.i64_in _ (by omega)
 have Hi:=qh (show 1 ≤ (i:Int)+2∧(i:Int)+2 ≤ 5000 by omega)
 have E:Hid (decide (n < nyO ((i:Int)+2))=decide ((yrO n - 1).toNat ≤ i)):=qh (by simp only [too_late hn.1 i])
 clear hn
 go_enter Tryz.func247,Tryz.ntmps247
 go_wp2_with fail
 (refine wp_region_onto prog_mixed (by kernel_rfl) ?_;(repeat (go_big_quiet_step (((go_at_call 248;with_reducible exact onto_callS (impl_newYear ((i:Int)+2) Hi.out _))))));refine onto_end ?_;intro w1 hx1)
 go_wp2_with fail
 go_ret
 exact ⟨ret_bool E.out,exts⟩
theorem len_cum (y:Int) (j:Nat):cumO y (j+1)=cumO y j+lenO y ((j:Int)+1):=rfl
set_option maxRecDepth 100000 in
set_option maxHeartbeats 4000000 in
theorem impl_dateOf (n:Int) (h:0 ≤ n∧n ≤ 730499) (w:World):Calls Tryz.prog 208 #[.int .i64 n,.bool false] w (RetX (datV n) w):=by
 have Hn:=qh h
 have Hy:=qh (show 1 ≤ yrO n∧yrO n ≤ 2000 from ⟨yr_pos h.1,yr_max h.2⟩)
 have Hr:=qh (show nyO (yrO n) ≤ n∧n - nyO (yrO n) < cumO (yrO n) 12∧0 ≤ nyO (yrO n) from by
  have h1:=yr_bd h.1
  have h2:=ny_next (yr_pos h.1)
  have h3:=ny_ge (yr_pos h.1)
  omega)
 have W1:wrap64 (yrO n)=yrO n:=IntWalk.wrap64_in _ (by have:=Hy.out;omega)
 have W2:IntKind.i64.wrap (n - nyO (yrO n))=n - nyO (yrO n):=IntWalk.i64_in _ (by have:=Hr.out;have:=Hn.out;omega)
 have EK:Hid ((((yrO n - 1).toNat:Nat):Int)=yrO n - 1):=qh (by have:=Hy.out;omega)
 have HB:=qh (show ∀ w' : World,Ext (((w.alloc (.cells #[.int .i64 n] 2)).alloc (.cells #[.bool false] 4)).alloc (.cells #[.int .i64 0,.int .i64 0,.int .i64 0] 265)) w' → Boxed w' w.heap.size [.int .i64 n]∧Boxed w' (w.heap.size+1) [.bool false]∧Boxed w' (w.heap.size+1+1) [.int .i64 0,.int .i64 0,.int .i64 0] from fun w' hx=>by
  have h1:=((Boxed.new w [.int .i64 n] 2).ext (((Ext.refl _).alloc (.cells #[.bool false] 4)).alloc (.cells #[.int .i64 0,.int .i64 0,.int .i64 0] 265))).ext hx
  have h2:=((Boxed.new (w.alloc (.cells #[.int .i64 n] 2)) [.bool false] 4).ext ((Ext.refl _).alloc (.cells #[.int .i64 0,.int .i64 0,.int .i64 0] 265))).ext hx
  have h3:=(Boxed.new ((w.alloc (.cells #[.int .i64 n] 2)).alloc (.cells #[.bool false] 4)) [.int .i64 0,.int .i64 0,.int .i64 0] 265).ext hx
  simp only [World.size_alloc] at h2 h3
  exact ⟨h1,h2,h3⟩)
 clear h
 go_enter Tryz.func208,Tryz.ntmps208
 go_wp2_with fail
 refine Calls.mono (sort_Search 2000 (yrO n - 1).toNat (by have:=Hy.out;omega) (by omega) 247 _ _ Tryz.call247 (fun i w' hi hx=>?_)) ?_
 ·obtain ⟨b1,b2,_⟩:=HB.out w' hx
  exact impl_dateOf_f n i Hn.out hi (w.heap.size+1) w.heap.size w' b2.1 b1.1 b2.at0 b1.at0
 rintro e w1 ⟨rfl,hx1⟩
 rw [EK.out]
 have Hx1:Ext w w1:=Ext.trans exts hx1
 have hz1:w.heap.size+1+1+1 ≤ w1.heap.size:=by
  have:=hx1.size
  simp only [World.size_alloc] at this
  exact this
 obtain ⟨b1,b2,b3⟩:=HB.out w1 hx1
 have HBa:=qh b1
 have HBb:=qh b2
 have HBc:=qh b3
 clear b1 b2 b3 HB
 go_upto_region 3 with fail
 have Hbd:=qh (Boxed.new w1 [.int .i64 (yrO n),.int .i64 1,.int .i64 0] 265)
 have c1:=(HBa.out.ext ((Ext.refl w1).alloc (.cells #[.int .i64 (yrO n),.int .i64 1,.int .i64 0] 265))).at0
 have c2:=(HBb.out.ext ((Ext.refl w1).alloc (.cells #[.int .i64 (yrO n),.int .i64 1,.int .i64 0] 265))).at0
 have hg1:w.heap.size < w1.heap.size+1:=by omega
 have hg2:w.heap.size+1 < w1.heap.size+1:=by omega
 have hg3:w.heap.size ≤ w1.heap.size:=by omega
 have hg4:w.heap.size < w1.heap.size:=by omega
 have hg5:w.heap.size+1 ≤ w1.heap.size:=by omega
 (refine wp_region_last prog_mixed rfl (by kernel_rfl) (by kernel_rfl) (by kernel_rfl) (by kernel_rfl) ?_;simp only [List.dropLast_cons_cons,List.dropLast_singleton];(repeat (go_big_quiet_step (((go_at_call 248;with_reducible exact onto_callS (impl_newYear (yrO n) (by have:=Hy.out;omega) _))))));refine last_end ?_;intro w2 hx2;dsimp only [List.getLast])
 have Hx2:Ext w w2:=Hx1.trans (((Ext.refl _).alloc _).trans hx2)
 have HBa2:=qh ((HBa.out.ext ((Ext.refl w1).alloc _)).ext hx2)
 have HBb2:=qh ((HBb.out.ext ((Ext.refl w1).alloc _)).ext hx2)
 have HBc2:=qh ((HBc.out.ext ((Ext.refl w1).alloc _)).ext hx2)
 have HBd2:=qh (Hbd.out.ext hx2)
 clear c1 c2 HBa HBb HBc Hbd
 have a0:=HBa2.out.at0
 have a1:=HBa2.out.fz 0 (by simp)
 go_wp2_with fail
 go_loopg [] 12 (fun k wr=>∃ j:Nat,j+k=12∧j < 12∧cumO (yrO n) j ≤ n - nyO (yrO n)∧Ext w wr∧Boxed wr w.heap.size [.int .i64 (n - nyO (yrO n) - cumO (yrO n) j)]∧Boxed wr (w.heap.size+1) [.bool false]∧Boxed wr (w.heap.size+1+1) [.int .i64 0,.int .i64 0,.int .i64 0]∧Boxed wr w1.heap.size [.int .i64 (yrO n),.int .i64 ((j:Int)+1),.int .i64 0])
 case atStart =>
  refine ⟨0,by omega,by omega,by have:=Hr.out;show 0 ≤ _;omega,Ext.setCell Hx2 (Nat.le_refl _) _,?_,HBb2.out.setOther (by simp) _,HBc2.out.setOther (by simp;omega) _,HBd2.out.setOther (by simp;omega) _⟩
  have h:=HBa2.out.set 0 (.int .i64 (n - nyO (yrO n))) (by simp)
  rw [show cumO (yrO n) 0=0 from rfl,Int.sub_zero]
  exact h
 clear HBa2 HBb2 HBc2 HBd2 a0 a1 hx2 hx1
 case round =>
  obtain ⟨j,hj,hj12,hc,hx,hba,hbb,hbc,hbd⟩:=hrel
  have Ba:=qh hba
  have Bb:=qh hbb
  have Bc:=qh hbc
  have Bd:=qh hbd
  have a0:=hba.at0
  have b0:=hbb.at0
  have d0:=hbd.at0
  have d1:=hbd.at1
  have d2:=hbd.at2
  have z1:=hba.1
  have z2:=hbb.1
  have z3:=hbc.1
  have z4:=hbd.1
  have Hc:=qh hc
  have hcl:=len_cum (yrO n) j
  have Hl:=qh (lenO_bd (yrO n) ((j:Int)+1))
  clear hba hbb hbc hbd hc
  by_cases hge:lenO (yrO n) ((j:Int)+1) ≤ n - nyO (yrO n) - cumO (yrO n) j
  ·have Hge:=qh hge
   have W3:IntKind.i64.wrap (n - nyO (yrO n) - cumO (yrO n) j - lenO (yrO n) ((j:Int)+1))=n - nyO (yrO n) - cumO (yrO n) j - lenO (yrO n) ((j:Int)+1):=IntWalk.i64_in _ (by have:=Hr.out;have:=Hn.out;have:=Hc.out;have:=cumO_bd (yrO n) j;have:=Hl.out;omega)
   have W4:IntKind.i64.wrap ((j:Int)+1+1)=(j:Int)+1+1:=IntWalk.i64_in _ (by omega)
   have hj1:j+1 < 12:=by
    have h:=Hr.out
    by_cases e:j=11
    ·subst e;have h2:=Hge.out;rw [show cumO (yrO n) 12=cumO (yrO n) 11+lenO (yrO n) (((11:Nat):Int)+1) from rfl] at h;exfalso;omega
    ·omega
   have G:decide (lenO (yrO n) ((j:Int)+1) ≤ n - nyO (yrO n) - cumO (yrO n) j)=true:=decide_eq_true hge
   clear hge hcl
   go_wp2_with fail
   (refine wp_region_onto prog_mixed (by kernel_rfl) ?_;(repeat (go_big_quiet_step (((go_at_call 249;with_reducible exact onto_callS (impl_lengthOfMonth (yrO n) ((j:Int)+1) _))))));refine onto_end ?_;intro w3 hx3)
   go_upto_region 5 with fail
   replace a0:=(Ba.out.ext hx3).at0
   replace b0:=(Bb.out.ext hx3).at0
   replace d0:=(Bd.out.ext hx3).at0
   replace d1:=(Bd.out.ext hx3).at1
   replace d2:=(Bd.out.ext hx3).at2
   replace z1:=(Ba.out.ext hx3).1
   replace z2:=(Bb.out.ext hx3).1
   replace z3:=(Bc.out.ext hx3).1
   replace z4:=(Bd.out.ext hx3).1
   (refine wp_region_last prog_mixed rfl (by kernel_rfl) (by kernel_rfl) (by kernel_rfl) (by kernel_rfl) ?_;simp only [List.dropLast_cons_cons,List.dropLast_singleton];(repeat (go_big_quiet_step (((go_at_call 249;with_reducible exact onto_callS (impl_lengthOfMonth (yrO n) ((j:Int)+1) _))))));refine last_end ?_;intro w4 hx4;dsimp only [List.getLast])
   have Ca:=qh ((Ba.out.ext hx3).ext hx4)
   have Cb:=qh ((Bb.out.ext hx3).ext hx4)
   have Cc:=qh ((Bc.out.ext hx3).ext hx4)
   have Cd:=qh ((Bd.out.ext hx3).ext hx4)
   replace a0:=Ca.out.at0
   replace d1:=Cd.out.at1
   have f1:=Ca.out.fz 0 (by simp)
   have f2:=Cd.out.fz 1 (by simp)
   have hne:¬ w.heap.size=w1.heap.size:=by omega
   have hne' : ¬ w1.heap.size=w.heap.size:=by omega
   go_wp2_with fail
   go_roundg (12 - (j+1))
   case measure=>omega
   case rel =>
    refine ⟨j+1,by omega,by omega,by have:=Hge.out;have:=len_cum (yrO n) j;omega,Ext.setCell (Ext.setCell ((hx.trans hx3).trans hx4) (Nat.le_refl _) _) hg3 _,?_,(Cb.out.setOther (by simp) _).setOther (by simp;omega) _,(Cc.out.setOther (by simp;omega) _).setOther (by simp;omega) _,?_⟩
    ·have h:=(Ca.out.set 0 (.int .i64 (n - nyO (yrO n) - cumO (yrO n) j - lenO (yrO n) ((j:Int)+1))) (by simp)).setOther (p:=⟨w1.heap.size,1,none⟩) (by simp;omega) (.int .i64 ((j:Int)+1+1))
     rw [len_cum,show n - nyO (yrO n) - (cumO (yrO n) j+lenO (yrO n) ((j:Int)+1))=n - nyO (yrO n) - cumO (yrO n) j - lenO (yrO n) ((j:Int)+1) by omega]
     exact h
    ·have h:=(Cd.out.setOther (p:=⟨w.heap.size,0,none⟩) (by simp;omega) (.int .i64 (n - nyO (yrO n) - cumO (yrO n) j - lenO (yrO n) ((j:Int)+1)))).set 1 (.int .i64 ((j:Int)+1+1)) (by simp)
     rw [show ((j+1:Nat):Int)=(j:Int)+1 by omega]
     exact h
  ·have E:Hid (moO n=(j:Int)+1):=qh (mo_unique Hn.out.1 Hc.out (by rw [hcl];omega))
   have E2:Hid (n - nyO (yrO n) - cumO (yrO n) j+1=n - numO (yrO n) ((j:Int)+1) 1+1):=qh (by rw [num_m1];omega)
   have G:decide (lenO (yrO n) ((j:Int)+1) ≤ n - nyO (yrO n) - cumO (yrO n) j)=false:=decide_eq_false hge
   have W3:IntKind.i64.wrap (n - nyO (yrO n) - cumO (yrO n) j+1)=n - nyO (yrO n) - cumO (yrO n) j+1:=IntWalk.i64_in _ (by have:=Hr.out;have:=Hn.out;have:=Hc.out;have:=cumO_bd (yrO n) j;have:=Hl.out;omega)
   clear hcl
   go_wp2_with fail
   (refine wp_region_onto prog_mixed (by kernel_rfl) ?_;(repeat (go_big_quiet_step (((go_at_call 249;with_reducible exact onto_callS (impl_lengthOfMonth (yrO n) ((j:Int)+1) _))))));refine onto_end ?_;intro w3 hx3)
   have Cc:=qh (Bc.out.ext hx3)
   replace a0:=(Ba.out.ext hx3).at0
   replace d0:=(Bd.out.ext hx3).at0
   replace d1:=(Bd.out.ext hx3).at1
   replace d2:=(Bd.out.ext hx3).at2
   have f2:=(Bd.out.ext hx3).fz 2 (by simp)
   have n0:=Cc.out.at0
   have n1:=Cc.out.at1
   have n2:=Cc.out.at2
   have k0:=Cc.out.fz 0 (by simp)
   have k1:=Cc.out.fz 1 (by simp)
   have k2:=Cc.out.fz 2 (by simp)
   have hne:¬ w.heap.size+1+1=w1.heap.size:=by omega
   have hne' : ¬ w1.heap.size=w.heap.size+1+1:=by omega
   go_wp2_with fail
   refine bodyPost_ret (v:=.agg #[.int .i64 (yrO n),.int .i64 ((j:Int)+1),.int .i64 (n - nyO (yrO n) - cumO (yrO n) j+1)]) (by simp [results,Tryz.results208,go_sem, *]) rfl ⟨dat_ret rfl E.out E2.out,?_⟩
   repeat (with_reducible refine Ext.setCell ?_ (by first | exact Nat.le_refl _ | exact Nat.le_add_right _ _ | exact hg3 | exact Nat.le_trans (Nat.le_add_right _ _) (Nat.le_add_right _ _)) _)
   exact hx.trans hx3
set_option maxHeartbeats 400000 in
theorem impl_weekdayOf (n:Int) (h:0 ≤ n∧n ≤ 3000000) (w:World):Calls Tryz.prog 216 #[.int .i64 n] w (RetS (.int .i64 (wdO n)) w):=by
 have W1:IntKind.i64.wrap (n+5)=n+5:=IntWalk.i64_in _ (by omega)
 have W2:IntKind.i64.wrap ((n+5).tmod 7)=(n+5).tmod 7:=IntWalk.i64_in _ (by rw [tmod_pos (by omega)];omega)
 clear h
 go_enter Tryz.func216,Tryz.ntmps216
 go_wp2_with fail
 go_ret
 exact ⟨rfl,rfl⟩
set_option maxHeartbeats 400000 in
theorem spec_l01Weekday (n:Int) (h:0 ≤ n∧n ≤ 3000000) (w:World):Calls Tryz.prog 245 #[.int .i64 n] w (RetS (.int .i64 (wdO n)) w):=by
 have W1:IntKind.i64.wrap (n+5)=n+5:=IntWalk.i64_in _ (by omega)
 have W2:IntKind.i64.wrap ((n+5).tmod 7)=(n+5).tmod 7:=IntWalk.i64_in _ (by rw [tmod_pos (by omega)];omega)
 clear h
 go_enter Tryz.func245,Tryz.ntmps245
 go_wp2_with fail
 go_ret
 exact ⟨rfl,rfl⟩
set_option maxHeartbeats 400000 in
theorem impl_indictionOf (y:Int) (h:0 ≤ y∧y ≤ 5000) (w:World):Calls Tryz.prog 256 #[.int .i64 y] w (RetS (.int .i64 (indO y)) w):=by
 have W1:IntKind.i64.wrap (y+2)=y+2:=IntWalk.i64_in _ (by omega)
 have W2:IntKind.i64.wrap ((y+2).tmod 15)=(y+2).tmod 15:=IntWalk.i64_in _ (by rw [tmod_pos (by omega)];omega)
 have W3:IntKind.i64.wrap ((y+2).tmod 15+1)=(y+2).tmod 15+1:=IntWalk.i64_in _ (by rw [tmod_pos (by omega)];omega)
 clear h
 go_enter Tryz.func256,Tryz.ntmps256
 go_wp2_with fail
 go_ret
 exact ⟨rfl,rfl⟩
set_option maxHeartbeats 400000 in
theorem spec_l08Year (y:Int) (h:0 ≤ y∧y ≤ 5000) (w:World):Calls Tryz.prog 292 #[.int .i64 y] w (RetS (.int .i64 (indO y)) w):=by
 have W1:IntKind.i64.wrap (y+2)=y+2:=IntWalk.i64_in _ (by omega)
 have W2:IntKind.i64.wrap ((y+2).tmod 15)=(y+2).tmod 15:=IntWalk.i64_in _ (by rw [tmod_pos (by omega)];omega)
 have W3:IntKind.i64.wrap ((y+2).tmod 15+1)=(y+2).tmod 15+1:=IntWalk.i64_in _ (by rw [tmod_pos (by omega)];omega)
 clear h
 go_enter Tryz.func292,Tryz.ntmps292
 go_wp2_with fail
 go_ret
 exact ⟨rfl,rfl⟩
def easV (y:Int):Value:=.agg #[.int .i64 y,.int .i64 ((easS y).tdiv 31),.int .i64 ((easS y).tmod 31+1)]
set_option maxHeartbeats 1000000 in
theorem impl_moonDays (y:Int) (h:1 ≤ y∧y ≤ 5000) (w:World):Calls Tryz.prog 323 #[.int .i64 y] w (RetS (.int .i64 (easP y)) w):=by
 have h1:0 ≤ y.tmod 19∧y.tmod 19 ≤ 18:=by rw [tmod_pos (by omega)];omega
 have h2:0 ≤ y.tmod 4∧y.tmod 4 ≤ 3:=by rw [tmod_pos (by omega)];omega
 have h3:0 ≤ y.tmod 7∧y.tmod 7 ≤ 6:=by rw [tmod_pos (by omega)];omega
 have hp:=(eas_bd h.1).1
 have hq:=(eas_bd h.1).2.1
 have hs:=(eas_bd h.1).2.2
 have hm:=eas_md h.1
 have a1:IntKind.i64.wrap (y.tmod 19)=y.tmod 19:=IntWalk.i64_in _ (by omega)
 have a2:IntKind.i64.wrap (19 * y.tmod 19)=19 * y.tmod 19:=IntWalk.i64_in _ (by omega)
 have a3:IntKind.i64.wrap (19 * y.tmod 19+15)=19 * y.tmod 19+15:=IntWalk.i64_in _ (by omega)
 have a4:IntKind.i64.wrap ((19 * y.tmod 19+15).tmod 30)=easP y:=IntWalk.i64_in _ (by unfold easP at hp;omega)
 have b1:IntKind.i64.wrap (y.tmod 4)=y.tmod 4:=IntWalk.i64_in _ (by omega)
 have b2:IntKind.i64.wrap (2 * y.tmod 4)=2 * y.tmod 4:=IntWalk.i64_in _ (by omega)
 have b3:IntKind.i64.wrap (y.tmod 7)=y.tmod 7:=IntWalk.i64_in _ (by omega)
 have b4:IntKind.i64.wrap (4 * y.tmod 7)=4 * y.tmod 7:=IntWalk.i64_in _ (by omega)
 have b5:IntKind.i64.wrap (2 * y.tmod 4+4 * y.tmod 7)=2 * y.tmod 4+4 * y.tmod 7:=IntWalk.i64_in _ (by omega)
 have b6:IntKind.i64.wrap (2 * y.tmod 4+4 * y.tmod 7 - easP y)=2 * y.tmod 4+4 * y.tmod 7 - easP y:=IntWalk.i64_in _ (by omega)
 have b7:IntKind.i64.wrap (2 * y.tmod 4+4 * y.tmod 7 - easP y+34)=2 * y.tmod 4+4 * y.tmod 7 - easP y+34:=IntWalk.i64_in _ (by omega)
 have b8:IntKind.i64.wrap ((2 * y.tmod 4+4 * y.tmod 7 - easP y+34).tmod 7)=easQ y:=IntWalk.i64_in _ (by unfold easQ at hq;omega)
 have c1:IntKind.i64.wrap (easP y+easQ y)=easP y+easQ y:=IntWalk.i64_in _ (by omega)
 have c2:IntKind.i64.wrap (easP y+easQ y+114)=easS y:=IntWalk.i64_in _ (by omega)
 have c3:IntKind.i64.wrap ((easS y).tdiv 31)=(easS y).tdiv 31:=IntWalk.i64_in _ (by omega)
 have c4:IntKind.i64.wrap ((easS y).tmod 31)=(easS y).tmod 31:=IntWalk.i64_in _ (by omega)
 have c5:IntKind.i64.wrap ((easS y).tmod 31+1)=(easS y).tmod 31+1:=IntWalk.i64_in _ (by omega)
 have d1:(19 * y.tmod 19+15).tmod 30=easP y:=rfl
 have d2:wrap64 (2 * y.tmod 4+4 * y.tmod 7 - easP y)=2 * y.tmod 4+4 * y.tmod 7 - easP y:=IntWalk.wrap64_in _ (by omega)
 have d3:wrap64 (2 * y.tmod 4+4 * y.tmod 7 - easP y+34)=2 * y.tmod 4+4 * y.tmod 7 - easP y+34:=IntWalk.wrap64_in _ (by omega)
 have d4:(2 * y.tmod 4+4 * y.tmod 7 - easP y+34).tmod 7=easQ y:=rfl
 have d5:wrap64 (easP y+easQ y)=easP y+easQ y:=IntWalk.wrap64_in _ (by omega)
 have d6:wrap64 (easP y+easQ y+114)=easS y:=IntWalk.wrap64_in _ (by omega)
 have d7:wrap64 ((easS y).tdiv 31)=(easS y).tdiv 31:=IntWalk.wrap64_in _ (by omega)
 have d8:wrap64 ((easS y).tmod 31+1)=(easS y).tmod 31+1:=IntWalk.wrap64_in _ (by omega)
 clear h h1 h2 h3 hp hq hs hm b1 b2 b3 b4 b5 b6 b7 b8 c1 c2 c3 c4 c5 d2 d3 d4 d5 d6 d7 d8
 go_enter Tryz.func323,Tryz.ntmps323
 go_wp2_with fail
 go_ret
 exact ⟨rfl,rfl⟩
set_option maxHeartbeats 1000000 in
theorem spec_l04Old (y:Int) (h:1 ≤ y∧y ≤ 5000) (w:World):Calls Tryz.prog 320 #[.int .i64 y] w (RetX (easV y) w):=by
 have h1:0 ≤ y.tmod 19∧y.tmod 19 ≤ 18:=by rw [tmod_pos (by omega)];omega
 have h2:0 ≤ y.tmod 4∧y.tmod 4 ≤ 3:=by rw [tmod_pos (by omega)];omega
 have h3:0 ≤ y.tmod 7∧y.tmod 7 ≤ 6:=by rw [tmod_pos (by omega)];omega
 have hp:=(eas_bd h.1).1
 have hq:=(eas_bd h.1).2.1
 have hs:=(eas_bd h.1).2.2
 have hm:=eas_md h.1
 have a1:IntKind.i64.wrap (y.tmod 19)=y.tmod 19:=IntWalk.i64_in _ (by omega)
 have a2:IntKind.i64.wrap (19 * y.tmod 19)=19 * y.tmod 19:=IntWalk.i64_in _ (by omega)
 have a3:IntKind.i64.wrap (19 * y.tmod 19+15)=19 * y.tmod 19+15:=IntWalk.i64_in _ (by omega)
 have a4:IntKind.i64.wrap ((19 * y.tmod 19+15).tmod 30)=easP y:=IntWalk.i64_in _ (by unfold easP at hp;omega)
 have b1:IntKind.i64.wrap (y.tmod 4)=y.tmod 4:=IntWalk.i64_in _ (by omega)
 have b2:IntKind.i64.wrap (2 * y.tmod 4)=2 * y.tmod 4:=IntWalk.i64_in _ (by omega)
 have b3:IntKind.i64.wrap (y.tmod 7)=y.tmod 7:=IntWalk.i64_in _ (by omega)
 have b4:IntKind.i64.wrap (4 * y.tmod 7)=4 * y.tmod 7:=IntWalk.i64_in _ (by omega)
 have b5:IntKind.i64.wrap (2 * y.tmod 4+4 * y.tmod 7)=2 * y.tmod 4+4 * y.tmod 7:=IntWalk.i64_in _ (by omega)
 have b6:IntKind.i64.wrap (2 * y.tmod 4+4 * y.tmod 7 - easP y)=2 * y.tmod 4+4 * y.tmod 7 - easP y:=IntWalk.i64_in _ (by omega)
 have b7:IntKind.i64.wrap (2 * y.tmod 4+4 * y.tmod 7 - easP y+34)=2 * y.tmod 4+4 * y.tmod 7 - easP y+34:=IntWalk.i64_in _ (by omega)
 have b8:IntKind.i64.wrap ((2 * y.tmod 4+4 * y.tmod 7 - easP y+34).tmod 7)=easQ y:=IntWalk.i64_in _ (by unfold easQ at hq;omega)
 have c1:IntKind.i64.wrap (easP y+easQ y)=easP y+easQ y:=IntWalk.i64_in _ (by omega)
 have c2:IntKind.i64.wrap (easP y+easQ y+114)=easS y:=IntWalk.i64_in _ (by omega)
 have c3:IntKind.i64.wrap ((easS y).tdiv 31)=(easS y).tdiv 31:=IntWalk.i64_in _ (by omega)
 have c4:IntKind.i64.wrap ((easS y).tmod 31)=(easS y).tmod 31:=IntWalk.i64_in _ (by omega)
 have c5:IntKind.i64.wrap ((easS y).tmod 31+1)=(easS y).tmod 31+1:=IntWalk.i64_in _ (by omega)
 have d1:(19 * y.tmod 19+15).tmod 30=easP y:=rfl
 have d2:wrap64 (2 * y.tmod 4+4 * y.tmod 7 - easP y)=2 * y.tmod 4+4 * y.tmod 7 - easP y:=IntWalk.wrap64_in _ (by omega)
 have d3:wrap64 (2 * y.tmod 4+4 * y.tmod 7 - easP y+34)=2 * y.tmod 4+4 * y.tmod 7 - easP y+34:=IntWalk.wrap64_in _ (by omega)
 have d4:(2 * y.tmod 4+4 * y.tmod 7 - easP y+34).tmod 7=easQ y:=rfl
 have d5:wrap64 (easP y+easQ y)=easP y+easQ y:=IntWalk.wrap64_in _ (by omega)
 have d6:wrap64 (easP y+easQ y+114)=easS y:=IntWalk.wrap64_in _ (by omega)
 have d7:wrap64 ((easS y).tdiv 31)=(easS y).tdiv 31:=IntWalk.wrap64_in _ (by omega)
 have d8:wrap64 ((easS y).tmod 31+1)=(easS y).tmod 31+1:=IntWalk.wrap64_in _ (by omega)
 have hb:=Boxed.new w [.int .i64 0,.int .i64 0,.int .i64 0] 265
 have n0:=hb.at0
 have n1:=hb.at1
 have n2:=hb.at2
 have f0:=hb.fz 0 (by simp)
 have f1:=hb.fz 1 (by simp)
 have f2:=hb.fz 2 (by simp)
 clear h h1 h2 h3 hp hq hs hm hb
 go_enter Tryz.func320,Tryz.ntmps320
 go_wp2_with fail
 first
 | (go_ret;exact ⟨rfl,exts⟩)
 | (refine bodyPost_ret (v:=easV y) (by simp [easV,results,Tryz.results320,go_sem, *]) rfl ⟨rfl,exts⟩)
set_option maxRecDepth 100000 in
set_option maxHeartbeats 1000000 in
theorem impl_oldEaster (y:Int) (h:1 ≤ y∧y ≤ 5000) (w:World):Calls Tryz.prog 295 #[.int .i64 y] w (RetX (.int .i64 (easO y)) w):=by
 have Hh:=qh h
 have h1:0 ≤ y.tmod 19∧y.tmod 19 ≤ 18:=by rw [tmod_pos (by omega)];omega
 have h2:0 ≤ y.tmod 4∧y.tmod 4 ≤ 3:=by rw [tmod_pos (by omega)];omega
 have h3:0 ≤ y.tmod 7∧y.tmod 7 ≤ 6:=by rw [tmod_pos (by omega)];omega
 have hp:=(eas_bd h.1).1
 have hq:=(eas_bd h.1).2.1
 have hs:=(eas_bd h.1).2.2
 have hm:=eas_md h.1
 have a1:IntKind.i64.wrap (y.tmod 19)=y.tmod 19:=IntWalk.i64_in _ (by omega)
 have a2:IntKind.i64.wrap (19 * y.tmod 19)=19 * y.tmod 19:=IntWalk.i64_in _ (by omega)
 have a3:IntKind.i64.wrap (19 * y.tmod 19+15)=19 * y.tmod 19+15:=IntWalk.i64_in _ (by omega)
 have a4:IntKind.i64.wrap ((19 * y.tmod 19+15).tmod 30)=easP y:=IntWalk.i64_in _ (by unfold easP at hp;omega)
 have b1:IntKind.i64.wrap (y.tmod 4)=y.tmod 4:=IntWalk.i64_in _ (by omega)
 have b2:IntKind.i64.wrap (2 * y.tmod 4)=2 * y.tmod 4:=IntWalk.i64_in _ (by omega)
 have b3:IntKind.i64.wrap (y.tmod 7)=y.tmod 7:=IntWalk.i64_in _ (by omega)
 have b4:IntKind.i64.wrap (4 * y.tmod 7)=4 * y.tmod 7:=IntWalk.i64_in _ (by omega)
 have b5:IntKind.i64.wrap (2 * y.tmod 4+4 * y.tmod 7)=2 * y.tmod 4+4 * y.tmod 7:=IntWalk.i64_in _ (by omega)
 have b6:IntKind.i64.wrap (2 * y.tmod 4+4 * y.tmod 7 - easP y)=2 * y.tmod 4+4 * y.tmod 7 - easP y:=IntWalk.i64_in _ (by omega)
 have b7:IntKind.i64.wrap (2 * y.tmod 4+4 * y.tmod 7 - easP y+34)=2 * y.tmod 4+4 * y.tmod 7 - easP y+34:=IntWalk.i64_in _ (by omega)
 have b8:IntKind.i64.wrap ((2 * y.tmod 4+4 * y.tmod 7 - easP y+34).tmod 7)=easQ y:=IntWalk.i64_in _ (by unfold easQ at hq;omega)
 have c1:IntKind.i64.wrap (easP y+easQ y)=easP y+easQ y:=IntWalk.i64_in _ (by omega)
 have c2:IntKind.i64.wrap (easP y+easQ y+114)=easS y:=IntWalk.i64_in _ (by omega)
 have c3:IntKind.i64.wrap ((easS y).tdiv 31)=(easS y).tdiv 31:=IntWalk.i64_in _ (by omega)
 have c4:IntKind.i64.wrap ((easS y).tmod 31)=(easS y).tmod 31:=IntWalk.i64_in _ (by omega)
 have c5:IntKind.i64.wrap ((easS y).tmod 31+1)=(easS y).tmod 31+1:=IntWalk.i64_in _ (by omega)
 have d1:(19 * y.tmod 19+15).tmod 30=easP y:=rfl
 have d2:wrap64 (2 * y.tmod 4+4 * y.tmod 7 - easP y)=2 * y.tmod 4+4 * y.tmod 7 - easP y:=IntWalk.wrap64_in _ (by omega)
 have d3:wrap64 (2 * y.tmod 4+4 * y.tmod 7 - easP y+34)=2 * y.tmod 4+4 * y.tmod 7 - easP y+34:=IntWalk.wrap64_in _ (by omega)
 have d4:(2 * y.tmod 4+4 * y.tmod 7 - easP y+34).tmod 7=easQ y:=rfl
 have d5:wrap64 (easP y+easQ y)=easP y+easQ y:=IntWalk.wrap64_in _ (by omega)
 have d6:wrap64 (easP y+easQ y+114)=easS y:=IntWalk.wrap64_in _ (by omega)
 have d7:wrap64 ((easS y).tdiv 31)=(easS y).tdiv 31:=IntWalk.wrap64_in _ (by omega)
 have d8:wrap64 ((easS y).tmod 31+1)=(easS y).tmod 31+1:=IntWalk.wrap64_in _ (by omega)
 have Hm:=qh hm
 clear h h1 h2 h3 hp hq hs hm
 go_enter Tryz.func295,Tryz.ntmps295
 go_wp2_with fail
 refine Calls.mono (impl_moonDays y Hh.out _) ?_
 rintro e w1 ⟨rfl,rfl⟩
 go_wp2_with fail
 refine Calls.mono (impl_dayOf y ((easS y).tdiv 31) ((easS y).tmod 31+1) Hh.out (by have:=Hm.out;omega) (by have:=Hm.out;omega) _) ?_
 rintro e w1 ⟨rfl,hx1⟩
 go_wp2_with fail
 go_ret
 exact ⟨rfl,exts⟩
set_option maxRecDepth 100000 in
theorem date_year (a b c:Value) (W:World):Sem.run Tryz.prog (Instr.field 265 (.agg #[a,b,c]) 0) W=.ok a W:=by kernel_rfl
attribute [local go_sem] date_year
theorem ki_cases {r:Int} (h:0 ≤ r∧r ≤ 2):r=0 ∨ r=1 ∨ r=2:=by omega
theorem ind_yes {ki n:Int} (h2:ki ≠ 2) {d:Int} (hd:d=if ki=1 then 24 else 1) (h:numO (yrO n) 9 d ≤ n):indO (yrO n+1)=indN ki n:=by
 unfold indN
 rw [B_true ⟨h2,by rw [← hd];exact h⟩]
 rfl
theorem ind_no {ki n:Int} {d:Int} (hd:d=if ki=1 then 24 else 1) (h:¬ numO (yrO n) 9 d ≤ n):indO (yrO n)=indN ki n:=by
 unfold indN
 rw [B_false (fun hh=>h (by rw [hd];exact hh.2))]
 rfl
theorem ind_2 {n:Int}:indO (yrO n)=indN 2 n:=by
 unfold indN
 rw [B_false (fun hh=>hh.1 rfl)]
 rfl
set_option maxRecDepth 100000 in
set_option maxHeartbeats 4000000 in
theorem impl_indictionOn (ki n:Int) (hk:0 ≤ ki∧ki ≤ 2) (h:0 ≤ n∧n ≤ 730499) (w:World):Calls Tryz.prog 215 #[.int .i64 ki,.int .i64 n] w (RetX (.int .i64 (indN ki n)) w):=by
 have Hn:=qh h
 have Hy:=qh (show 1 ≤ yrO n∧yrO n ≤ 2000 from ⟨yr_pos h.1,yr_max h.2⟩)
 have W1:IntKind.i64.wrap (yrO n+1)=yrO n+1:=IntWalk.i64_in _ (by have:=Hy.out;omega)
 have W2:wrap64 (yrO n+1)=yrO n+1:=IntWalk.wrap64_in _ (by have:=Hy.out;omega)
 clear h
 rcases ki_cases hk with rfl | rfl | rfl
 all_goals clear hk
 ·by_cases hc:numO (yrO n) 9 1 ≤ n
  ·have E:=qh (ind_yes (ki:=0) (n:=n) (by decide) (d:=1) rfl hc)
   go_enter Tryz.func215,Tryz.ntmps215
   go_wp2_with fail
   refine Calls.mono (impl_dateOf n Hn.out _) ?_
   rintro e w1 ⟨rfl,hx1⟩
   simp only [datV]
   have hbd:=Boxed.new w1 [.int .i64 (yrO n),.int .i64 (moO n),.int .i64 (dyO n)] 265
   have Hbd:=qh hbd
   clear hbd
   go_wp2_with fail
   refine Calls.mono (impl_dayOf (yrO n) 9 1 (by have:=Hy.out;omega) (by omega) (by omega) _) ?_
   rintro e w2 ⟨rfl,hx2⟩
   have y0:=((Hbd.out.ext (Ext.trans exts hx2))).at0
   go_wp2_with fail
   refine Calls.mono (impl_indictionOf (yrO n+1) (by have:=Hy.out;omega) _) ?_
   rintro e w3 ⟨rfl,rfl⟩
   rw [E.out]
   go_wp2_with fail
   go_ret
   exact ⟨rfl,exts⟩
  ·have E:=qh (ind_no (ki:=0) (n:=n) (d:=1) rfl hc)
   go_enter Tryz.func215,Tryz.ntmps215
   go_wp2_with fail
   refine Calls.mono (impl_dateOf n Hn.out _) ?_
   rintro e w1 ⟨rfl,hx1⟩
   simp only [datV]
   have hbd:=Boxed.new w1 [.int .i64 (yrO n),.int .i64 (moO n),.int .i64 (dyO n)] 265
   have Hbd:=qh hbd
   clear hbd
   go_wp2_with fail
   refine Calls.mono (impl_dayOf (yrO n) 9 1 (by have:=Hy.out;omega) (by omega) (by omega) _) ?_
   rintro e w2 ⟨rfl,hx2⟩
   have y0:=((Hbd.out.ext (Ext.trans exts hx2))).at0
   go_wp2_with fail
   refine Calls.mono (impl_indictionOf (yrO n) (by have:=Hy.out;omega) _) ?_
   rintro e w3 ⟨rfl,rfl⟩
   rw [E.out]
   go_wp2_with fail
   go_ret
   exact ⟨rfl,exts⟩
 ·by_cases hc:numO (yrO n) 9 24 ≤ n
  ·have E:=qh (ind_yes (ki:=1) (n:=n) (by decide) (d:=24) rfl hc)
   go_enter Tryz.func215,Tryz.ntmps215
   go_wp2_with fail
   refine Calls.mono (impl_dateOf n Hn.out _) ?_
   rintro e w1 ⟨rfl,hx1⟩
   simp only [datV]
   have hbd:=Boxed.new w1 [.int .i64 (yrO n),.int .i64 (moO n),.int .i64 (dyO n)] 265
   have Hbd:=qh hbd
   clear hbd
   go_wp2_with fail
   refine Calls.mono (impl_dayOf (yrO n) 9 24 (by have:=Hy.out;omega) (by omega) (by omega) _) ?_
   rintro e w2 ⟨rfl,hx2⟩
   have y0:=((Hbd.out.ext (Ext.trans exts hx2))).at0
   go_wp2_with fail
   refine Calls.mono (impl_indictionOf (yrO n+1) (by have:=Hy.out;omega) _) ?_
   rintro e w3 ⟨rfl,rfl⟩
   rw [E.out]
   go_wp2_with fail
   go_ret
   exact ⟨rfl,exts⟩
  ·have E:=qh (ind_no (ki:=1) (n:=n) (d:=24) rfl hc)
   go_enter Tryz.func215,Tryz.ntmps215
   go_wp2_with fail
   refine Calls.mono (impl_dateOf n Hn.out _) ?_
   rintro e w1 ⟨rfl,hx1⟩
   simp only [datV]
   have hbd:=Boxed.new w1 [.int .i64 (yrO n),.int .i64 (moO n),.int .i64 (dyO n)] 265
   have Hbd:=qh hbd
   clear hbd
   go_wp2_with fail
   refine Calls.mono (impl_dayOf (yrO n) 9 24 (by have:=Hy.out;omega) (by omega) (by omega) _) ?_
   rintro e w2 ⟨rfl,hx2⟩
   have y0:=((Hbd.out.ext (Ext.trans exts hx2))).at0
   go_wp2_with fail
   refine Calls.mono (impl_indictionOf (yrO n) (by have:=Hy.out;omega) _) ?_
   rintro e w3 ⟨rfl,rfl⟩
   rw [E.out]
   go_wp2_with fail
   go_ret
   exact ⟨rfl,exts⟩
 ·have E:=qh (ind_2 (n:=n))
  go_enter Tryz.func215,Tryz.ntmps215
  go_wp2_with fail
  refine Calls.mono (impl_dateOf n Hn.out _) ?_
  rintro e w1 ⟨rfl,hx1⟩
  simp only [datV]
  have hbd:=Boxed.new w1 [.int .i64 (yrO n),.int .i64 (moO n),.int .i64 (dyO n)] 265
  have Hbd:=qh hbd
  clear hbd
  go_wp2_with fail
  refine Calls.mono (impl_indictionOf (yrO n) (by have:=Hy.out;omega) _) ?_
  rintro e w3 ⟨rfl,rfl⟩
  rw [E.out]
  go_wp2_with fail
  go_ret
  exact ⟨rfl,exts⟩
set_option maxRecDepth 100000 in
set_option maxHeartbeats 4000000 in
theorem spec_l08On (ki n:Int) (hk:0 ≤ ki∧ki ≤ 2) (h:0 ≤ n∧n ≤ 730499) (w:World):Calls Tryz.prog 244 #[.int .i64 ki,.int .i64 n] w (RetX (.int .i64 (indN ki n)) w):=by
 have Hn:=qh h
 have Hy:=qh (show 1 ≤ yrO n∧yrO n ≤ 2000 from ⟨yr_pos h.1,yr_max h.2⟩)
 have W1:IntKind.i64.wrap (yrO n+1)=yrO n+1:=IntWalk.i64_in _ (by have:=Hy.out;omega)
 have W2:wrap64 (yrO n+1)=yrO n+1:=IntWalk.wrap64_in _ (by have:=Hy.out;omega)
 clear h
 rcases ki_cases hk with rfl | rfl | rfl
 all_goals clear hk
 ·by_cases hc:numO (yrO n) 9 1 ≤ n
  ·have E:=qh (ind_yes (ki:=0) (n:=n) (by decide) (d:=1) rfl hc)
   go_enter Tryz.func244,Tryz.ntmps244
   go_wp2_with fail
   refine Calls.mono (spec_l01Old n Hn.out _) ?_
   rintro e w1 ⟨rfl,hx1⟩
   simp only [datV]
   go_wp2_with fail
   refine Calls.mono (spec_l01Number (yrO n) 9 1 (by have:=Hy.out;omega) (by omega) (by omega) _) ?_
   rintro e w2 ⟨rfl,hx2⟩
   go_wp2_with fail
   refine Calls.mono (spec_l08Year (yrO n+1) (by have:=Hy.out;omega) _) ?_
   rintro e w3 ⟨rfl,rfl⟩
   rw [E.out]
   go_wp2_with fail
   go_ret
   exact ⟨rfl,exts⟩
  ·have E:=qh (ind_no (ki:=0) (n:=n) (d:=1) rfl hc)
   go_enter Tryz.func244,Tryz.ntmps244
   go_wp2_with fail
   refine Calls.mono (spec_l01Old n Hn.out _) ?_
   rintro e w1 ⟨rfl,hx1⟩
   simp only [datV]
   go_wp2_with fail
   refine Calls.mono (spec_l01Number (yrO n) 9 1 (by have:=Hy.out;omega) (by omega) (by omega) _) ?_
   rintro e w2 ⟨rfl,hx2⟩
   go_wp2_with fail
   refine Calls.mono (spec_l08Year (yrO n) (by have:=Hy.out;omega) _) ?_
   rintro e w3 ⟨rfl,rfl⟩
   rw [E.out]
   go_wp2_with fail
   go_ret
   exact ⟨rfl,exts⟩
 ·by_cases hc:numO (yrO n) 9 24 ≤ n
  ·have E:=qh (ind_yes (ki:=1) (n:=n) (by decide) (d:=24) rfl hc)
   go_enter Tryz.func244,Tryz.ntmps244
   go_wp2_with fail
   refine Calls.mono (spec_l01Old n Hn.out _) ?_
   rintro e w1 ⟨rfl,hx1⟩
   simp only [datV]
   go_wp2_with fail
   refine Calls.mono (spec_l01Number (yrO n) 9 24 (by have:=Hy.out;omega) (by omega) (by omega) _) ?_
   rintro e w2 ⟨rfl,hx2⟩
   go_wp2_with fail
   refine Calls.mono (spec_l08Year (yrO n+1) (by have:=Hy.out;omega) _) ?_
   rintro e w3 ⟨rfl,rfl⟩
   rw [E.out]
   go_wp2_with fail
   go_ret
   exact ⟨rfl,exts⟩
  ·have E:=qh (ind_no (ki:=1) (n:=n) (d:=24) rfl hc)
   go_enter Tryz.func244,Tryz.ntmps244
   go_wp2_with fail
   refine Calls.mono (spec_l01Old n Hn.out _) ?_
   rintro e w1 ⟨rfl,hx1⟩
   simp only [datV]
   go_wp2_with fail
   refine Calls.mono (spec_l01Number (yrO n) 9 24 (by have:=Hy.out;omega) (by omega) (by omega) _) ?_
   rintro e w2 ⟨rfl,hx2⟩
   go_wp2_with fail
   refine Calls.mono (spec_l08Year (yrO n) (by have:=Hy.out;omega) _) ?_
   rintro e w3 ⟨rfl,rfl⟩
   rw [E.out]
   go_wp2_with fail
   go_ret
   exact ⟨rfl,exts⟩
 ·have E:=qh (ind_2 (n:=n))
  go_enter Tryz.func244,Tryz.ntmps244
  go_wp2_with fail
  refine Calls.mono (spec_l01Old n Hn.out _) ?_
  rintro e w1 ⟨rfl,hx1⟩
  simp only [datV]
  go_wp2_with fail
  refine Calls.mono (spec_l08Year (yrO n) (by have:=Hy.out;omega) _) ?_
  rintro e w3 ⟨rfl,rfl⟩
  rw [E.out]
  go_wp2_with fail
  go_ret
  exact ⟨rfl,exts⟩
end Go.Proofs.YtechbeegbhlppaaGreatDoor
namespace Go.Proofs.YtechbeegbhlppaaGreatDoor
set_option linter.unusedVariables false
set_option linter.unusedSimpArgs false
open Go.RowKit
attribute [local go_sem] cell_onto date_year
def ybI (fr k:Int):Int:=if 2000 < k then 730500 else if yrO fr+k - 1 ≤ 2000 then begR fr k else 730500
theorem old_moved {fr y:Int} (h:0 ≤ fr) (hy:1 ≤ y∧y ≤ 2000):OldOk y (moO fr) (dyO fr) ↔ ¬ (moO fr=2∧dyO fr=29∧¬ y.tmod 4=0):=by
 have hm:=mo_1 h
 have hd:=dy_bd h
 unfold OldOk
 by_cases m1:moO fr=2
 ·have h1:lenO (yrO fr) (moO fr) ≤ 29:=by
   rw [m1]
   by_cases m2:(yrO fr).tmod 4=0
   ·rw [lenO_2y m2];omega
   ·rw [lenO_2n m2];omega
  by_cases m3:y.tmod 4=0
  ·have e:lenO y (moO fr)=29:=by rw [m1];exact lenO_2y m3
   rw [e]
   omega
  ·have e:lenO y (moO fr)=28:=by rw [m1];exact lenO_2n m3
   rw [e]
   omega
 ·have e:lenO y (moO fr)=lenO (yrO fr) (moO fr):=by unfold lenO;rw [if_neg m1,if_neg m1]
  rw [e]
  omega
theorem ybI_le {fr k n:Int} (h:0 ≤ fr) (hk:1 ≤ k) (hn:n ≤ 730499):ybI fr k ≤ n ↔ begR fr k ≤ n:=by
 have h1:=begR_bd h hk
 have h2:=yr_pos h
 have h3:=ny_end
 have late:¬ yrO fr+k - 1 ≤ 2000 → n < begR fr k:=fun hh=>by
  by_cases e:yrO fr+k - 1=2001
  ·rw [e] at h1;omega
  ·have:=ny_lt (show (1:Int) ≤ 2001 by omega) (show 2001 < yrO fr+k - 1 by omega);omega
 unfold ybI
 by_cases c1:2000 < k
 ·rw [if_pos c1]
  have:=late (by omega)
  omega
 ·rw [if_neg c1]
  by_cases c2:yrO fr+k - 1 ≤ 2000
  ·rw [if_pos c2]
  ·rw [if_neg c2]
   have:=late c2
   omega
theorem impl_isYear_q {y:Int} {b:Bool} (hb:B (1 ≤ y∧y ≤ 2000)=b) (w:World):Calls Tryz.prog 297 #[.int .i64 y] w (RetS (.bool b) w):=by
 subst hb
 go_enter Tryz.func297,Tryz.ntmps297
 go_wp2_with fail
 refine Calls.mono (impl_within y 1 2000 _) ?_
 rintro e w' ⟨rfl,rfl⟩
 go_wp2_with fail
 go_ret
 exact ⟨rfl,rfl⟩
theorem impl_IsOldDate_q {y mo d:Int} {b:Bool} (hb:B (OldOk y mo d)=b) (w:World):Calls Tryz.prog 298 #[.agg #[.int .i64 y,.int .i64 mo,.int .i64 d]] w (RetX (.bool b) w):=by
 subst hb;exact impl_IsOldDate y mo d w
set_option maxRecDepth 100000 in
set_option maxHeartbeats 4000000 in
theorem impl_yearBegin (nm:ByteArray) (fr t k:Int) (hf:0 ≤ fr∧fr ≤ 730499) (hk:1 ≤ k∧k ≤ 3000) (w:World):Calls Tryz.prog 252 #[.agg #[.string nm,.int .i64 fr,.int .i64 t],.int .i64 k] w (RetX (.int .i64 (ybI fr k)) w):=by
 have Hf:=qh hf
 have Hk:=qh hk
 have Hy:=qh (show 1 ≤ yrO fr∧yrO fr ≤ 2000 from ⟨yr_pos hf.1,yr_max hf.2⟩)
 have Hm:=qh (mo_1 hf.1)
 have Hd:=qh (show 1 ≤ dyO fr∧dyO fr ≤ 31 from by have h1:=dy_bd hf.1;have:=lenO_bd (yrO fr) (moO fr);omega)
 have W1:IntKind.i64.wrap (k - 1)=k - 1:=IntWalk.i64_in _ (by omega)
 have W2:IntKind.i64.wrap (yrO fr+(k - 1))=yrO fr+(k - 1):=IntWalk.i64_in _ (by have:=Hy.out;omega)
 by_cases c1:2000 < k
 ·have E:Hid (ybI fr k=730500):=qh (by unfold ybI;rw [if_pos c1])
  clear hf hk
  go_enter Tryz.func252,Tryz.ntmps252
  go_wp2_with fail
  refine Calls.mono (impl_dateOf fr Hf.out _) ?_
  rintro e w1 ⟨rfl,hx1⟩
  simp only [datV]
  go_wp2_with fail
  go_ret
  exact ⟨by rw [E.out];rfl,exts⟩
 ·obtain ⟨y,ey⟩:∃ y,yrO fr+(k - 1)=y:=⟨_,rfl⟩
  by_cases c2:yrO fr+k - 1 ≤ 2000
  ·have Q1:=qh (B_true (show 1 ≤ y∧y ≤ 2000 by have:=Hy.out;omega))
   have Hyy:=qh (show 1 ≤ y∧y ≤ 2000 by have:=Hy.out;omega)
   by_cases c3:OldOk y (moO fr) (dyO fr)
   ·have Q2:=qh (B_true c3)
    have E:Hid (numO y (moO fr) (dyO fr)=ybI fr k):=qh (by
     unfold ybI begR
     rw [if_neg c1,if_pos c2,show yrO fr+k - 1=y by omega,if_neg ((old_moved hf.1 Hyy.out).1 c3)])
    clear hf hk c2 c3
    rw [ey] at W2
    go_enter Tryz.func252,Tryz.ntmps252
    go_wp2_with fail
    refine Calls.mono (impl_dateOf fr Hf.out _) ?_
    rintro e w1 ⟨rfl,hx1⟩
    simp only [datV]
    have Hbd:=qh (Boxed.new w1 [.int .i64 y,.int .i64 (moO fr),.int .i64 (dyO fr)] 265)
    go_wp2_with fail
    refine Calls.mono (impl_isYear_q Q1.out _) ?_
    rintro e w2 ⟨rfl,rfl⟩
    go_wp2_with fail
    refine Calls.mono (impl_IsOldDate_q Q2.out _) ?_
    rintro e w3 ⟨rfl,hx3⟩
    have n0:=(Hbd.out.ext hx3).at0
    have n1:=(Hbd.out.ext hx3).at1
    have n2:=(Hbd.out.ext hx3).at2
    go_wp2_with fail
    refine Calls.mono (impl_dayOf y (moO fr) (dyO fr) (by have:=Hyy.out;omega) (by have:=Hm.out;omega) (by have:=Hd.out;omega) _) ?_
    rintro e w4 ⟨rfl,hx4⟩
    rw [E.out]
    go_wp2_with fail
    go_ret
    exact ⟨rfl,Ext.trans exts hx4⟩
   ·have Q2:=qh (B_false c3)
    have E:Hid (numO y 3 1=ybI fr k):=qh (by
     have c4:moO fr=2∧dyO fr=29∧¬ y.tmod 4=0:=Classical.byContradiction (fun hh=>c3 ((old_moved hf.1 Hyy.out).2 hh))
     unfold ybI begR
     rw [if_neg c1,if_pos c2,show yrO fr+k - 1=y by omega,if_pos c4])
    clear hf hk c2 c3
    rw [ey] at W2
    go_enter Tryz.func252,Tryz.ntmps252
    go_wp2_with fail
    refine Calls.mono (impl_dateOf fr Hf.out _) ?_
    rintro e w1 ⟨rfl,hx1⟩
    simp only [datV]
    have Hbd:=qh (Boxed.new w1 [.int .i64 y,.int .i64 (moO fr),.int .i64 (dyO fr)] 265)
    go_wp2_with fail
    refine Calls.mono (impl_isYear_q Q1.out _) ?_
    rintro e w2 ⟨rfl,rfl⟩
    go_wp2_with fail
    refine Calls.mono (impl_IsOldDate_q Q2.out _) ?_
    rintro e w3 ⟨rfl,hx3⟩
    have n0:=(Hbd.out.ext hx3).at0
    have n1:=(Hbd.out.ext hx3).at1
    have n2:=(Hbd.out.ext hx3).at2
    have f1:=(Hbd.out.ext hx3).fz 1 (by simp)
    have f2:=(Hbd.out.ext hx3).fz 2 (by simp)
    have hz:w.heap.size ≤ w1.heap.size:=by have:=hx1.size;simp only [World.size_alloc] at this;omega
    go_wp2_with fail
    refine Calls.mono (impl_dayOf y 3 1 (by have:=Hyy.out;omega) (by omega) (by omega) _) ?_
    rintro e w4 ⟨rfl,hx4⟩
    rw [E.out]
    go_wp2_with fail
    go_ret
    refine ⟨rfl,Ext.trans ?_ hx4⟩
    repeat (with_reducible refine Ext.setCell ?_ (by exact hz) _)
    exact (Ext.trans exts hx1).trans (((Ext.refl w1).alloc _).trans hx3)
  ·have Q1:=qh (B_false (show ¬ (1 ≤ y∧y ≤ 2000) by have:=Hy.out;omega))
   have E:Hid (ybI fr k=730500):=qh (by unfold ybI;rw [if_neg c1,if_neg c2])
   clear hf hk c2
   rw [ey] at W2
   go_enter Tryz.func252,Tryz.ntmps252
   go_wp2_with fail
   refine Calls.mono (impl_dateOf fr Hf.out _) ?_
   rintro e w1 ⟨rfl,hx1⟩
   simp only [datV]
   go_wp2_with fail
   refine Calls.mono (impl_isYear_q Q1.out _) ?_
   rintro e w2 ⟨rfl,rfl⟩
   go_wp2_with fail
   go_ret
   exact ⟨by rw [E.out];rfl,exts⟩
set_option maxRecDepth 100000 in
set_option maxHeartbeats 4000000 in
theorem impl_regnalYear (nm:ByteArray) (fr t n:Int) (hf:0 ≤ fr∧fr ≤ 730499) (hn:n ≤ 730499) (w:World):Calls Tryz.prog 213 #[.agg #[.string nm,.int .i64 fr,.int .i64 t],.int .i64 n] w (RetX (.int .i64 (rgY fr n)) w):=by
 have Hf:=qh hf
 have Hn:=qh hn
 have Hr:=qh (rgY_spec hf.1 hn)
 have Hb:=qh (Boxed.new w [.string nm,.int .i64 fr,.int .i64 t] 224)
 clear hf hn
 go_enter Tryz.func213,Tryz.ntmps213
 go_wp2_with fail
 go_loopg [5] 2002 (fun k a wr=>∃ i:Nat,i+k=2002∧a=.int .i64 ((i:Int)+1)∧((i:Int)+1=1 ∨ begR fr ((i:Int)+1) ≤ n)∧(i:Int)+1 ≤ rgY fr n∧Ext w wr∧Boxed wr w.heap.size [.string nm,.int .i64 fr,.int .i64 t])
 case atStart=>exact ⟨0,by omega,rfl,.inl (by omega),by have:=Hr.out;omega,exts,Hb.out⟩
 case round =>
  obtain ⟨i,hi,rfl,hle,hir,hx,hb⟩:=hrel
  have Hle:=qh hle
  have Hb:=qh hb
  have n0:=hb.at0
  have n1:=hb.at1
  have n2:=hb.at2
  have V1:IntKind.i64.wrap ((i:Int)+1+1)=(i:Int)+1+1:=IntWalk.i64_in _ (by have:=Hr.out;omega)
  clear hle hb
  by_cases hc:ybI fr ((i:Int)+1+1) ≤ n
  ·have hc2:=(ybI_le Hf.out.1 (by omega) Hn.out).1 hc
   have Hlt:=qh (show (i:Int)+1+1 ≤ rgY fr n from by
    have h:=Hr.out
    by_cases e:(i:Int)+1=rgY fr n
    ·have:=h.2.2.2;rw [← e] at this;omega
    ·omega)
   have Hc2:=qh hc2
   clear hc2
   go_wp2_with fail
   refine Calls.mono (impl_yearBegin nm fr t ((i:Int)+1+1) Hf.out (by have:=Hr.out;omega) _) ?_
   rintro e w1 ⟨rfl,hx1⟩
   go_wp2_with fail
   go_roundg (2002 - (i+1))
   case measure=>have:=Hlt.out;have:=Hr.out;omega
   case rel=>exact ⟨i+1,by have:=Hlt.out;have:=Hr.out;omega,by rw [show ((i+1:Nat):Int)+1=(i:Int)+1+1 by omega],.inr (by rw [show ((i+1:Nat):Int)+1=(i:Int)+1+1 by omega];exact Hc2.out),by have:=Hlt.out;omega,hx.trans hx1,Hb.out.ext hx1⟩
  ·have E:Hid ((i:Int)+1=rgY fr n):=qh (rgY_is Hf.out.1 Hn.out (by omega) Hle.out (by
    have h:¬ begR fr ((i:Int)+1+1) ≤ n:=fun hh=>hc ((ybI_le Hf.out.1 (by omega) Hn.out).2 hh)
    omega)).symm
   go_wp2_with fail
   refine Calls.mono (impl_yearBegin nm fr t ((i:Int)+1+1) Hf.out (by have:=Hr.out;omega) _) ?_
   rintro e w1 ⟨rfl,hx1⟩
   go_wp2_with fail
   go_ret
   exact ⟨ret_int E.out,hx.trans hx1⟩
end Go.Proofs.YtechbeegbhlppaaGreatDoor
namespace Go.Proofs.YtechbeegbhlppaaGreatDoor
set_option linter.unusedVariables false
set_option linter.unusedSimpArgs false
open Go.RowKit
attribute [local go_sem] cell_onto
set_option maxHeartbeats 1000000 in
theorem indexFunc_reigns (v:Value) (l:List Nsp) (g:Nat) (caps:Array Value) (p:Nat → Prop) (w:World) (h:Nsps w 0 w.heap.size v l)
  (hg:∀ (args:Array Value) (w:World),(callFunc g args).run Tryz.prog w=.ok (.enter g args) w)
  (hf:∀ (i:Nat) (w' : World),i < l.length → Ext w w' → Calls Tryz.prog g (#[.agg #[.string (nspAt l i).nm,.int .i64 (nspAt l i).fr,.int .i64 (nspAt l i).to]] ++ caps) w' (RetX (.bool (B (p i))) w')) :
  Calls Tryz.prog 251 #[v,.func (.func g) #[] caps] w (RetX (.int .i64 (fstIx p l.length)) w):=by
 obtain ⟨A,c,rfl,hn,hc⟩:=h.len
 have H:=qh h
 have Hf:=qh hf
 clear h hf
 go_enter Tryz.func251,Tryz.ntmps251
 go_wp2_with fail
 go_loopg [5,8] l.length (fun k u i wr=>∃ j:Nat,j+k=l.length∧i=.int .i64 j∧Ext w wr∧∀ i,i < j → ¬ p i)
 case atStart=>exact ⟨0,by omega,rfl,Ext.refl _,fun i hi=>absurd hi (by omega)⟩
 case round =>
  obtain ⟨j,hj,rfl,hx,hok⟩:=hrel
  have Hok:=qh hok
  clear hok
  have hj0:(0:Int) ≤ (j:Int):=by omega
  by_cases hlt:j < l.length
  ·have hji:(j:Int) < (l.length:Int):=by omega
   obtain ⟨b,off,rfl,_,hb,h1,h2,h3⟩:=(H.out.ext hx (Nat.le_refl _)).at_ hlt
   obtain ⟨q,eq⟩:∃ q,B (p j)=q:=⟨_,rfl⟩
   have Hq:=qh eq
   clear eq
   go_wp2_with fail
   refine (Hf.out j wr hlt hx).mono ?_
   rintro e w1 ⟨rfl,hx1⟩
   rw [Hq.out]
   cases q with
   | true =>
    have E:=qh (fst_yes hlt (B_iff.1 Hq.out) Hok.out)
    go_wp2_with fail
    go_ret
    exact ⟨by rw [← E.out];rfl,exts⟩
   | false =>
    go_wp2_with fail
    go_roundg (l.length - (j+1))
    case measure=>omega
    case rel =>
     refine ⟨j+1,by omega,by go_num,exts,fun i hi=>?_⟩
     by_cases e:i=j
     ·rw [e];exact B_not.1 Hq.out
     ·exact Hok.out i (by omega)
  ·obtain rfl:j=l.length:=by omega
   have hji:¬ (l.length:Int) < (l.length:Int):=by omega
   have E:=qh (fst_no Hok.out)
   go_wp2_with fail
   go_ret
   exact ⟨by rw [← E.out];rfl,exts⟩
set_option maxHeartbeats 1000000 in
theorem containsFunc_reigns (v:Value) (l:List Nsp) (g:Nat) (caps:Array Value) (p:Nat → Prop) (w:World) (h:Nsps w 0 w.heap.size v l)
  (hg:∀ (args:Array Value) (w:World),(callFunc g args).run Tryz.prog w=.ok (.enter g args) w)
  (hf:∀ (i:Nat) (w' : World),i < l.length → Ext w w' → Calls Tryz.prog g (#[.agg #[.string (nspAt l i).nm,.int .i64 (nspAt l i).fr,.int .i64 (nspAt l i).to]] ++ caps) w' (RetX (.bool (B (p i))) w')) :
  Calls Tryz.prog 210 #[v,.func (.func g) #[] caps] w (RetX (.bool (B (0 ≤ fstIx p l.length))) w):=by
 have H:=qh (indexFunc_reigns v l g caps p w h hg hf)
 clear h hf hg
 go_enter Tryz.func210,Tryz.ntmps210
 go_wp2_with fail
 refine H.out.mono ?_
 rintro e w1 ⟨rfl,hx⟩
 clear H
 obtain ⟨r,hr⟩:∃ r,fstIx p l.length=r:=⟨_,rfl⟩
 have Hr:=qh hr
 rw [hr]
 clear hr
 go_wp2_with fail
 go_ret
 exact ⟨ret_bool (B_eq (by rw [Hr.out];simp)),exts⟩
set_option maxHeartbeats 1000000 in
theorem impl_covers (nm:ByteArray) (fr t n:Int) (w:World):Calls Tryz.prog 212 #[.agg #[.string nm,.int .i64 fr,.int .i64 t],.int .i64 n] w (RetX (.bool (B (fr ≤ n∧n ≤ t))) w):=by
 go_enter Tryz.func212,Tryz.ntmps212
 go_wp2_with fail
 refine Calls.mono (impl_within n fr t _) ?_
 rintro e w1 ⟨rfl,rfl⟩
 go_wp2_with fail
 go_ret
 exact ⟨rfl,exts⟩
theorem impl_covers_q {nm:ByteArray} {fr t n:Int} {b:Bool} (hb:B (fr ≤ n∧n ≤ t)=b) (w:World):Calls Tryz.prog 212 #[.agg #[.string nm,.int .i64 fr,.int .i64 t],.int .i64 n] w (RetX (.bool b) w):=by
 subst hb;exact impl_covers nm fr t n w
def HoldX (x:Nsp) (c:Cls) (n:Int):Prop:=x.nm=c.kg∧(x.fr ≤ n∧n ≤ x.to)∧rgY x.fr n=c.nu
set_option maxRecDepth 100000 in
set_option maxHeartbeats 4000000 in
theorem impl_holds_f (x:Nsp) (c:Cls) (n:Int) (hn:0 ≤ n∧n ≤ 730499) (hx:0 ≤ x.fr∧x.fr ≤ 730499) (g1 g2:Nat) (w:World) (h1:g1 < w.heap.size) (h2:g2 < w.heap.size)
  (c1:w.cell? ⟨g1,1,none⟩=some (.int .i64 c.nu)) (c7:w.cell? ⟨g1,7,none⟩=some (.string c.kg)) (c0:w.cell? ⟨g2,0,none⟩=some (.int .i64 n)) :
  Calls Tryz.prog 211 #[.agg #[.string x.nm,.int .i64 x.fr,.int .i64 x.to],.pointer (some ⟨g1,0,none⟩),.pointer (some ⟨g2,0,none⟩)] w (RetX (.bool (B (HoldX x c n))) w):=by
 have hs1:g1 < w.heap.size+1:=by omega
 have hs2:g2 < w.heap.size+1:=by omega
 have Hn:=qh hn
 have Hx:=qh hx
 by_cases e:x.nm=c.kg
 ·have T:=str_is e
  by_cases hc:x.fr ≤ n∧n ≤ x.to
  ·have Q:=qh (B_true hc)
   by_cases hr:rgY x.fr n=c.nu
   ·have D1:decide (rgY x.fr n=c.nu)=true:=decide_eq_true hr
    have D2:(rgY x.fr n == c.nu)=true:=by simpa using hr
    have E:=qh (B_true (show HoldX x c n from ⟨e,hc,hr⟩))
    clear e hc hr hn hx
    go_enter Tryz.func211,Tryz.ntmps211
    go_wp2_with fail
    (refine wp_region_onto prog_mixed (by kernel_rfl) ?_;(repeat (go_big_quiet_step ((first | (go_at_call 212;with_reducible exact onto_callX (impl_covers_q Q.out _)) | (go_at_call 213;with_reducible exact onto_callX (impl_regnalYear x.nm x.fr x.to n Hx.out Hn.out.2 _))))));refine onto_end ?_;intro w1 hx1)
    go_wp2_with fail
    go_ret
    exact ⟨ret_bool (by rw [E.out]),exts⟩
   ·have D1:decide (rgY x.fr n=c.nu)=false:=decide_eq_false hr
    have D2:(rgY x.fr n == c.nu)=false:=by simpa using hr
    have E:=qh (B_false (show ¬ HoldX x c n from fun hh=>hr hh.2.2))
    clear e hc hr hn hx
    go_enter Tryz.func211,Tryz.ntmps211
    go_wp2_with fail
    (refine wp_region_onto prog_mixed (by kernel_rfl) ?_;(repeat (go_big_quiet_step ((first | (go_at_call 212;with_reducible exact onto_callX (impl_covers_q Q.out _)) | (go_at_call 213;with_reducible exact onto_callX (impl_regnalYear x.nm x.fr x.to n Hx.out Hn.out.2 _))))));refine onto_end ?_;intro w1 hx1)
    go_wp2_with fail
    go_ret
    exact ⟨ret_bool (by rw [E.out]),exts⟩
  ·have Q:=qh (B_false hc)
   have E:=qh (B_false (show ¬ HoldX x c n from fun hh=>hc hh.2.1))
   clear e hc hn hx
   go_enter Tryz.func211,Tryz.ntmps211
   go_wp2_with fail
   (refine wp_region_onto prog_mixed (by kernel_rfl) ?_;(repeat (go_big_quiet_step (((go_at_call 212;with_reducible exact onto_callX (impl_covers_q Q.out _))))));refine onto_end ?_;intro w1 hx1)
   go_wp2_with fail
   go_ret
   exact ⟨ret_bool (by rw [E.out]),exts⟩
 ·have T:=str_ne e
  have E:=qh (B_false (show ¬ HoldX x c n from fun hh=>e hh.1))
  clear e hn hx
  go_enter Tryz.func211,Tryz.ntmps211
  go_wp2_with fail
  (refine wp_region_onto prog_mixed (by kernel_rfl) ?_;(repeat (go_big_quiet_step ((fail))));refine onto_end ?_;intro w1 hx1)
  go_wp2_with fail
  go_ret
  exact ⟨ret_bool (by rw [E.out]),exts⟩
theorem st_cases {s:Int} (h:0 ≤ s∧s ≤ 6):s=0 ∨ s=1 ∨ s=2 ∨ s=3 ∨ s=4 ∨ s=5 ∨ s=6:=by omega
set_option maxRecDepth 100000 in
set_option maxHeartbeats 2000000 in
theorem impl_beginOf (s y:Int) (hs:0 ≤ s∧s ≤ 6) (h:2 ≤ y∧y ≤ 2000) (w:World):Calls Tryz.prog 299 #[.int .i64 s,.int .i64 y] w (RetX (.int .i64 (begS s y)) w):=by
 have Hh:=qh h
 have x1a:IntKind.i64.wrap (y - 1)=y - 1:=IntWalk.i64_in _ (by omega)
 have x1b:wrap64 (y - 1)=y - 1:=IntWalk.wrap64_in _ (by omega)
 clear h
 rcases st_cases hs with rfl | rfl | rfl | rfl | rfl | rfl | rfl
 all_goals clear hs
 ·have E:Hid (nyO y=begS 0 y):=qh rfl
  go_enter Tryz.func299,Tryz.ntmps299
  go_wp2_with fail
  refine Calls.mono (impl_newYear y (by have:=Hh.out;omega) _) ?_
  rintro e w1 ⟨rfl,rfl⟩
  rw [E.out]
  go_wp2_with fail
  go_ret
  exact ⟨rfl,exts⟩
 ·have E:Hid (numO (y) 3 1=begS 1 y):=qh rfl
  go_enter Tryz.func299,Tryz.ntmps299
  go_wp2_with fail
  refine Calls.mono (impl_dayOf (y) 3 1 (by have:=Hh.out;omega) (by omega) (by omega) _) ?_
  rintro e w1 ⟨rfl,hx1⟩
  rw [E.out]
  go_wp2_with fail
  go_ret
  exact ⟨rfl,exts⟩
 ·have E:Hid (numO (y) 3 25=begS 2 y):=qh rfl
  go_enter Tryz.func299,Tryz.ntmps299
  go_wp2_with fail
  refine Calls.mono (impl_dayOf (y) 3 25 (by have:=Hh.out;omega) (by omega) (by omega) _) ?_
  rintro e w1 ⟨rfl,hx1⟩
  rw [E.out]
  go_wp2_with fail
  go_ret
  exact ⟨rfl,exts⟩
 ·have E:Hid (numO (y - 1) 3 25=begS 3 y):=qh rfl
  go_enter Tryz.func299,Tryz.ntmps299
  go_wp2_with fail
  refine Calls.mono (impl_dayOf (y - 1) 3 25 (by have:=Hh.out;omega) (by omega) (by omega) _) ?_
  rintro e w1 ⟨rfl,hx1⟩
  rw [E.out]
  go_wp2_with fail
  go_ret
  exact ⟨rfl,exts⟩
 ·have E:Hid (easO y=begS 4 y):=qh rfl
  go_enter Tryz.func299,Tryz.ntmps299
  go_wp2_with fail
  refine Calls.mono (impl_oldEaster y (by have:=Hh.out;omega) _) ?_
  rintro e w1 ⟨rfl,hx1⟩
  rw [E.out]
  go_wp2_with fail
  go_ret
  exact ⟨rfl,exts⟩
 ·have E:Hid (numO (y - 1) 12 25=begS 5 y):=qh rfl
  go_enter Tryz.func299,Tryz.ntmps299
  go_wp2_with fail
  refine Calls.mono (impl_dayOf (y - 1) 12 25 (by have:=Hh.out;omega) (by omega) (by omega) _) ?_
  rintro e w1 ⟨rfl,hx1⟩
  rw [E.out]
  go_wp2_with fail
  go_ret
  exact ⟨rfl,exts⟩
 ·have E:Hid (numO (y - 1) 9 1=begS 6 y):=qh rfl
  go_enter Tryz.func299,Tryz.ntmps299
  go_wp2_with fail
  refine Calls.mono (impl_dayOf (y - 1) 9 1 (by have:=Hh.out;omega) (by omega) (by omega) _) ?_
  rintro e w1 ⟨rfl,hx1⟩
  rw [E.out]
  go_wp2_with fail
  go_ret
  exact ⟨rfl,exts⟩
set_option maxRecDepth 100000 in
set_option maxHeartbeats 4000000 in
theorem spec_l06Begin (s y:Int) (hs:0 ≤ s∧s ≤ 6) (h:2 ≤ y∧y ≤ 2000) (w:World):Calls Tryz.prog 290 #[.int .i64 s,.int .i64 y] w (RetX (.int .i64 (begS s y)) w):=by
 have Hh:=qh h
 have x2a:IntKind.i64.wrap (y - 1)=y - 1:=IntWalk.i64_in _ (by omega)
 have x2b:wrap64 (y - 1)=y - 1:=IntWalk.wrap64_in _ (by omega)
 have Hb:=qh (Boxed.new w [.int .i64 y,.int .i64 1,.int .i64 1] 265)
 have n0:=Hb.out.at0
 have n1:=Hb.out.at1
 have n2:=Hb.out.at2
 have f0:=Hb.out.fz 0 (by simp)
 have f1:=Hb.out.fz 1 (by simp)
 have f2:=Hb.out.fz 2 (by simp)
 clear h
 rcases st_cases hs with rfl | rfl | rfl | rfl | rfl | rfl | rfl
 all_goals clear hs
 ·have E:Hid (numO (y) 1 1=begS 0 y):=qh (num_11 y)
  go_enter Tryz.func290,Tryz.ntmps290
  go_wp2_with fail
  refine Calls.mono (spec_l01Number (y) 1 1 (by have:=Hh.out;omega) (by omega) (by omega) _) ?_
  rintro e w2 ⟨rfl,hx2⟩
  rw [E.out]
  go_wp2_with fail
  go_ret
  exact ⟨rfl,exts⟩
 ·have E:Hid (numO (y) 3 1=begS 1 y):=qh (rfl)
  go_enter Tryz.func290,Tryz.ntmps290
  go_wp2_with fail
  refine Calls.mono (spec_l01Number (y) 3 1 (by have:=Hh.out;omega) (by omega) (by omega) _) ?_
  rintro e w2 ⟨rfl,hx2⟩
  rw [E.out]
  go_wp2_with fail
  go_ret
  exact ⟨rfl,exts⟩
 ·have E:Hid (numO (y) 3 25=begS 2 y):=qh (rfl)
  go_enter Tryz.func290,Tryz.ntmps290
  go_wp2_with fail
  refine Calls.mono (spec_l01Number (y) 3 25 (by have:=Hh.out;omega) (by omega) (by omega) _) ?_
  rintro e w2 ⟨rfl,hx2⟩
  rw [E.out]
  go_wp2_with fail
  go_ret
  exact ⟨rfl,exts⟩
 ·have E:Hid (numO (y - 1) 3 25=begS 3 y):=qh (rfl)
  go_enter Tryz.func290,Tryz.ntmps290
  go_wp2_with fail
  refine Calls.mono (spec_l01Number (y - 1) 3 25 (by have:=Hh.out;omega) (by omega) (by omega) _) ?_
  rintro e w2 ⟨rfl,hx2⟩
  rw [E.out]
  go_wp2_with fail
  go_ret
  exact ⟨rfl,exts⟩
 ·have E:Hid (easO y=begS 4 y):=qh rfl
  have Hm:=qh (eas_md (show 1 ≤ y by have:=Hh.out;omega))
  go_enter Tryz.func290,Tryz.ntmps290
  go_wp2_with fail
  refine Calls.mono (spec_l04Old y (by have:=Hh.out;omega) _) ?_
  rintro e w1 ⟨rfl,hx1⟩
  simp only [easV]
  replace n0:=(Hb.out.ext hx1).at0
  replace n1:=(Hb.out.ext hx1).at1
  replace n2:=(Hb.out.ext hx1).at2
  replace f0:=(Hb.out.ext hx1).fz 0 (by simp)
  replace f1:=(Hb.out.ext hx1).fz 1 (by simp)
  replace f2:=(Hb.out.ext hx1).fz 2 (by simp)
  go_wp2_with fail
  refine Calls.mono (spec_l01Number y ((easS y).tdiv 31) ((easS y).tmod 31+1) (by have:=Hh.out;omega) (by have:=Hm.out;omega) (by have:=Hm.out;omega) _) ?_
  rintro e w2 ⟨rfl,hx2⟩
  rw [show numO y ((easS y).tdiv 31) ((easS y).tmod 31+1)=begS 4 y from rfl]
  go_wp2_with fail
  go_ret
  refine ⟨rfl,Ext.trans ?_ hx2⟩
  repeat (with_reducible refine Ext.setCell ?_ (by exact Nat.le_refl _) _)
  exact Ext.trans exts hx1
 ·have E:Hid (numO (y - 1) 12 25=begS 5 y):=qh (rfl)
  go_enter Tryz.func290,Tryz.ntmps290
  go_wp2_with fail
  refine Calls.mono (spec_l01Number (y - 1) 12 25 (by have:=Hh.out;omega) (by omega) (by omega) _) ?_
  rintro e w2 ⟨rfl,hx2⟩
  rw [E.out]
  go_wp2_with fail
  go_ret
  exact ⟨rfl,exts⟩
 ·have E:Hid (numO (y - 1) 9 1=begS 6 y):=qh (rfl)
  go_enter Tryz.func290,Tryz.ntmps290
  go_wp2_with fail
  refine Calls.mono (spec_l01Number (y - 1) 9 1 (by have:=Hh.out;omega) (by omega) (by omega) _) ?_
  rintro e w2 ⟨rfl,hx2⟩
  rw [E.out]
  go_wp2_with fail
  go_ret
  exact ⟨rfl,exts⟩
end Go.Proofs.YtechbeegbhlppaaGreatDoor
namespace Go.Proofs.YtechbeegbhlppaaGreatDoor
set_option linter.unusedVariables false
set_option linter.unusedSimpArgs false
open Go.RowKit
attribute [local go_sem] cell_onto date_year
theorem beg_bd {s y:Int} (h:2 ≤ y∧y ≤ 2000):0 ≤ begS s y∧begS s y ≤ 2002000:=by
 have e:=eas_small (show 1 ≤ y by omega) (show y ≤ 5000 by omega)
 have a:=ny_bd (show 1 ≤ y by omega) (show y ≤ 5000 by omega)
 have b:=ny_bd (show 1 ≤ y - 1 by omega) (show y - 1 ≤ 5000 by omega)
 have c1:=num_small (show 1 ≤ y by omega) (show y ≤ 5000 by omega) (mo:=3) (d:=1) (by omega) (by omega)
 have c2:=num_small (show 1 ≤ y by omega) (show y ≤ 5000 by omega) (mo:=3) (d:=25) (by omega) (by omega)
 have c3:=num_small (show 1 ≤ y - 1 by omega) (show y - 1 ≤ 5000 by omega) (mo:=3) (d:=25) (by omega) (by omega)
 have c4:=num_small (show 1 ≤ y - 1 by omega) (show y - 1 ≤ 5000 by omega) (mo:=12) (d:=25) (by omega) (by omega)
 have c5:=num_small (show 1 ≤ y - 1 by omega) (show y - 1 ≤ 5000 by omega) (mo:=9) (d:=1) (by omega) (by omega)
 have d1:=(cumO_bd y 2).1
 have d3:=(cumO_bd (y - 1) 2).1
 have d4:=(cumO_bd (y - 1) 11).1
 have d5:=(cumO_bd (y - 1) 8).1
 have f1:numO y 3 1=nyO y+1 - 1+cumO y 2:=rfl
 have f2:numO y 3 25=nyO y+25 - 1+cumO y 2:=rfl
 have f3:numO (y - 1) 3 25=nyO (y - 1)+25 - 1+cumO (y - 1) 2:=rfl
 have f4:numO (y - 1) 12 25=nyO (y - 1)+25 - 1+cumO (y - 1) 11:=rfl
 have f5:numO (y - 1) 9 1=nyO (y - 1)+1 - 1+cumO (y - 1) 8:=rfl
 unfold begS
 repeat' split
 all_goals omega
theorem inYr_B {s n y:Int} (h:2 ≤ y∧y ≤ 1999) {b:Bool} (hb:B (begS s y ≤ n∧n ≤ begS s (y+1) - 1)=b):b=B (InYr s n y):=by
 rw [← hb]
 exact B_congr ⟨fun hh=>⟨h,hh.1,hh.2⟩,fun hh=>⟨hh.2.1,hh.2.2⟩⟩
theorem yrS_hit {s n:Int} {i:Nat} (hi:i < 3) (h:InYr s n (yrO n - 1+i)) (hno:∀ j:Nat,j < i → ¬ InYr s n (yrO n - 1+j)):yrS s n=yrO n - 1+i:=by
 unfold yrS
 have:i=0 ∨ i=1 ∨ i=2:=by omega
 rcases this with rfl | rfl | rfl
 ·rw [show yrO n - 1+((0:Nat):Int)=yrO n - 1 by omega] at *
  rw [B_true h];rfl
 ·have h0:=hno 0 (by omega)
  rw [show yrO n - 1+((0:Nat):Int)=yrO n - 1 by omega] at h0
  rw [show yrO n - 1+((1:Nat):Int)=yrO n by omega] at *
  rw [B_false h0,B_true h];rfl
 ·have h0:=hno 0 (by omega)
  have h1:=hno 1 (by omega)
  rw [show yrO n - 1+((0:Nat):Int)=yrO n - 1 by omega] at h0
  rw [show yrO n - 1+((1:Nat):Int)=yrO n by omega] at h1
  rw [show yrO n - 1+((2:Nat):Int)=yrO n+1 by omega] at *
  rw [B_false h0,B_false h1,B_true h];rfl
theorem yrS_no {s n:Int} (hno:∀ j:Nat,j < 3 → ¬ InYr s n (yrO n - 1+j)):yrS s n=0:=by
 unfold yrS
 have h0:=hno 0 (by omega)
 have h1:=hno 1 (by omega)
 have h2:=hno 2 (by omega)
 rw [show yrO n - 1+((0:Nat):Int)=yrO n - 1 by omega] at h0
 rw [show yrO n - 1+((1:Nat):Int)=yrO n by omega] at h1
 rw [show yrO n - 1+((2:Nat):Int)=yrO n+1 by omega] at h2
 rw [B_false h0,B_false h1,B_false h2];rfl
noncomputable def yrV (s n:Int):Value:=.tuple #[.int .i64 (yrS s n),.bool (B (yrS s n ≠ 0))]
theorem yrV_hit {s n:Int} {i:Nat} (hi:i < 3) (h:InYr s n (yrO n - 1+i)) (hno:∀ j:Nat,j < i → ¬ InYr s n (yrO n - 1+j)):yrV s n=.tuple #[.int .i64 (yrO n - 1+i),.bool true]:=by
 unfold yrV
 rw [yrS_hit hi h hno,B_true (by have:=h.1;omega)]
theorem yrV_no {s n:Int} (hno:∀ j:Nat,j < 3 → ¬ InYr s n (yrO n - 1+j)):yrV s n=.tuple #[.int .i64 0,.bool false]:=by
 unfold yrV
 rw [yrS_no hno,B_false (fun h=>h rfl)]
set_option maxHeartbeats 1000000 in
theorem impl_yearSpan (s y:Int) (hs:0 ≤ s∧s ≤ 6) (h:2 ≤ y∧y ≤ 1999) (w:World):Calls Tryz.prog 254 #[.int .i64 s,.int .i64 y] w (RetX (.agg #[.int .i64 (begS s y),.int .i64 (begS s (y+1) - 1)]) w):=by
 have Hs:=qh hs
 have Hh:=qh h
 have W1:IntKind.i64.wrap (y+1)=y+1:=IntWalk.i64_in _ (by omega)
 have W2:IntKind.i64.wrap (begS s (y+1) - 1)=begS s (y+1) - 1:=IntWalk.i64_in _ (by have:=beg_bd (s:=s) (show 2 ≤ y+1∧y+1 ≤ 2000 by omega);omega)
 have W3:wrap64 (begS s (y+1) - 1)=begS s (y+1) - 1:=IntWalk.wrap64_in _ (by have:=beg_bd (s:=s) (show 2 ≤ y+1∧y+1 ≤ 2000 by omega);omega)
 have Hb:=qh (Boxed.new w [.int .i64 0,.int .i64 0] 111)
 clear hs h
 go_enter Tryz.func254,Tryz.ntmps254
 go_wp2_with fail
 refine Calls.mono (impl_beginOf s y Hs.out (by have:=Hh.out;omega) _) ?_
 rintro e w1 ⟨rfl,hx1⟩
 go_wp2_with fail
 refine Calls.mono (impl_beginOf s (y+1) Hs.out (by have:=Hh.out;omega) _) ?_
 rintro e w2 ⟨rfl,hx2⟩
 have hb:=(Hb.out.ext hx1).ext hx2
 have n0:=hb.at0
 have n1:=hb.at1
 have f0:=hb.fz 0 (by simp)
 have f1:=hb.fz 1 (by simp)
 clear hb
 go_wp2_with fail
 refine bodyPost_ret (v:=.agg #[.int .i64 (begS s y),.int .i64 (begS s (y+1) - 1)]) (by simp [results,Tryz.results254,go_sem, *]) rfl ⟨rfl,?_⟩
 repeat (with_reducible refine Ext.setCell ?_ (by first | exact Nat.le_refl _ | exact Nat.le_add_right _ _) _)
 exact Ext.trans (Ext.trans exts hx1) hx2
set_option maxRecDepth 100000 in
set_option maxHeartbeats 4000000 in
theorem impl_yearOn (s n:Int) (hs:0 ≤ s∧s ≤ 6) (h:0 ≤ n∧n ≤ 730499) (w:World):Calls Tryz.prog 214 #[.int .i64 s,.int .i64 n] w (RetX (yrV s n) w):=by
 have Hs:=qh hs
 have Hn:=qh h
 have hy:=show 1 ≤ yrO n∧yrO n ≤ 2000 from ⟨yr_pos h.1,yr_max h.2⟩
 have Hy:=qh hy
 have W1:IntKind.i64.wrap (yrO n+1)=yrO n+1:=IntWalk.i64_in _ (by omega)
 have W2:IntKind.i64.wrap (yrO n - 1)=yrO n - 1:=IntWalk.i64_in _ (by omega)
 clear hs h hy
 go_enter Tryz.func214,Tryz.ntmps214
 go_wp2_with fail
 refine Calls.mono (impl_dateOf n Hn.out _) ?_
 rintro e w1 ⟨rfl,hx1⟩
 simp only [datV]
 go_wp2_with fail
 go_loopg [8,7] 3 (fun k u a wr=>∃ i:Nat,i+k=3∧a=.int .i64 (yrO n - 1+(i:Int))∧(∀ j:Nat,j < i → ¬ InYr s n (yrO n - 1+j))∧Ext w wr)
 case atStart=>exact ⟨0,by omega,by rw [show yrO n - 1+((0:Nat):Int)=yrO n - 1 by omega],fun j hj=>absurd hj (by omega),hx1⟩
 case round =>
  obtain ⟨i,hi,rfl,hno,hx⟩:=hrel
  have Hno:=qh hno
  clear hno
  obtain ⟨y,ey⟩:∃ y,yrO n - 1+(i:Int)=y:=⟨_,rfl⟩
  have Ey:=qh ey
  rw [ey]
  have Hyy:=qh (show 0 ≤ y∧y ≤ 2002 by have:=Hy.out;omega)
  have V1:IntKind.i64.wrap (y+1)=y+1:=IntWalk.i64_in _ (by have:=Hyy.out;omega)
  have Hnx:=qh (show ¬ InYr s n y → ∀ j:Nat,j < i+1 → ¬ InYr s n (yrO n - 1+j) from fun hh j hj=>by
   by_cases e:j=i
   ·subst e;rw [ey];exact hh
   ·exact Hno.out j (by omega))
  by_cases hi3:i < 3
  ·have hle:y ≤ yrO n+1:=by omega
   by_cases hs:2 ≤ y∧y ≤ 1999
   ·have Q1:=qh (B_true hs)
    have V2:IntKind.i64.wrap (begS s (y+1) - 1)=begS s (y+1) - 1:=IntWalk.i64_in _ (by have:=beg_bd (s:=s) (show 2 ≤ y+1∧y+1 ≤ 2000 by omega);omega)
    obtain ⟨q,eq⟩:∃ q,B (begS s y ≤ n∧n ≤ begS s (y+1) - 1)=q:=⟨_,rfl⟩
    have Hq:=qh eq
    have Hi:=qh (inYr_B (s:=s) (n:=n) hs eq)
    have Hys:=qh hs
    clear eq hs ey
    cases q
    ·go_wp2_with fail
     refine Calls.mono (impl_isStyleYear y _) ?_
     rintro e w2 ⟨rfl,rfl⟩
     rw [Q1.out]
     go_wp2_with fail
     refine Calls.mono (impl_yearSpan s y Hs.out Hys.out _) ?_
     rintro e w3 ⟨rfl,hx3⟩
     go_wp2_with fail
     refine Calls.mono (impl_within n (begS s y) (begS s (y+1) - 1) _) ?_
     rintro e w4 ⟨rfl,rfl⟩
     rw [Hq.out]
     go_wp2_with fail
     go_roundg (3 - (i+1))
     case measure=>omega
     case rel=>exact ⟨i+1,by omega,by rw [← Ey.out];show _=Value.int .i64 (yrO n - 1+((i+1:Nat):Int));rw [show yrO n - 1+((i+1:Nat):Int)=yrO n - 1+(i:Int)+1 by omega],Hnx.out (B_not.1 Hi.out.symm),hx.trans (Ext.trans hx3 exts)⟩
    ·have E:=qh (yrV_hit hi3 (by rw [Ey.out];exact B_iff.1 Hi.out.symm) Hno.out)
     rw [Ey.out] at E
     go_wp2_with fail
     refine Calls.mono (impl_isStyleYear y _) ?_
     rintro e w2 ⟨rfl,rfl⟩
     rw [Q1.out]
     go_wp2_with fail
     refine Calls.mono (impl_yearSpan s y Hs.out Hys.out _) ?_
     rintro e w3 ⟨rfl,hx3⟩
     go_wp2_with fail
     refine Calls.mono (impl_within n (begS s y) (begS s (y+1) - 1) _) ?_
     rintro e w4 ⟨rfl,rfl⟩
     rw [Hq.out]
     go_wp2_with fail
     go_ret2
     exact ⟨by rw [E.out];rfl,hx.trans (Ext.trans hx3 exts)⟩
   ·have Q1:=qh (B_false hs)
    have Hni:=qh (show ¬ InYr s n y from fun hh=>hs hh.1)
    clear hs
    ·go_wp2_with fail
     refine Calls.mono (impl_isStyleYear y _) ?_
     rintro e w2 ⟨rfl,rfl⟩
     rw [Q1.out]
     go_wp2_with fail
     go_roundg (3 - (i+1))
     case measure=>omega
     case rel=>exact ⟨i+1,by omega,by rw [← Ey.out];show _=Value.int .i64 (yrO n - 1+((i+1:Nat):Int));rw [show yrO n - 1+((i+1:Nat):Int)=yrO n - 1+(i:Int)+1 by omega],Hnx.out Hni.out,hx⟩
  ·obtain rfl:i=3:=by omega
   have hle:¬ y ≤ yrO n+1:=by omega
   have E:=qh (yrV_no Hno.out)
   go_wp2_with fail
   go_ret2
   exact ⟨by rw [E.out];rfl,hx⟩
set_option maxRecDepth 100000 in
set_option maxHeartbeats 4000000 in
theorem spec_l06On (s n:Int) (hs:0 ≤ s∧s ≤ 6) (h:0 ≤ n∧n ≤ 730499) (w:World):Calls Tryz.prog 243 #[.int .i64 s,.int .i64 n] w (RetX (yrV s n) w):=by
 have Hs:=qh hs
 have Hn:=qh h
 have hy:=show 1 ≤ yrO n∧yrO n ≤ 2000 from ⟨yr_pos h.1,yr_max h.2⟩
 have Hy:=qh hy
 have W1:IntKind.i64.wrap (yrO n+1)=yrO n+1:=IntWalk.i64_in _ (by omega)
 have W2:IntKind.i64.wrap (yrO n - 1)=yrO n - 1:=IntWalk.i64_in _ (by omega)
 clear hs h hy
 go_enter Tryz.func243,Tryz.ntmps243
 go_wp2_with fail
 refine Calls.mono (spec_l01Old n Hn.out _) ?_
 rintro e w1 ⟨rfl,hx1⟩
 simp only [datV]
 go_wp2_with fail
 go_loopg [7] 3 (fun k a wr=>∃ i:Nat,i+k=3∧a=.int .i64 (yrO n - 1+(i:Int))∧(∀ j:Nat,j < i → ¬ InYr s n (yrO n - 1+j))∧Ext w wr)
 case atStart=>exact ⟨0,by omega,by rw [show yrO n - 1+((0:Nat):Int)=yrO n - 1 by omega],fun j hj=>absurd hj (by omega),hx1⟩
 case round =>
  obtain ⟨i,hi,rfl,hno,hx⟩:=hrel
  have Hno:=qh hno
  clear hno
  obtain ⟨y,ey⟩:∃ y,yrO n - 1+(i:Int)=y:=⟨_,rfl⟩
  have Ey:=qh ey
  rw [ey]
  have Hyy:=qh (show 0 ≤ y∧y ≤ 2002 by have:=Hy.out;omega)
  have V1:IntKind.i64.wrap (y+1)=y+1:=IntWalk.i64_in _ (by have:=Hyy.out;omega)
  have Hnx:=qh (show ¬ InYr s n y → ∀ j:Nat,j < i+1 → ¬ InYr s n (yrO n - 1+j) from fun hh j hj=>by
   by_cases e:j=i
   ·subst e;rw [ey];exact hh
   ·exact Hno.out j (by omega))
  by_cases hi3:i < 3
  ·have hle:y ≤ yrO n+1:=by omega
   by_cases hs:2 ≤ y∧y ≤ 1999
   ·have Q1:=qh (B_true hs)
    have V2:IntKind.i64.wrap (begS s (y+1) - 1)=begS s (y+1) - 1:=IntWalk.i64_in _ (by have:=beg_bd (s:=s) (show 2 ≤ y+1∧y+1 ≤ 2000 by omega);omega)
    obtain ⟨q,eq⟩:∃ q,B (begS s y ≤ n∧n ≤ begS s (y+1) - 1)=q:=⟨_,rfl⟩
    have Hq:=qh eq
    have Hi:=qh (inYr_B (s:=s) (n:=n) hs eq)
    have Hys:=qh hs
    clear eq hs ey
    cases q
    ·go_wp2_with fail
     refine Calls.mono (spec_l06Year y _) ?_
     rintro e w2 ⟨rfl,rfl⟩
     rw [Q1.out]
     go_wp2_with fail
     refine Calls.mono (spec_l06Begin s y Hs.out (by have:=Hys.out;omega) _) ?_
     rintro e w3 ⟨rfl,hx3⟩
     go_wp2_with fail
     refine Calls.mono (spec_l06Begin s (y+1) Hs.out (by have:=Hys.out;omega) _) ?_
     rintro e w4 ⟨rfl,hx4⟩
     go_wp2_with fail
     refine Calls.mono (spec_l01In n (begS s y) (begS s (y+1) - 1) _) ?_
     rintro e w5 ⟨rfl,rfl⟩
     rw [Hq.out]
     go_wp2_with fail
     go_roundg (3 - (i+1))
     case measure=>omega
     case rel=>exact ⟨i+1,by omega,by rw [← Ey.out];show _=Value.int .i64 (yrO n - 1+((i+1:Nat):Int));rw [show yrO n - 1+((i+1:Nat):Int)=yrO n - 1+(i:Int)+1 by omega],Hnx.out (B_not.1 Hi.out.symm),(hx.trans hx3).trans hx4⟩
    ·have E:=qh (yrV_hit hi3 (by rw [Ey.out];exact B_iff.1 Hi.out.symm) Hno.out)
     rw [Ey.out] at E
     go_wp2_with fail
     refine Calls.mono (spec_l06Year y _) ?_
     rintro e w2 ⟨rfl,rfl⟩
     rw [Q1.out]
     go_wp2_with fail
     refine Calls.mono (spec_l06Begin s y Hs.out (by have:=Hys.out;omega) _) ?_
     rintro e w3 ⟨rfl,hx3⟩
     go_wp2_with fail
     refine Calls.mono (spec_l06Begin s (y+1) Hs.out (by have:=Hys.out;omega) _) ?_
     rintro e w4 ⟨rfl,hx4⟩
     go_wp2_with fail
     refine Calls.mono (spec_l01In n (begS s y) (begS s (y+1) - 1) _) ?_
     rintro e w5 ⟨rfl,rfl⟩
     rw [Hq.out]
     go_wp2_with fail
     go_ret2
     exact ⟨by rw [E.out];rfl,(hx.trans hx3).trans hx4⟩
   ·have Q1:=qh (B_false hs)
    have Hni:=qh (show ¬ InYr s n y from fun hh=>hs hh.1)
    clear hs
    ·go_wp2_with fail
     refine Calls.mono (spec_l06Year y _) ?_
     rintro e w2 ⟨rfl,rfl⟩
     rw [Q1.out]
     go_wp2_with fail
     go_roundg (3 - (i+1))
     case measure=>omega
     case rel=>exact ⟨i+1,by omega,by rw [← Ey.out];show _=Value.int .i64 (yrO n - 1+((i+1:Nat):Int));rw [show yrO n - 1+((i+1:Nat):Int)=yrO n - 1+(i:Int)+1 by omega],Hnx.out Hni.out,hx⟩
  ·obtain rfl:i=3:=by omega
   have hle:¬ y ≤ yrO n+1:=by omega
   have E:=qh (yrV_no Hno.out)
   go_wp2_with fail
   go_ret2
   exact ⟨by rw [E.out];rfl,hx⟩
end Go.Proofs.YtechbeegbhlppaaGreatDoor
namespace Go.Proofs.YtechbeegbhlppaaGreatDoor
set_option linter.unusedVariables false
set_option linter.unusedSimpArgs false
open Go.RowKit
attribute [local go_sem] cell_onto
def fxL:List Value:=[.int .i64 0,.int .i64 1,.int .i64 1,.int .i64 0,.int .i64 1,.int .i64 6,.int .i64 0,.int .i64 2,.int .i64 2,.int .i64 0,.int .i64 3,.int .i64 25,.int .i64 0,.int .i64 6,.int .i64 24,.int .i64 0,.int .i64 6,.int .i64 29,.int .i64 0,.int .i64 8,.int .i64 10,.int .i64 0,.int .i64 8,.int .i64 15,.int .i64 0,.int .i64 9,.int .i64 29,.int .i64 0,.int .i64 11,.int .i64 1,.int .i64 0,.int .i64 11,.int .i64 11,.int .i64 0,.int .i64 11,.int .i64 30,.int .i64 0,.int .i64 12,.int .i64 6,.int .i64 0,.int .i64 12,.int .i64 25]
def mvL:List Value:=[.int .i64 (-46),.int .i64 (-7),.int .i64 0,.int .i64 39,.int .i64 49,.int .i64 56]
def fmL:List Value:=[.int .i64 1,.int .i64 1,.int .i64 2,.int .i64 3,.int .i64 6,.int .i64 6,.int .i64 8,.int .i64 8,.int .i64 9,.int .i64 11,.int .i64 11,.int .i64 11,.int .i64 12,.int .i64 12]
def fdL:List Value:=[.int .i64 1,.int .i64 6,.int .i64 2,.int .i64 25,.int .i64 24,.int .i64 29,.int .i64 10,.int .i64 15,.int .i64 29,.int .i64 1,.int .i64 11,.int .i64 30,.int .i64 6,.int .i64 25]
def NewLit (n:Nat) (cs:List Value) (w:World) (e:Ending) (w' : World):Prop:=∃ g,e=.returned (.slice (some ⟨g,0,none⟩) n n)∧Ext w w' ∧ Boxed w' g cs
set_option maxRecDepth 100000 in
set_option maxHeartbeats 2000000 in
theorem impl_fixedFeasts (w:World):Calls Tryz.prog 294 #[] w (NewLit 14 fxL w):=by
 have hb:=Boxed.new w fxL 265
 have Hb:=qh hb
 clear hb
 go_enter Tryz.func294,Tryz.ntmps294
 go_wp2_with fail
 go_ret
 exact ⟨w.heap.size,rfl,exts,Hb.out⟩
set_option maxHeartbeats 1000000 in
theorem impl_movableFeasts (w:World):Calls Tryz.prog 296 #[] w (NewLit 6 mvL w):=by
 have Hb:=qh (Boxed.new w mvL 2)
 go_enter Tryz.func296,Tryz.ntmps296
 go_wp2_with fail
 go_ret
 exact ⟨w.heap.size,rfl,exts,Hb.out⟩
set_option maxRecDepth 100000 in
set_option maxHeartbeats 8000000 in
theorem impl_feastDay (fe y:Int) (hf:0 ≤ fe∧fe ≤ 19) (h:1 ≤ y∧y ≤ 2000) (w:World):Calls Tryz.prog 250 #[.int .i64 fe,.int .i64 y] w (RetX (.int .i64 (fstO fe y)) w):=by
 have Hh:=qh (show 1 ≤ y∧y ≤ 5000 by omega)
 have He:=qh (eas_small (show 1 ≤ y by omega) (show y ≤ 5000 by omega))
 clear h
 rcases fe_cases hf with rfl | rfl | rfl | rfl | rfl | rfl | rfl | rfl | rfl | rfl | rfl | rfl | rfl | rfl | rfl | rfl | rfl | rfl | rfl | rfl
 all_goals clear hf
 ·have E:Hid (numO y 1 1=fstO 0 y):=qh rfl
  go_enter Tryz.func250,Tryz.ntmps250
  go_wp2_with fail
  refine Calls.mono (impl_fixedFeasts _) ?_
  rintro e w1 ⟨g,rfl,hx1,hb1⟩
  have k0:=(hb1.2 0 _ rfl).1
  have k1:=(hb1.2 1 _ rfl).1
  have k2:=(hb1.2 2 _ rfl).1
  clear hb1
  go_wp2_with fail
  refine Calls.mono (impl_dayOf y 1 1 Hh.out (by omega) (by omega) _) ?_
  rintro e w2 ⟨rfl,hx2⟩
  rw [E.out]
  go_wp2_with fail
  go_ret
  exact ⟨rfl,hx1.trans (Ext.trans exts hx2)⟩
 ·have E:Hid (numO y 1 6=fstO 1 y):=qh rfl
  go_enter Tryz.func250,Tryz.ntmps250
  go_wp2_with fail
  refine Calls.mono (impl_fixedFeasts _) ?_
  rintro e w1 ⟨g,rfl,hx1,hb1⟩
  have k0:=(hb1.2 3 _ rfl).1
  have k1:=(hb1.2 4 _ rfl).1
  have k2:=(hb1.2 5 _ rfl).1
  clear hb1
  go_wp2_with fail
  refine Calls.mono (impl_dayOf y 1 6 Hh.out (by omega) (by omega) _) ?_
  rintro e w2 ⟨rfl,hx2⟩
  rw [E.out]
  go_wp2_with fail
  go_ret
  exact ⟨rfl,hx1.trans (Ext.trans exts hx2)⟩
 ·have E:Hid (numO y 2 2=fstO 2 y):=qh rfl
  go_enter Tryz.func250,Tryz.ntmps250
  go_wp2_with fail
  refine Calls.mono (impl_fixedFeasts _) ?_
  rintro e w1 ⟨g,rfl,hx1,hb1⟩
  have k0:=(hb1.2 6 _ rfl).1
  have k1:=(hb1.2 7 _ rfl).1
  have k2:=(hb1.2 8 _ rfl).1
  clear hb1
  go_wp2_with fail
  refine Calls.mono (impl_dayOf y 2 2 Hh.out (by omega) (by omega) _) ?_
  rintro e w2 ⟨rfl,hx2⟩
  rw [E.out]
  go_wp2_with fail
  go_ret
  exact ⟨rfl,hx1.trans (Ext.trans exts hx2)⟩
 ·have E:Hid (numO y 3 25=fstO 3 y):=qh rfl
  go_enter Tryz.func250,Tryz.ntmps250
  go_wp2_with fail
  refine Calls.mono (impl_fixedFeasts _) ?_
  rintro e w1 ⟨g,rfl,hx1,hb1⟩
  have k0:=(hb1.2 9 _ rfl).1
  have k1:=(hb1.2 10 _ rfl).1
  have k2:=(hb1.2 11 _ rfl).1
  clear hb1
  go_wp2_with fail
  refine Calls.mono (impl_dayOf y 3 25 Hh.out (by omega) (by omega) _) ?_
  rintro e w2 ⟨rfl,hx2⟩
  rw [E.out]
  go_wp2_with fail
  go_ret
  exact ⟨rfl,hx1.trans (Ext.trans exts hx2)⟩
 ·have E:Hid (numO y 6 24=fstO 4 y):=qh rfl
  go_enter Tryz.func250,Tryz.ntmps250
  go_wp2_with fail
  refine Calls.mono (impl_fixedFeasts _) ?_
  rintro e w1 ⟨g,rfl,hx1,hb1⟩
  have k0:=(hb1.2 12 _ rfl).1
  have k1:=(hb1.2 13 _ rfl).1
  have k2:=(hb1.2 14 _ rfl).1
  clear hb1
  go_wp2_with fail
  refine Calls.mono (impl_dayOf y 6 24 Hh.out (by omega) (by omega) _) ?_
  rintro e w2 ⟨rfl,hx2⟩
  rw [E.out]
  go_wp2_with fail
  go_ret
  exact ⟨rfl,hx1.trans (Ext.trans exts hx2)⟩
 ·have E:Hid (numO y 6 29=fstO 5 y):=qh rfl
  go_enter Tryz.func250,Tryz.ntmps250
  go_wp2_with fail
  refine Calls.mono (impl_fixedFeasts _) ?_
  rintro e w1 ⟨g,rfl,hx1,hb1⟩
  have k0:=(hb1.2 15 _ rfl).1
  have k1:=(hb1.2 16 _ rfl).1
  have k2:=(hb1.2 17 _ rfl).1
  clear hb1
  go_wp2_with fail
  refine Calls.mono (impl_dayOf y 6 29 Hh.out (by omega) (by omega) _) ?_
  rintro e w2 ⟨rfl,hx2⟩
  rw [E.out]
  go_wp2_with fail
  go_ret
  exact ⟨rfl,hx1.trans (Ext.trans exts hx2)⟩
 ·have E:Hid (numO y 8 10=fstO 6 y):=qh rfl
  go_enter Tryz.func250,Tryz.ntmps250
  go_wp2_with fail
  refine Calls.mono (impl_fixedFeasts _) ?_
  rintro e w1 ⟨g,rfl,hx1,hb1⟩
  have k0:=(hb1.2 18 _ rfl).1
  have k1:=(hb1.2 19 _ rfl).1
  have k2:=(hb1.2 20 _ rfl).1
  clear hb1
  go_wp2_with fail
  refine Calls.mono (impl_dayOf y 8 10 Hh.out (by omega) (by omega) _) ?_
  rintro e w2 ⟨rfl,hx2⟩
  rw [E.out]
  go_wp2_with fail
  go_ret
  exact ⟨rfl,hx1.trans (Ext.trans exts hx2)⟩
 ·have E:Hid (numO y 8 15=fstO 7 y):=qh rfl
  go_enter Tryz.func250,Tryz.ntmps250
  go_wp2_with fail
  refine Calls.mono (impl_fixedFeasts _) ?_
  rintro e w1 ⟨g,rfl,hx1,hb1⟩
  have k0:=(hb1.2 21 _ rfl).1
  have k1:=(hb1.2 22 _ rfl).1
  have k2:=(hb1.2 23 _ rfl).1
  clear hb1
  go_wp2_with fail
  refine Calls.mono (impl_dayOf y 8 15 Hh.out (by omega) (by omega) _) ?_
  rintro e w2 ⟨rfl,hx2⟩
  rw [E.out]
  go_wp2_with fail
  go_ret
  exact ⟨rfl,hx1.trans (Ext.trans exts hx2)⟩
 ·have E:Hid (numO y 9 29=fstO 8 y):=qh rfl
  go_enter Tryz.func250,Tryz.ntmps250
  go_wp2_with fail
  refine Calls.mono (impl_fixedFeasts _) ?_
  rintro e w1 ⟨g,rfl,hx1,hb1⟩
  have k0:=(hb1.2 24 _ rfl).1
  have k1:=(hb1.2 25 _ rfl).1
  have k2:=(hb1.2 26 _ rfl).1
  clear hb1
  go_wp2_with fail
  refine Calls.mono (impl_dayOf y 9 29 Hh.out (by omega) (by omega) _) ?_
  rintro e w2 ⟨rfl,hx2⟩
  rw [E.out]
  go_wp2_with fail
  go_ret
  exact ⟨rfl,hx1.trans (Ext.trans exts hx2)⟩
 ·have E:Hid (numO y 11 1=fstO 9 y):=qh rfl
  go_enter Tryz.func250,Tryz.ntmps250
  go_wp2_with fail
  refine Calls.mono (impl_fixedFeasts _) ?_
  rintro e w1 ⟨g,rfl,hx1,hb1⟩
  have k0:=(hb1.2 27 _ rfl).1
  have k1:=(hb1.2 28 _ rfl).1
  have k2:=(hb1.2 29 _ rfl).1
  clear hb1
  go_wp2_with fail
  refine Calls.mono (impl_dayOf y 11 1 Hh.out (by omega) (by omega) _) ?_
  rintro e w2 ⟨rfl,hx2⟩
  rw [E.out]
  go_wp2_with fail
  go_ret
  exact ⟨rfl,hx1.trans (Ext.trans exts hx2)⟩
 ·have E:Hid (numO y 11 11=fstO 10 y):=qh rfl
  go_enter Tryz.func250,Tryz.ntmps250
  go_wp2_with fail
  refine Calls.mono (impl_fixedFeasts _) ?_
  rintro e w1 ⟨g,rfl,hx1,hb1⟩
  have k0:=(hb1.2 30 _ rfl).1
  have k1:=(hb1.2 31 _ rfl).1
  have k2:=(hb1.2 32 _ rfl).1
  clear hb1
  go_wp2_with fail
  refine Calls.mono (impl_dayOf y 11 11 Hh.out (by omega) (by omega) _) ?_
  rintro e w2 ⟨rfl,hx2⟩
  rw [E.out]
  go_wp2_with fail
  go_ret
  exact ⟨rfl,hx1.trans (Ext.trans exts hx2)⟩
 ·have E:Hid (numO y 11 30=fstO 11 y):=qh rfl
  go_enter Tryz.func250,Tryz.ntmps250
  go_wp2_with fail
  refine Calls.mono (impl_fixedFeasts _) ?_
  rintro e w1 ⟨g,rfl,hx1,hb1⟩
  have k0:=(hb1.2 33 _ rfl).1
  have k1:=(hb1.2 34 _ rfl).1
  have k2:=(hb1.2 35 _ rfl).1
  clear hb1
  go_wp2_with fail
  refine Calls.mono (impl_dayOf y 11 30 Hh.out (by omega) (by omega) _) ?_
  rintro e w2 ⟨rfl,hx2⟩
  rw [E.out]
  go_wp2_with fail
  go_ret
  exact ⟨rfl,hx1.trans (Ext.trans exts hx2)⟩
 ·have E:Hid (numO y 12 6=fstO 12 y):=qh rfl
  go_enter Tryz.func250,Tryz.ntmps250
  go_wp2_with fail
  refine Calls.mono (impl_fixedFeasts _) ?_
  rintro e w1 ⟨g,rfl,hx1,hb1⟩
  have k0:=(hb1.2 36 _ rfl).1
  have k1:=(hb1.2 37 _ rfl).1
  have k2:=(hb1.2 38 _ rfl).1
  clear hb1
  go_wp2_with fail
  refine Calls.mono (impl_dayOf y 12 6 Hh.out (by omega) (by omega) _) ?_
  rintro e w2 ⟨rfl,hx2⟩
  rw [E.out]
  go_wp2_with fail
  go_ret
  exact ⟨rfl,hx1.trans (Ext.trans exts hx2)⟩
 ·have E:Hid (numO y 12 25=fstO 13 y):=qh rfl
  go_enter Tryz.func250,Tryz.ntmps250
  go_wp2_with fail
  refine Calls.mono (impl_fixedFeasts _) ?_
  rintro e w1 ⟨g,rfl,hx1,hb1⟩
  have k0:=(hb1.2 39 _ rfl).1
  have k1:=(hb1.2 40 _ rfl).1
  have k2:=(hb1.2 41 _ rfl).1
  clear hb1
  go_wp2_with fail
  refine Calls.mono (impl_dayOf y 12 25 Hh.out (by omega) (by omega) _) ?_
  rintro e w2 ⟨rfl,hx2⟩
  rw [E.out]
  go_wp2_with fail
  go_ret
  exact ⟨rfl,hx1.trans (Ext.trans exts hx2)⟩
 ·have E:Hid (easO y+(-46)=fstO 14 y):=qh rfl
  have W1:IntKind.i64.wrap (easO y+(-46))=easO y+(-46):=IntWalk.i64_in _ (by have:=He.out;omega)
  have W2:wrap64 (easO y+(-46))=easO y+(-46):=IntWalk.wrap64_in _ (by have:=He.out;omega)
  have W3:wrap64 (easO y)=easO y:=IntWalk.wrap64_in _ (by have:=He.out;omega)
  go_enter Tryz.func250,Tryz.ntmps250
  go_wp2_with fail
  refine Calls.mono (impl_fixedFeasts _) ?_
  rintro e w1 ⟨g,rfl,hx1,hb1⟩
  clear hb1
  go_wp2_with fail
  refine Calls.mono (impl_oldEaster y Hh.out _) ?_
  rintro e w2 ⟨rfl,hx2⟩
  go_wp2_with fail
  refine Calls.mono (impl_movableFeasts _) ?_
  rintro e w3 ⟨g3,rfl,hx3,hb3⟩
  have k0:=(hb3.2 0 _ rfl).1
  clear hb3
  go_wp2_with fail
  go_ret
  exact ⟨ret_int (by have:=E.out;first | assumption | (simp at this ⊢;omega) | omega),(hx1.trans hx2).trans hx3⟩
 ·have E:Hid (easO y+(-7)=fstO 15 y):=qh rfl
  have W1:IntKind.i64.wrap (easO y+(-7))=easO y+(-7):=IntWalk.i64_in _ (by have:=He.out;omega)
  have W2:wrap64 (easO y+(-7))=easO y+(-7):=IntWalk.wrap64_in _ (by have:=He.out;omega)
  have W3:wrap64 (easO y)=easO y:=IntWalk.wrap64_in _ (by have:=He.out;omega)
  go_enter Tryz.func250,Tryz.ntmps250
  go_wp2_with fail
  refine Calls.mono (impl_fixedFeasts _) ?_
  rintro e w1 ⟨g,rfl,hx1,hb1⟩
  clear hb1
  go_wp2_with fail
  refine Calls.mono (impl_oldEaster y Hh.out _) ?_
  rintro e w2 ⟨rfl,hx2⟩
  go_wp2_with fail
  refine Calls.mono (impl_movableFeasts _) ?_
  rintro e w3 ⟨g3,rfl,hx3,hb3⟩
  have k0:=(hb3.2 1 _ rfl).1
  clear hb3
  go_wp2_with fail
  go_ret
  exact ⟨ret_int (by have:=E.out;first | assumption | (simp at this ⊢;omega) | omega),(hx1.trans hx2).trans hx3⟩
 ·have E:Hid (easO y+(0)=fstO 16 y):=qh rfl
  have W1:IntKind.i64.wrap (easO y+(0))=easO y+(0):=IntWalk.i64_in _ (by have:=He.out;omega)
  have W2:wrap64 (easO y+(0))=easO y+(0):=IntWalk.wrap64_in _ (by have:=He.out;omega)
  have W3:wrap64 (easO y)=easO y:=IntWalk.wrap64_in _ (by have:=He.out;omega)
  go_enter Tryz.func250,Tryz.ntmps250
  go_wp2_with fail
  refine Calls.mono (impl_fixedFeasts _) ?_
  rintro e w1 ⟨g,rfl,hx1,hb1⟩
  clear hb1
  go_wp2_with fail
  refine Calls.mono (impl_oldEaster y Hh.out _) ?_
  rintro e w2 ⟨rfl,hx2⟩
  go_wp2_with fail
  refine Calls.mono (impl_movableFeasts _) ?_
  rintro e w3 ⟨g3,rfl,hx3,hb3⟩
  have k0:=(hb3.2 2 _ rfl).1
  clear hb3
  go_wp2_with fail
  go_ret
  exact ⟨ret_int (by have:=E.out;first | assumption | (simp at this ⊢;omega) | omega),(hx1.trans hx2).trans hx3⟩
 ·have E:Hid (easO y+(39)=fstO 17 y):=qh rfl
  have W1:IntKind.i64.wrap (easO y+(39))=easO y+(39):=IntWalk.i64_in _ (by have:=He.out;omega)
  have W2:wrap64 (easO y+(39))=easO y+(39):=IntWalk.wrap64_in _ (by have:=He.out;omega)
  have W3:wrap64 (easO y)=easO y:=IntWalk.wrap64_in _ (by have:=He.out;omega)
  go_enter Tryz.func250,Tryz.ntmps250
  go_wp2_with fail
  refine Calls.mono (impl_fixedFeasts _) ?_
  rintro e w1 ⟨g,rfl,hx1,hb1⟩
  clear hb1
  go_wp2_with fail
  refine Calls.mono (impl_oldEaster y Hh.out _) ?_
  rintro e w2 ⟨rfl,hx2⟩
  go_wp2_with fail
  refine Calls.mono (impl_movableFeasts _) ?_
  rintro e w3 ⟨g3,rfl,hx3,hb3⟩
  have k0:=(hb3.2 3 _ rfl).1
  clear hb3
  go_wp2_with fail
  go_ret
  exact ⟨ret_int (by have:=E.out;first | assumption | (simp at this ⊢;omega) | omega),(hx1.trans hx2).trans hx3⟩
 ·have E:Hid (easO y+(49)=fstO 18 y):=qh rfl
  have W1:IntKind.i64.wrap (easO y+(49))=easO y+(49):=IntWalk.i64_in _ (by have:=He.out;omega)
  have W2:wrap64 (easO y+(49))=easO y+(49):=IntWalk.wrap64_in _ (by have:=He.out;omega)
  have W3:wrap64 (easO y)=easO y:=IntWalk.wrap64_in _ (by have:=He.out;omega)
  go_enter Tryz.func250,Tryz.ntmps250
  go_wp2_with fail
  refine Calls.mono (impl_fixedFeasts _) ?_
  rintro e w1 ⟨g,rfl,hx1,hb1⟩
  clear hb1
  go_wp2_with fail
  refine Calls.mono (impl_oldEaster y Hh.out _) ?_
  rintro e w2 ⟨rfl,hx2⟩
  go_wp2_with fail
  refine Calls.mono (impl_movableFeasts _) ?_
  rintro e w3 ⟨g3,rfl,hx3,hb3⟩
  have k0:=(hb3.2 4 _ rfl).1
  clear hb3
  go_wp2_with fail
  go_ret
  exact ⟨ret_int (by have:=E.out;first | assumption | (simp at this ⊢;omega) | omega),(hx1.trans hx2).trans hx3⟩
 ·have E:Hid (easO y+(56)=fstO 19 y):=qh rfl
  have W1:IntKind.i64.wrap (easO y+(56))=easO y+(56):=IntWalk.i64_in _ (by have:=He.out;omega)
  have W2:wrap64 (easO y+(56))=easO y+(56):=IntWalk.wrap64_in _ (by have:=He.out;omega)
  have W3:wrap64 (easO y)=easO y:=IntWalk.wrap64_in _ (by have:=He.out;omega)
  go_enter Tryz.func250,Tryz.ntmps250
  go_wp2_with fail
  refine Calls.mono (impl_fixedFeasts _) ?_
  rintro e w1 ⟨g,rfl,hx1,hb1⟩
  clear hb1
  go_wp2_with fail
  refine Calls.mono (impl_oldEaster y Hh.out _) ?_
  rintro e w2 ⟨rfl,hx2⟩
  go_wp2_with fail
  refine Calls.mono (impl_movableFeasts _) ?_
  rintro e w3 ⟨g3,rfl,hx3,hb3⟩
  have k0:=(hb3.2 5 _ rfl).1
  clear hb3
  go_wp2_with fail
  go_ret
  exact ⟨ret_int (by have:=E.out;first | assumption | (simp at this ⊢;omega) | omega),(hx1.trans hx2).trans hx3⟩
end Go.Proofs.YtechbeegbhlppaaGreatDoor
