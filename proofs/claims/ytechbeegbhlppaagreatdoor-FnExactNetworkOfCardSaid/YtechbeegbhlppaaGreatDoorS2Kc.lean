/- Contract: IsPeople, the program's. (Printed by genKc.py.) -/
import Derived.Test.YtechbeegbhlppaaGreatDoorS2Ka
import Derived.Test.YtechbeegbhlppaaGreatDoorS2Qd
namespace Go.Proofs.YtechbeegbhlppaaGreatDoor
set_option linter.unusedVariables false
set_option linter.unusedSimpArgs false
open Go.RowKit
attribute [local go_sem] cell_onto
set_option maxRecDepth 100000 in
set_option maxHeartbeats 16000000 in
theorem impl_IsPeople (v u:Value) (P:Ppl) (w:World) (hp:Nsps w 0 w.heap.size v P.ps) (ht:Trms w 0 w.heap.size u P.tm):Calls Tryz.prog 192 #[.agg #[v,u]] w (RetX (.bool (B (PplOk P))) w):=by
 obtain ⟨Ap,cp,rfl,_,hcp⟩:=hp.len
 obtain ⟨At,ct,rfl,_,hct⟩:=ht.len
 have Hp:=qh hp
 have Ht:=qh ht
 clear hp ht
 have Hb:=qh (Boxed.new w [.slice Ap P.ps.length cp,.slice At P.tm.length ct] 49)
 by_cases hl1:P.ps.length ≤ 40
 case neg =>
  have d1:decide ((40:Int) < (P.ps.length:Int))=true:=decide_eq_true (by omega)
  go_enter Tryz.func192,Tryz.ntmps192
  go_wp2_with fail
  go_ret
  exact ⟨ret_bool (B_false (fun h=>by have:=h.1;omega)).symm,exts⟩
 have d1:decide ((40:Int) < (P.ps.length:Int))=false:=decide_eq_false (by omega)
 by_cases hl2:P.tm.length ≤ 60
 case neg =>
  have d2:decide ((60:Int) < (P.tm.length:Int))=true:=decide_eq_true (by omega)
  go_enter Tryz.func192,Tryz.ntmps192
  go_wp2_with fail
  go_ret
  exact ⟨ret_bool (B_false (fun h=>by have:=h.2.1;omega)).symm,exts⟩
 have d2:decide ((60:Int) < (P.tm.length:Int))=false:=decide_eq_false (by omega)
 go_enter Tryz.func192,Tryz.ntmps192
 go_wp2_with fail
 go_loopg [3,4,21] P.ps.length (fun q u3 u4 i wr=>∃ j:Nat,j+q=P.ps.length∧i=.int .i64 j∧Ext (w.alloc (.cells #[.slice Ap P.ps.length cp,.slice At P.tm.length ct] 49)) wr∧∀ i,i < j → PsStep P.ps i)
 case atStart=>exact ⟨0,by omega,rfl,exts,fun i hi=>absurd hi (by omega)⟩
 case round =>
  obtain ⟨j,hj,rfl,hx0,hok⟩:=hrel
  have Hok:=qh hok
  clear hok
  have hx:Ext w wr:=exts
  have bx:=Hb.out.ext hx0;have bx0:=bx.at0;have bx1:=bx.at1;have bxg:=bx.1;have Hbx:=qh bx;clear bx
  have bxg1:w.heap.size < wr.heap.size+1:=by omega
  have hj0:(0:Int) ≤ (j:Int):=by omega
  by_cases hlt:j < P.ps.length
  ·obtain ⟨b,off,rfl,_,hb,h1,h2,h3⟩:=(Hp.out.ext hx (Nat.le_refl _)).at_ hlt
   have hbr:b < wr.heap.size:=Nat.lt_of_lt_of_le hb hx.size
   have hbr1:b < wr.heap.size+1:=by omega
   have hji:(j:Int) < (P.ps.length:Int):=by omega
   obtain ⟨q1,eq1⟩:∃ b,B (NameOk (nspAt P.ps j).nm 12)=b:=⟨_,rfl⟩
   have Hq1:=qh eq1
   clear eq1
   obtain ⟨q2,eq2⟩:∃ b,B (DayOk (nspAt P.ps j).fr)=b:=⟨_,rfl⟩
   have Hq2:=qh eq2
   clear eq2
   obtain ⟨q3,eq3⟩:∃ b,B (DayOk (nspAt P.ps j).to)=b:=⟨_,rfl⟩
   have Hq3:=qh eq3
   clear eq3
   cases q1 with
   | false =>
    go_wp2_with fail
    (refine wp_region_onto prog_mixed (by kernel_rfl) ?_;(repeat (go_big_quiet_step ((first | (go_at_call 195;exact onto_callX (impl_isSmall_b Hq1.out _ (by decide))) | (go_at_call 231;first | with_reducible exact onto_callS (impl_isDay_b Hq2.out _) | with_reducible exact onto_callS (impl_isDay_b Hq3.out _))))));refine onto_end ?_;intro w1 hx1)
    go_wp2_with fail
    go_ret
    exact ⟨ret_bool (B_false (fun h=>B_not.1 Hq1.out (by have h1:=(h.2.2.1 j hlt).1;exact h1.1))).symm,exts⟩
   | true =>
    cases q2 with
    | false =>
     go_wp2_with fail
     (refine wp_region_onto prog_mixed (by kernel_rfl) ?_;(repeat (go_big_quiet_step ((first | (go_at_call 195;exact onto_callX (impl_isSmall_b Hq1.out _ (by decide))) | (go_at_call 231;first | with_reducible exact onto_callS (impl_isDay_b Hq2.out _) | with_reducible exact onto_callS (impl_isDay_b Hq3.out _))))));refine onto_end ?_;intro w1 hx1)
     go_wp2_with fail
     go_ret
     exact ⟨ret_bool (B_false (fun h=>B_not.1 Hq2.out (by have h1:=(h.2.2.1 j hlt).1;exact h1.2.1))).symm,exts⟩
    | true =>
     cases q3 with
     | false =>
      go_wp2_with fail
      (refine wp_region_onto prog_mixed (by kernel_rfl) ?_;(repeat (go_big_quiet_step ((first | (go_at_call 195;exact onto_callX (impl_isSmall_b Hq1.out _ (by decide))) | (go_at_call 231;first | with_reducible exact onto_callS (impl_isDay_b Hq2.out _) | with_reducible exact onto_callS (impl_isDay_b Hq3.out _))))));refine onto_end ?_;intro w1 hx1)
      go_wp2_with fail
      go_ret
      exact ⟨ret_bool (B_false (fun h=>B_not.1 Hq3.out (by have h1:=(h.2.2.1 j hlt).1;exact h1.2.2.1))).symm,exts⟩
     | true =>
      by_cases h4:(nspAt P.ps j).fr ≤ (nspAt P.ps j).to
      case neg =>
       have d4:decide ((nspAt P.ps j).to < (nspAt P.ps j).fr)=true:=decide_eq_true (by omega)
       go_wp2_with fail
       (refine wp_region_onto prog_mixed (by kernel_rfl) ?_;(repeat (go_big_quiet_step ((first | (go_at_call 195;exact onto_callX (impl_isSmall_b Hq1.out _ (by decide))) | (go_at_call 231;first | with_reducible exact onto_callS (impl_isDay_b Hq2.out _) | with_reducible exact onto_callS (impl_isDay_b Hq3.out _))))));refine onto_end ?_;intro w1 hx1)
       go_wp2_with fail
       go_ret
       exact ⟨ret_bool (B_false (fun h=>by have:=(h.2.2.1 j hlt).1.2.2.2;omega)).symm,exts⟩
      have d4:decide ((nspAt P.ps j).to < (nspAt P.ps j).fr)=false:=decide_eq_false (by omega)
      have Hn:=qh (show NspOk (nspAt P.ps j) from ⟨B_iff.1 Hq1.out,B_iff.1 Hq2.out,B_iff.1 Hq3.out,h4⟩)
      by_cases h0:0 < j
      ·have hb0:decide ((0:Int) < (j:Int))=true:=by simp;omega
       obtain ⟨b', off', e,_,_,k1,k2,k3⟩:=(Hp.out.ext hx (Nat.le_refl _)).at_ (i:=j - 1) (by omega)
       injection e with e
       injection e with e1 e2
       subst e1 e2
       have hq0:(0:Int) ≤ (j:Int) - 1:=by omega
       have hq1:(j:Int) - 1 < (P.ps.length:Int):=by omega
       have hq2:((j:Int) - 1).toNat=j - 1:=by omega
       by_cases hs:sLt (nspAt P.ps (j - 1)).nm (nspAt P.ps j).nm
       ·have T1:=sl_false (sLt_asym hs)
        have T2:=str_ne (fun e=>sLt_ne hs e.symm)
        have Hs:=qh hs
        clear hs
        go_wp2_with fail
        (refine wp_region_onto prog_mixed (by kernel_rfl) ?_;(repeat (go_big_quiet_step ((first | (go_at_call 195;exact onto_callX (impl_isSmall_b Hq1.out _ (by decide))) | (go_at_call 231;first | with_reducible exact onto_callS (impl_isDay_b Hq2.out _) | with_reducible exact onto_callS (impl_isDay_b Hq3.out _))))));refine onto_end ?_;intro w1 hx1)
        go_wp2_with fail
        go_roundg (P.ps.length - (j+1))
        case measure=>omega
        case rel=>exact ⟨j+1,by omega,by go_num,exts,ps_step Hok.out ⟨Hn.out,fun _=>Hs.out⟩⟩
       ·by_cases hs2:sLt (nspAt P.ps j).nm (nspAt P.ps (j - 1)).nm
        ·have T1:=sl_true hs2
         have Hs:=qh hs
         clear hs hs2
         go_wp2_with fail
         (refine wp_region_onto prog_mixed (by kernel_rfl) ?_;(repeat (go_big_quiet_step ((first | (go_at_call 195;exact onto_callX (impl_isSmall_b Hq1.out _ (by decide))) | (go_at_call 231;first | with_reducible exact onto_callS (impl_isDay_b Hq2.out _) | with_reducible exact onto_callS (impl_isDay_b Hq3.out _))))));refine onto_end ?_;intro w1 hx1)
         go_wp2_with fail
         go_ret
         exact ⟨ret_bool (B_false (fun h=>Hs.out ((h.2.2.1 j hlt).2 h0))).symm,exts⟩
        ·have T1:=sl_false hs2
         have T2:=str_is (sLt_tri hs2 hs)
         have Hs:=qh hs
         clear hs hs2
         go_wp2_with fail
         (refine wp_region_onto prog_mixed (by kernel_rfl) ?_;(repeat (go_big_quiet_step ((first | (go_at_call 195;exact onto_callX (impl_isSmall_b Hq1.out _ (by decide))) | (go_at_call 231;first | with_reducible exact onto_callS (impl_isDay_b Hq2.out _) | with_reducible exact onto_callS (impl_isDay_b Hq3.out _))))));refine onto_end ?_;intro w1 hx1)
         go_wp2_with fail
         go_ret
         exact ⟨ret_bool (B_false (fun h=>Hs.out ((h.2.2.1 j hlt).2 h0))).symm,exts⟩
      ·have hb0:decide ((0:Int) < (j:Int))=false:=by simp;omega
       go_wp2_with fail
       (refine wp_region_onto prog_mixed (by kernel_rfl) ?_;(repeat (go_big_quiet_step ((first | (go_at_call 195;exact onto_callX (impl_isSmall_b Hq1.out _ (by decide))) | (go_at_call 231;first | with_reducible exact onto_callS (impl_isDay_b Hq2.out _) | with_reducible exact onto_callS (impl_isDay_b Hq3.out _))))));refine onto_end ?_;intro w1 hx1)
       go_wp2_with fail
       go_roundg (P.ps.length - (j+1))
       case measure=>omega
       case rel=>exact ⟨j+1,by omega,by go_num,exts,ps_step Hok.out ⟨Hn.out,fun hh=>absurd hh h0⟩⟩
  ·obtain rfl:j=P.ps.length:=by omega
   have hji:¬ (P.ps.length:Int) < (P.ps.length:Int):=by omega
   have Hps:=qh (show ∀ i,i < P.ps.length → PsStep P.ps i from Hok.out)
   clear hlt bxg1
   obtain ⟨wz,rfl⟩:∃ x:World,x=wr:=⟨_,rfl⟩
   go_wp2_with fail
   go_loopg [6,7,69] P.tm.length (fun q u6 u7 i wr=>∃ j:Nat,j+q=P.tm.length∧i=.int .i64 j∧Ext wz wr∧∀ i,i < j → TrmOk P.ps (trmAt P.tm i))
   case atStart=>exact ⟨0,by omega,rfl,exts,fun i hi=>absurd hi (by omega)⟩
   case round =>
    obtain ⟨j,hj,rfl,hxz,hok⟩:=hrel
    have Htm:=qh hok
    clear hok bx0 bx1 bxg
    have hx2:Ext w wr:=exts
    have bx:=Hbx.out.ext hxz
    have bx0:=bx.at0
    have bx1:=bx.at1
    have bxg:=bx.1
    have Hby:=qh bx
    clear bx
    have bxg1:w.heap.size < wr.heap.size+1:=by omega
    have hj0:(0:Int) ≤ (j:Int):=by omega
    by_cases hlt:j < P.tm.length
    ·obtain ⟨b,off,rfl,_,hb,h1,h2,h3,h4⟩:=(Ht.out.ext hx2 (Nat.le_refl _)).at_ hlt
     have hbr:b < wr.heap.size:=Nat.lt_of_lt_of_le hb hx2.size
     have hbr1:b < wr.heap.size+1:=by omega
     have hji:(j:Int) < (P.tm.length:Int):=by omega
     go_wp2_with fail
     refine Calls.mono (impl_personIndex _ _ P.ps (trmAt P.tm j).pe _ (Hp.out.up exts)) ?_
     rintro e w3 ⟨rfl,hx3⟩
     have bt:=(Boxed.new wr [.string (trmAt P.tm j).of,.string (trmAt P.tm j).pe,.int .i64 (trmAt P.tm j).fr,.int .i64 (trmAt P.tm j).to] 228).ext hx3;have bt0:=bt.at0;have bt1:=bt.at1;have bt2:=bt.at2;have bt3:=bt.at3;have btg:=bt.1;have Hbt:=qh bt;clear bt
     have hxr3:Ext wr w3:=exts
     clear bx0 bx1 bxg bxg1
     have bx:=Hby.out.ext hxr3
     have bx0:=bx.at0
     have bx1:=bx.at1
     have bxg:=bx.1
     clear bx
     have hx3w:Ext w w3:=hx2.trans hxr3
     clear h1 h2 h3 h4 hbr hbr1
     obtain ⟨k,hk⟩:∃ k,psIx P.ps (trmAt P.tm j).pe=k:=⟨_,rfl⟩
     have Hk:=qh hk
     rw [hk]
     obtain ⟨q1,eq1⟩:∃ b,B (NameOk (trmAt P.tm j).of 12)=b:=⟨_,rfl⟩
     have Hq1:=qh eq1
     clear eq1
     by_cases hk0:0 ≤ k
     case neg =>
      have dk:decide (k < 0)=true:=decide_eq_true (by omega)
      go_wp2_with fail
      (refine wp_region_onto prog_mixed (by kernel_rfl) ?_;(repeat (go_big_quiet_step ((first | (go_at_call 195;exact onto_callX (impl_isSmall_b Hq1.out _ (by decide)))))));refine onto_end ?_;intro w1 hx1)
      go_wp2_with fail
      go_ret
      exact ⟨ret_bool (B_false (fun h=>by have hh:=h.2.2.2 j hlt;rw [TrmOk,Hk.out] at hh;exact by have:=hh.1;omega)).symm,exts⟩
     have dk:decide (k < 0)=false:=decide_eq_false (by omega)
     cases q1 with
     | false =>
      go_wp2_with fail
      (refine wp_region_onto prog_mixed (by kernel_rfl) ?_;(repeat (go_big_quiet_step ((first | (go_at_call 195;exact onto_callX (impl_isSmall_b Hq1.out _ (by decide)))))));refine onto_end ?_;intro w1 hx1)
      go_wp2_with fail
      go_ret
      exact ⟨ret_bool (B_false (fun h=>by have hh:=h.2.2.2 j hlt;rw [TrmOk,Hk.out] at hh;exact B_not.1 Hq1.out hh.2.1)).symm,exts⟩
     | true =>
      have hkl:=psIx_lt (l:=P.ps) (name:=(trmAt P.tm j).pe) (by rw [hk];exact hk0)
      rw [hk] at hkl
      obtain ⟨hkl,hke⟩:=hkl
      have hklt:k < (P.ps.length:Int):=by omega
      obtain ⟨bp,op,e,_,hbp,k1,k2,k3⟩:=(Hp.out.ext hx3w (Nat.le_refl _)).at_ (i:=k.toNat) hkl
      subst e
      have hbpr:bp < w3.heap.size:=Nat.lt_of_lt_of_le hbp hx3w.size
      by_cases h5:(trmAt P.tm j).fr ≤ (trmAt P.tm j).to
      case neg =>
       have d5:decide ((trmAt P.tm j).to < (trmAt P.tm j).fr)=true:=decide_eq_true (by omega)
       go_wp2_with fail
       (refine wp_region_onto prog_mixed (by kernel_rfl) ?_;(repeat (go_big_quiet_step ((first | (go_at_call 195;exact onto_callX (impl_isSmall_b Hq1.out _ (by decide)))))));refine onto_end ?_;intro w1 hx1)
       go_wp2_with fail
       go_ret
       exact ⟨ret_bool (B_false (fun h=>by have hh:=h.2.2.2 j hlt;rw [TrmOk,Hk.out] at hh;exact by have:=hh.2.2.1;omega)).symm,exts⟩
      have d5:decide ((trmAt P.tm j).to < (trmAt P.tm j).fr)=false:=decide_eq_false (by omega)
      by_cases h6:(nspAt P.ps k.toNat).fr ≤ (trmAt P.tm j).fr
      case neg =>
       have d6:decide ((trmAt P.tm j).fr < (nspAt P.ps k.toNat).fr)=true:=decide_eq_true (by omega)
       go_wp2_with fail
       (refine wp_region_onto prog_mixed (by kernel_rfl) ?_;(repeat (go_big_quiet_step ((first | (go_at_call 195;exact onto_callX (impl_isSmall_b Hq1.out _ (by decide)))))));refine onto_end ?_;intro w1 hx1)
       go_wp2_with fail
       go_ret
       exact ⟨ret_bool (B_false (fun h=>by have hh:=h.2.2.2 j hlt;rw [TrmOk,Hk.out] at hh;exact by have:=hh.2.2.2.1;omega)).symm,exts⟩
      have d6:decide ((trmAt P.tm j).fr < (nspAt P.ps k.toNat).fr)=false:=decide_eq_false (by omega)
      by_cases h7:(trmAt P.tm j).to ≤ (nspAt P.ps k.toNat).to
      case neg =>
       have d7:decide ((nspAt P.ps k.toNat).to < (trmAt P.tm j).to)=true:=decide_eq_true (by omega)
       go_wp2_with fail
       (refine wp_region_onto prog_mixed (by kernel_rfl) ?_;(repeat (go_big_quiet_step ((first | (go_at_call 195;exact onto_callX (impl_isSmall_b Hq1.out _ (by decide)))))));refine onto_end ?_;intro w1 hx1)
       go_wp2_with fail
       go_ret
       exact ⟨ret_bool (B_false (fun h=>by have hh:=h.2.2.2 j hlt;rw [TrmOk,Hk.out] at hh;exact by have:=hh.2.2.2.2;omega)).symm,exts⟩
      have d7:decide ((nspAt P.ps k.toNat).to < (trmAt P.tm j).to)=false:=decide_eq_false (by omega)
      have Hn:=qh (show TrmOk P.ps (trmAt P.tm j) from by rw [TrmOk,Hk.out];exact ⟨hk0,B_iff.1 Hq1.out,h5,h6,h7⟩)
      go_wp2_with fail
      (refine wp_region_onto prog_mixed (by kernel_rfl) ?_;(repeat (go_big_quiet_step ((first | (go_at_call 195;exact onto_callX (impl_isSmall_b Hq1.out _ (by decide)))))));refine onto_end ?_;intro w1 hx1)
      go_wp2_with fail
      go_roundg (P.tm.length - (j+1))
      case measure=>omega
      case rel=>exact ⟨j+1,by omega,by go_num,(hxz.trans hxr3).trans exts,fun i hi=>by
       by_cases e:i=j
       ·rw [e];exact Hn.out
       ·exact Htm.out i (by omega)⟩
    ·obtain rfl:j=P.tm.length:=by omega
     have hji:¬ (P.tm.length:Int) < (P.tm.length:Int):=by omega
     clear hlt
     go_wp2_with fail
     go_ret
     exact ⟨ret_bool (B_true ⟨hl1,hl2,Hps.out,Htm.out⟩).symm,exts⟩
end Go.Proofs.YtechbeegbhlppaaGreatDoor
