/- Contracts: AreMarks, the program's and the reference's. -/
import Derived.Test.YtechbeegbhlppaaGreatDoorS2Jb
namespace Go.Proofs.YtechbeegbhlppaaGreatDoor
set_option linter.unusedVariables false
set_option linter.unusedSimpArgs false
open Go.RowKit
attribute [local go_sem] cell_onto
theorem impl_isSmall_b {s:ByteArray} {k:Int} {b:Bool} (hb:B (NameOk s k)=b) (w:World) (hk:k ≤ 9223372036854775807):Calls Tryz.prog 195 #[.string s,.int .i64 k] w (RetX (.bool b) w):=by
 subst hb;exact impl_isSmall s k w hk
theorem cmpM_ge {a b:Nsp} (h:¬ MkLt a b):decide (0 ≤ cmpM a b)=true:=decide_eq_true (by
 rcases Int.lt_or_le (cmpM a b) 0 with h1 | h1
 ·exact absurd ((cmpM_neg a b).1 h1) h
 ·exact h1)
theorem cmpM_lt {a b:Nsp} (h:MkLt a b):decide (0 ≤ cmpM a b)=false:=decide_eq_false (by have:=(cmpM_neg a b).2 h;omega)
set_option maxRecDepth 100000 in
set_option maxHeartbeats 4000000 in
theorem impl_AreMarks (v:Value) (l:List Nsp) (w:World) (h:Nsps w 0 w.heap.size v l):Calls Tryz.prog 194 #[v] w (RetX (.bool (B (MksOk l))) w):=by
 obtain ⟨A,c,rfl,hn,hc⟩:=h.len
 have H:=qh h
 clear h
 go_enter Tryz.func194,Tryz.ntmps194
 go_wp2_with fail
 go_loopg [3,4,7] l.length (fun q u3 u4 i wr=>∃ j:Nat,j+q=l.length∧i=.int .i64 j∧Ext w wr∧∀ i,i < j → MkStep l i)
 case atStart=>exact ⟨0,by omega,rfl,Ext.refl _,fun i hi=>absurd hi (by omega)⟩
 case round =>
  obtain ⟨j,hj,rfl,hx,hok⟩:=hrel
  have Hok:=qh hok
  clear hok
  by_cases hlt:j < l.length
  ·obtain ⟨b,off,rfl,_,hb,h1,h2,h3⟩:=(H.out.ext hx (Nat.le_refl _)).at_ hlt
   have hbr:b < wr.heap.size:=Nat.lt_of_lt_of_le hb hx.size
   have hbr1:b < wr.heap.size+1:=by omega
   by_cases hs1:NameOk (nspAt l j).nm 12
   ·have Hs1:=qh (B_true hs1)
    by_cases hs2:DayOk (nspAt l j).fr
    ·have Hs2:=qh (B_true hs2)
     by_cases hs3:DayOk (nspAt l j).to
     ·have Hs3:=qh (B_true hs3)
      by_cases hs4:(nspAt l j).fr ≤ (nspAt l j).to
      ·have Hn:=qh (show NspOk (nspAt l j) from ⟨hs1,hs2,hs3,hs4⟩)
       have d4:decide ((nspAt l j).to < (nspAt l j).fr)=false:=decide_eq_false (by omega)
       clear hs1 hs2 hs3
       by_cases h0:0 < j
       ·have hb0:decide ((0:Int) < (j:Int))=true:=by simp;omega
        obtain ⟨b', off', e,_,_,k1,k2,k3⟩:=(H.out.ext hx (Nat.le_refl _)).at_ (i:=j - 1) (by omega)
        injection e with e
        injection e with e1 e2
        subst e1 e2
        by_cases hlt2:MkLt (nspAt l (j - 1)) (nspAt l j)
        ·have d5:=cmpM_lt hlt2
         have Hl:=qh hlt2
         clear hlt2
         go_wp2_with fail
         (refine wp_region_onto prog_mixed (by kernel_rfl) ?_;(repeat (go_big_quiet_step ((first | (go_at_call 195;exact onto_callX (impl_isSmall_b Hs1.out _ (by decide))) | (go_at_call 231;first | with_reducible exact onto_callS (impl_isDay_b Hs2.out _) | with_reducible exact onto_callS (impl_isDay_b Hs3.out _)) | (go_at_call 234;exact onto_callX (impl_compareMarks (nspAt l (j - 1)) (nspAt l j) _))))));refine onto_end ?_;intro w1 hx1)
         go_wp2_with fail
         go_roundg (l.length - (j+1))
         case measure=>omega
         case rel=>exact ⟨j+1,by omega,by go_num,exts,mks_step Hok.out ⟨Hn.out,fun _=>Hl.out⟩⟩
        ·have d5:=cmpM_ge hlt2
         have Hl:=qh hlt2
         clear hlt2
         go_wp2_with fail
         (refine wp_region_onto prog_mixed (by kernel_rfl) ?_;(repeat (go_big_quiet_step ((first | (go_at_call 195;exact onto_callX (impl_isSmall_b Hs1.out _ (by decide))) | (go_at_call 231;first | with_reducible exact onto_callS (impl_isDay_b Hs2.out _) | with_reducible exact onto_callS (impl_isDay_b Hs3.out _)) | (go_at_call 234;exact onto_callX (impl_compareMarks (nspAt l (j - 1)) (nspAt l j) _))))));refine onto_end ?_;intro w1 hx1)
         go_wp2_with fail
         go_ret
         exact ⟨ret_bool (B_false (fun h=>Hl.out ((h.2 j hlt).2 h0))).symm,exts⟩
       ·have hb0:decide ((0:Int) < (j:Int))=false:=by simp;omega
        go_wp2_with fail
        (refine wp_region_onto prog_mixed (by kernel_rfl) ?_;(repeat (go_big_quiet_step ((first | (go_at_call 195;exact onto_callX (impl_isSmall_b Hs1.out _ (by decide))) | (go_at_call 231;first | with_reducible exact onto_callS (impl_isDay_b Hs2.out _) | with_reducible exact onto_callS (impl_isDay_b Hs3.out _))))));refine onto_end ?_;intro w1 hx1)
        go_wp2_with fail
        go_roundg (l.length - (j+1))
        case measure=>omega
        case rel=>exact ⟨j+1,by omega,by go_num,exts,mks_step Hok.out ⟨Hn.out,fun hh=>absurd hh h0⟩⟩
      ·have d4:decide ((nspAt l j).to < (nspAt l j).fr)=true:=decide_eq_true (by omega)
       go_wp2_with fail
       (refine wp_region_onto prog_mixed (by kernel_rfl) ?_;(repeat (go_big_quiet_step ((first | (go_at_call 195;exact onto_callX (impl_isSmall_b Hs1.out _ (by decide))) | (go_at_call 231;first | with_reducible exact onto_callS (impl_isDay_b Hs2.out _) | with_reducible exact onto_callS (impl_isDay_b Hs3.out _))))));refine onto_end ?_;intro w1 hx1)
       go_wp2_with fail
       go_ret
       exact ⟨ret_bool (B_false (fun h=>by have:=(h.2 j hlt).1.2.2.2;omega)).symm,exts⟩
     ·have Hs3:=qh (B_false hs3)
      have Hs0:=qh hs3
      clear hs1 hs2 hs3
      go_wp2_with fail
      (refine wp_region_onto prog_mixed (by kernel_rfl) ?_;(repeat (go_big_quiet_step ((first | (go_at_call 195;exact onto_callX (impl_isSmall_b Hs1.out _ (by decide))) | (go_at_call 231;first | with_reducible exact onto_callS (impl_isDay_b Hs2.out _) | with_reducible exact onto_callS (impl_isDay_b Hs3.out _))))));refine onto_end ?_;intro w1 hx1)
      go_wp2_with fail
      go_ret
      exact ⟨ret_bool (B_false (fun h=>Hs0.out (h.2 j hlt).1.2.2.1)).symm,exts⟩
    ·have Hs2:=qh (B_false hs2)
     have Hs0:=qh hs2
     clear hs1 hs2
     go_wp2_with fail
     (refine wp_region_onto prog_mixed (by kernel_rfl) ?_;(repeat (go_big_quiet_step ((first | (go_at_call 195;exact onto_callX (impl_isSmall_b Hs1.out _ (by decide))) | (go_at_call 231;exact onto_callS (impl_isDay_b Hs2.out _))))));refine onto_end ?_;intro w1 hx1)
     go_wp2_with fail
     go_ret
     exact ⟨ret_bool (B_false (fun h=>Hs0.out (h.2 j hlt).1.2.1)).symm,exts⟩
   ·have Hs1:=qh (B_false hs1)
    have Hs0:=qh hs1
    clear hs1
    go_wp2_with fail
    (refine wp_region_onto prog_mixed (by kernel_rfl) ?_;(repeat (go_big_quiet_step ((go_at_call 195;exact onto_callX (impl_isSmall_b Hs1.out _ (by decide))))));refine onto_end ?_;intro w1 hx1)
    go_wp2_with fail
    go_ret
    exact ⟨ret_bool (B_false (fun h=>Hs0.out (h.2 j hlt).1.1)).symm,exts⟩
  ·obtain rfl:j=l.length:=by omega
   go_wp2_with fail
   go_ret
   refine ⟨ret_bool (B_eq ?_),exts⟩
   simp only [decide_eq_true_eq]
   exact ⟨fun h=>⟨by omega,Hok.out⟩,fun h=>by have:=h.1;omega⟩
set_option maxHeartbeats 1000000 in
theorem spec_l13Span (a b:Int) (w:World):Calls Tryz.prog 226 #[.int .i64 a,.int .i64 b] w (RetX (.bool (B (SpOk ⟨a,b⟩))) w):=by
 go_enter Tryz.func226,Tryz.ntmps226
 go_wp2_with fail
 refine Calls.mono (spec_l02Span a b _) ?_
 rintro e w1 ⟨rfl,hx1⟩
 go_wp2_with fail
 go_ret
 exact ⟨rfl,exts⟩
theorem spec_l13Span_b {x y:Int} {b:Bool} (hb:B (SpOk ⟨x,y⟩)=b) (w:World):Calls Tryz.prog 226 #[.int .i64 x,.int .i64 y] w (RetX (.bool b) w):=by
 subst hb;exact spec_l13Span x y w
theorem spec_l01Name_b {s:ByteArray} {k:Int} {b:Bool} (hb:B (NameOk s k)=b) (w:World) (hs:s.size ≤ 9223372036854775807):Calls Tryz.prog 187 #[.string s,.int .i64 k] w (RetS (.bool b) w):=by
 subst hb;exact spec_l01Name s k w hs
set_option maxRecDepth 100000 in
set_option maxHeartbeats 4000000 in
theorem spec_AreMarks (v:Value) (l:List Nsp) (w:World) (h:Nsps w 0 w.heap.size v l) (hsm:NSm l):Calls Tryz.prog 186 #[v] w (RetX (.bool (B (MksOk l))) w):=by
 obtain ⟨A,c,rfl,hn,hc⟩:=h.len
 have H:=qh h
 have Hsm:=qh hsm
 clear h hsm
 go_enter Tryz.func186,Tryz.ntmps186
 go_wp2_with fail
 go_loopg [3,4] l.length (fun q i u4 wr=>∃ j:Nat,j+q=l.length∧i=.int .i64 j∧Ext w wr∧∀ i,i < j → MkStep l i)
 case atStart=>exact ⟨0,by omega,rfl,Ext.refl _,fun i hi=>absurd hi (by omega)⟩
 case round =>
  obtain ⟨j,hj,rfl,hx,hok⟩:=hrel
  have Hok:=qh hok
  clear hok
  by_cases hlt:j < l.length
  ·obtain ⟨b,off,rfl,_,hb,h1,h2,h3⟩:=(H.out.ext hx (Nat.le_refl _)).at_ hlt
   have hbr:b < wr.heap.size:=Nat.lt_of_lt_of_le hb hx.size
   have hbr1:b < wr.heap.size+1:=by omega
   have hsz:=Hsm.out j hlt
   by_cases hs1:NameOk (nspAt l j).nm 12
   case neg =>
    have Hs1:=qh (B_false hs1)
    have Hs0:=qh hs1
    clear hs1
    go_wp2_with fail
    refine Calls.mono (spec_l01Name_b Hs1.out _ (by omega)) ?_
    rintro e w1 ⟨rfl,rfl⟩
    go_wp2_with fail
    go_ret
    exact ⟨ret_bool (B_false (fun h=>Hs0.out (h.2 j hlt).1.1)).symm,exts⟩
   have Hs1:=qh (B_true hs1)
   by_cases hs2:SpOk ⟨(nspAt l j).fr,(nspAt l j).to⟩
   case neg =>
    have Hs2:=qh (B_false hs2)
    have Hs0:=qh hs2
    clear hs1 hs2
    go_wp2_with fail
    refine Calls.mono (spec_l01Name_b Hs1.out _ (by omega)) ?_
    rintro e w1 ⟨rfl,rfl⟩
    go_wp2_with fail
    refine Calls.mono (spec_l13Span_b Hs2.out _) ?_
    rintro e w1 ⟨rfl,hx1⟩
    go_wp2_with fail
    go_ret
    exact ⟨ret_bool (B_false (fun h=>Hs0.out (h.2 j hlt).1.2)).symm,exts⟩
   have Hs2:=qh (B_true hs2)
   have Hn:=qh (show NspOk (nspAt l j) from ⟨hs1,hs2⟩)
   clear hs1 hs2
   go_wp2_with fail
   refine Calls.mono (spec_l01Name_b Hs1.out _ (by omega)) ?_
   rintro e w1 ⟨rfl,rfl⟩
   go_wp2_with fail
   refine Calls.mono (spec_l13Span_b Hs2.out _) ?_
   rintro e w1 ⟨rfl,hx1⟩
   have bx:=(Boxed.new wr [.string (nspAt l j).nm,.int .i64 (nspAt l j).fr,.int .i64 (nspAt l j).to] 165).ext hx1;have bx0:=bx.at0;have bx1:=bx.at1;have bx2:=bx.at2;have bxg:=bx.1;have Hbx:=qh bx;clear bx
   have hxr:Ext wr w1:=exts
   have hx2:Ext w w1:=hx.trans hxr
   have hbr2:b < w1.heap.size:=Nat.lt_of_lt_of_le hbr hxr.size
   clear hx1 h1 h2 h3
   by_cases h0:0 < j
   ·have hb0:decide ((0:Int) < (j:Int))=true:=by simp;omega
    obtain ⟨b', off', e,_,_,k1,k2,k3⟩:=(H.out.ext hx2 (Nat.le_refl _)).at_ (i:=j - 1) (by omega)
    injection e with e
    injection e with e1 e2
    subst e1 e2
    by_cases hs:sLt (nspAt l j).nm (nspAt l (j - 1)).nm
    ·have T1:=sl_true hs
     have Hl:=qh (show ¬ MkLt (nspAt l (j - 1)) (nspAt l j) from fun hh=>by
      rcases hh with hh | ⟨e,_⟩
      ·exact sLt_asym hh hs
      ·rw [e] at hs;exact sLt_irr _ hs)
     clear hs
     go_wp2_with fail
     (refine wp_region_onto prog_mixed (by kernel_rfl) ?_;(repeat (go_big_quiet_step ((fail))));refine onto_end ?_;intro w2 hx3)
     go_wp2_with fail
     go_ret
     exact ⟨ret_bool (B_false (fun h=>Hl.out ((h.2 j hlt).2 h0))).symm,exts⟩
    ·have T1:=sl_false hs
     by_cases he:(nspAt l j).nm=(nspAt l (j - 1)).nm
     ·have T2:=str_is he
      by_cases hf:(nspAt l j).fr ≤ (nspAt l (j - 1)).fr
      ·have T3:decide ((nspAt l j).fr ≤ (nspAt l (j - 1)).fr)=true:=decide_eq_true hf
       have Hl:=qh (show ¬ MkLt (nspAt l (j - 1)) (nspAt l j) from fun hh=>by
        rcases hh with hh | ⟨_,hh⟩
        ·rw [he] at hh;exact sLt_irr _ hh
        ·omega)
       have He:=qh he
       clear hs he
       go_wp2_with fail
       (refine wp_region_onto prog_mixed (by kernel_rfl) ?_;(repeat (go_big_quiet_step ((fail))));refine onto_end ?_;intro w2 hx3)
       go_wp2_with fail
       go_ret
       exact ⟨ret_bool (B_false (fun h=>Hl.out ((h.2 j hlt).2 h0))).symm,exts⟩
      ·have T3:decide ((nspAt l j).fr ≤ (nspAt l (j - 1)).fr)=false:=decide_eq_false hf
       have Hl:=qh (show MkLt (nspAt l (j - 1)) (nspAt l j) from .inr ⟨he.symm,by omega⟩)
       clear hs he
       go_wp2_with fail
       (refine wp_region_onto prog_mixed (by kernel_rfl) ?_;(repeat (go_big_quiet_step ((fail))));refine onto_end ?_;intro w2 hx3)
       go_wp2_with fail
       go_roundg (l.length - (j+1))
       case measure=>omega
       case rel=>exact ⟨j+1,by omega,by go_num,exts,mks_step Hok.out ⟨Hn.out,fun _=>Hl.out⟩⟩
     ·have T2:=str_ne he
      have Hl:=qh (show MkLt (nspAt l (j - 1)) (nspAt l j) from .inl (Classical.byContradiction fun hh=>he (sLt_tri hs hh)))
      clear hs he
      go_wp2_with fail
      (refine wp_region_onto prog_mixed (by kernel_rfl) ?_;(repeat (go_big_quiet_step ((fail))));refine onto_end ?_;intro w2 hx3)
      go_wp2_with fail
      go_roundg (l.length - (j+1))
      case measure=>omega
      case rel=>exact ⟨j+1,by omega,by go_num,exts,mks_step Hok.out ⟨Hn.out,fun _=>Hl.out⟩⟩
   ·have hb0:decide ((0:Int) < (j:Int))=false:=by simp;omega
    go_wp2_with fail
    (refine wp_region_onto prog_mixed (by kernel_rfl) ?_;(repeat (go_big_quiet_step ((fail))));refine onto_end ?_;intro w2 hx3)
    go_wp2_with fail
    go_roundg (l.length - (j+1))
    case measure=>omega
    case rel=>exact ⟨j+1,by omega,by go_num,exts,mks_step Hok.out ⟨Hn.out,fun hh=>absurd hh h0⟩⟩
  ·obtain rfl:j=l.length:=by omega
   go_wp2_with fail
   go_ret
   refine ⟨ret_bool (B_eq ?_),exts⟩
   simp only [decide_eq_true_eq]
   exact ⟨fun h=>⟨by omega,Hok.out⟩,fun h=>by have:=h.1;omega⟩
end Go.Proofs.YtechbeegbhlppaaGreatDoor
