/- Contracts: l13Code; the deed with a name, on both sides. -/
import Derived.Test.YtechbeegbhlppaaGreatDoorS2Ka
import Derived.Test.YtechbeegbhlppaaGreatDoorS2Kc
import Derived.Test.YtechbeegbhlppaaGreatDoorS2Qd
namespace Go.Proofs.YtechbeegbhlppaaGreatDoor
set_option linter.unusedVariables false
set_option linter.unusedSimpArgs false
open Go.RowKit
attribute [local go_sem] cell_onto
def WisOk (P:Ppl) (l:List Wit):Prop:=∀ k,k < l.length → 0 ≤ psIx P.ps (witAt l k).pe
noncomputable def wiE (P:Ppl) (l:List Wit):Int:=bif B (PplOk P) then (bif B (l.length ≤ 12) then (bif B (WisOk P l) then 0 else 4) else 2) else 1
theorem wiE_1 {P:Ppl} {l:List Wit} (h:¬ PplOk P):wiE P l=1:=by unfold wiE;rw [B_false h];rfl
theorem wiE_2 {P:Ppl} {l:List Wit} (h:PplOk P) (h2:¬ l.length ≤ 12):wiE P l=2:=by unfold wiE;rw [B_true h,B_false h2];rfl
theorem wiE_4 {P:Ppl} {l:List Wit} (h:PplOk P) (h2:l.length ≤ 12) (h3:¬ WisOk P l):wiE P l=4:=by unfold wiE;rw [B_true h,B_true h2,B_false h3];rfl
theorem wiE_0 {P:Ppl} {l:List Wit} (h:PplOk P) (h2:l.length ≤ 12) (h3:WisOk P l):wiE P l=0:=by unfold wiE;rw [B_true h,B_true h2,B_true h3];rfl
theorem wiE_cases (P:Ppl) (l:List Wit):(wiE P l=0∧l.length ≤ 12∧WisOk P l) ∨ (wiE P l ≠ 0∧(PplOk P → ¬ (l.length ≤ 12∧WisOk P l))):=by
 by_cases h:PplOk P
 ·by_cases h2:l.length ≤ 12
  ·by_cases h3:WisOk P l
   ·exact .inl ⟨wiE_0 h h2 h3,h2,h3⟩
   ·exact .inr ⟨by rw [wiE_4 h h2 h3];omega,fun _ hh=>h3 hh.2⟩
  ·exact .inr ⟨by rw [wiE_2 h h2];omega,fun _ hh=>h2 hh.1⟩
 ·exact .inr ⟨by rw [wiE_1 h];omega,fun hh=>absurd hh h⟩
set_option maxRecDepth 100000 in
set_option maxHeartbeats 4000000 in
theorem spec_l13Code (vp vt v:Value) (P:Ppl) (l:List Wit) (w:World) (hp:Nsps w 0 w.heap.size vp P.ps) (ht:Trms w 0 w.heap.size vt P.tm) (hs1:NSm P.ps) (hs2:∀ i,i < P.tm.length → (trmAt P.tm i).of.size ≤ 1048576) (h:Wits w 0 w.heap.size v l) :
  Calls Tryz.prog 189 #[.agg #[vp,vt],v,.bool true] w (RetX (.int .i64 (wiE P l)) w):=by
 obtain ⟨A,c,rfl,hn,hc⟩:=h.len
 have H:=qh h
 have Hp:=qh hp
 have Ht:=qh ht
 clear h hp ht
 obtain ⟨q1,e1⟩:∃ b,B (PplOk P)=b:=⟨_,rfl⟩
 have Hq1:=qh e1
 clear e1
 go_enter Tryz.func189,Tryz.ntmps189
 go_wp2_with fail
 refine Calls.mono (spec_IsPeople vp vt P _ (Hp.out.up exts) (Ht.out.up exts) hs1 hs2) ?_
 rintro e w1 ⟨rfl,hx1⟩
 rw [Hq1.out]
 have bx:=(Boxed.new w [vp,vt] 49).ext hx1;have bx0:=bx.at0;have bx1:=bx.at1;have bxg:=bx.1;have Hbx:=qh bx;clear bx
 have hx:Ext w w1:=exts
 clear hx1 hs1 hs2
 cases q1 with
 | false =>
  have E:=qh (wiE_1 (l:=l) (B_not.1 Hq1.out))
  go_wp2_with fail
  go_ret
  exact ⟨ret_int E.out.symm,exts⟩
 | true =>
  by_cases h12:l.length ≤ 12
  case neg =>
   have E:=qh (wiE_2 (B_iff.1 Hq1.out) h12)
   have d12:decide ((12:Int) < (l.length:Int))=true:=decide_eq_true (by omega)
   go_wp2_with fail
   go_ret
   exact ⟨ret_int E.out.symm,exts⟩
  have d12:decide ((12:Int) < (l.length:Int))=false:=decide_eq_false (by omega)
  go_wp2_with fail
  go_loopg [7] l.length (fun k i wr=>∃ j:Nat,j+k=l.length∧i=.int .i64 j∧Ext w wr∧Boxed wr w.heap.size [vp,vt]∧∀ i,i < j → 0 ≤ psIx P.ps (witAt l i).pe)
  case atStart=>exact ⟨0,by omega,rfl,exts,Hbx.out,fun i hi=>absurd hi (by omega)⟩
  case round =>
   obtain ⟨j,hj,rfl,hxr,hbb,hok⟩:=hrel
   have bx:=hbb;have bx0:=bx.at0;have bx1:=bx.at1;have bxg:=bx.1;have Hbx:=qh bx;clear bx
   have Hok:=qh hok
   clear hok hbb
   have hj0:(0:Int) ≤ (j:Int):=by omega
   by_cases hlt:j < l.length
   ·have hji:(j:Int) < (l.length:Int):=by omega
    obtain ⟨b,off,rfl,_,hb,h1,h2⟩:=(H.out.ext hxr (Nat.le_refl _)).at_ hlt
    have hbr:b < wr.heap.size:=Nat.lt_of_lt_of_le hb hxr.size
    obtain ⟨x,ex⟩:∃ x,psIx P.ps (witAt l j).pe=x:=⟨_,rfl⟩
    have Hx:=qh ex
    have Hq:=qh (show ∀ W,Ext wr W → Calls Tryz.prog 206 #[.agg #[vp,vt],.string (witAt l j).pe] W (RetX (.int .i64 x) W) from fun W hW=>by subst ex;exact spec_l13Person vp vt P.ps (witAt l j).pe W (Hp.out.up (hxr.trans hW)))
    clear ex
    by_cases hx0:x < 0
    ·have d0:decide (x < 0)=true:=decide_eq_true hx0
     have E:=qh (wiE_4 (l:=l) (B_iff.1 Hq1.out) h12 (fun h=>by have:=h j hlt;rw [Hx.out] at this;omega))
     go_wp2_with fail
     (refine wp_region_onto prog_mixed (by kernel_rfl) ?_;(repeat (go_big_quiet_step ((go_at_call 206;exact onto_callX (Hq.out _ (onto_ext _ _))))));refine onto_end ?_;intro w2 hx2)
     go_wp2_with fail
     go_ret
     exact ⟨ret_int E.out.symm,exts⟩
    ·have d0:decide (x < 0)=false:=decide_eq_false hx0
     go_wp2_with fail
     (refine wp_region_onto prog_mixed (by kernel_rfl) ?_;(repeat (go_big_quiet_step ((go_at_call 206;exact onto_callX (Hq.out _ (onto_ext _ _))))));refine onto_end ?_;intro w2 hx2)
     go_wp2_with fail
     go_roundg (l.length - (j+1))
     case measure=>omega
     case rel =>
      refine ⟨j+1,by omega,by go_num,exts,Hbx.out.ext exts,fun i hi=>?_⟩
      by_cases e:i=j
      ·rw [e,Hx.out];omega
      ·exact Hok.out i (by omega)
   ·obtain rfl:j=l.length:=by omega
    have E:=qh (wiE_0 (B_iff.1 Hq1.out) h12 Hok.out)
    go_wp2_with fail
    go_ret
    exact ⟨ret_int E.out.symm,exts⟩
set_option maxHeartbeats 1000000 in
theorem impl_deedIndex_f (d:Ded) (vd vw vc:Value) (name:ByteArray) (g:Nat) (w:World) (hg:g < w.heap.size) (hc:w.cell? ⟨g,0,none⟩=some (.string name)) :
  Calls Tryz.prog 143 #[.agg #[.string d.nm,vd,vw,.string d.pl,.string d.se,.string d.ha,vc],.pointer (some ⟨g,0,none⟩)] w (RetX (.bool (B (d.nm=name))) w):=by
 have hg1:g < w.heap.size+1:=by omega
 by_cases e:d.nm=name
 ·have T:=str_is e
  have E:=qh e
  clear e
  go_enter Tryz.func143,Tryz.ntmps143
  go_wp2_with fail
  go_ret
  exact ⟨ret_bool (B_true E.out).symm,exts⟩
 ·have T:=str_ne e
  have E:=qh e
  clear e
  go_enter Tryz.func143,Tryz.ntmps143
  go_wp2_with fail
  go_ret
  exact ⟨ret_bool (B_false E.out).symm,exts⟩
set_option maxHeartbeats 1000000 in
theorem impl_deedIndex (v:Value) (l:List Ded) (name:ByteArray) (w:World) (h:Deds w 0 w.heap.size v l):Calls Tryz.prog 83 #[v,.string name] w (RetX (.int .i64 (ddIx l name)) w):=by
 have H:=qh h
 clear h
 go_enter Tryz.func83,Tryz.ntmps83
 go_wp2_with fail
 refine Calls.mono (indexFunc_deeds v l 143 _ (fun i=>(dedAt l i).nm=name) _ (H.out.up exts) Tryz.call143 (fun i w' hi hx vd vw vc _ _ _=>?_)) ?_
 ·have hb:=(Boxed.new w [.string name] 9).ext hx
  exact impl_deedIndex_f (dedAt l i) vd vw vc name _ w' hb.1 hb.at0
 rintro e w1 ⟨rfl,hx1⟩
 have E:=qh (show fstIx (fun i=>(dedAt l i).nm=name) l.length=ddIx l name from rfl)
 rw [E.out]
 go_wp2_with fail
 go_ret
 exact ⟨rfl,exts⟩
set_option maxHeartbeats 2000000 in
theorem spec_l17Find (v:Value) (l:List Ded) (x:ByteArray) (w:World) (h:Deds w 0 w.heap.size v l):Calls Tryz.prog 80 #[v,.string x] w (RetX (.int .i64 (ddIx l x)) w):=by
 obtain ⟨A,c,rfl,hn,hc⟩:=h.len
 have H:=qh h
 clear h
 go_enter Tryz.func80,Tryz.ntmps80
 go_wp2_with fail
 go_loopg [5] l.length (fun k i wr=>∃ j:Nat,j+k=l.length∧i=.int .i64 j∧Ext w wr∧∀ i,i < j → ¬ ((dedAt l i).nm=x))
 case atStart=>exact ⟨0,by omega,rfl,exts,fun i hi=>absurd hi (by omega)⟩
 case round =>
  obtain ⟨j,hj,rfl,hx,hok⟩:=hrel
  have Hok:=qh hok
  clear hok
  have hj0:(0:Int) ≤ (j:Int):=by omega
  by_cases hlt:j < l.length
  ·have hji:(j:Int) < (l.length:Int):=by omega
   obtain ⟨b,off,vd,vw,vc,rfl,_,hb,h1,h2,h3,h4,h5,h6,h7,kd,kw,kc⟩:=(H.out.up hx).at_ hlt
   clear kd kw kc
   have hbr:b < wr.heap.size:=hb
   by_cases e:(dedAt l j).nm=x
   ·have E:=qh (show (j:Int)=ddIx l x from fst_yes (p:=fun i=>(dedAt l i).nm=x) hlt e Hok.out)
    have T1:=str_is e
    clear e
    go_wp2_with fail
    go_ret
    exact ⟨by rw [← E.out];rfl,exts⟩
   ·have E:=qh e
    have T1:=str_ne e
    clear e
    go_wp2_with fail
    go_roundg (l.length - (j+1))
    case measure=>omega
    case rel =>
     refine ⟨j+1,by omega,by go_num,exts,fun i hi=>?_⟩
     by_cases e:i=j
     ·rw [e];exact E.out
     ·exact Hok.out i (by omega)
  ·obtain rfl:j=l.length:=by omega
   have hji:¬ (l.length:Int) < (l.length:Int):=by omega
   have E:=qh (show (-1:Int)=ddIx l x from fst_no (p:=fun i=>(dedAt l i).nm=x) Hok.out)
   go_wp2_with fail
   go_ret
   exact ⟨by rw [← E.out];rfl,exts⟩
end Go.Proofs.YtechbeegbhlppaaGreatDoor
