/- Contracts: IsDating, the program's and the reference's. -/
import Derived.Test.YtechbeegbhlppaaGreatDoorS2Qe
import Derived.Test.YtechbeegbhlppaaGreatDoorS2Ka
namespace Go.Proofs.YtechbeegbhlppaaGreatDoor
set_option linter.unusedVariables false
set_option linter.unusedSimpArgs false
open Go.RowKit
attribute [local go_sem] cell_onto
set_option maxHeartbeats 1000000 in
theorem impl_IsDating_1 (x:Cls) (w:World):Calls Tryz.prog 236 #[.agg #[.int .i64 x.ki,.int .i64 x.nu,.int .i64 x.mo,.int .i64 x.fe,.int .i64 x.re,.int .i64 x.wd,.int .i64 x.st,.string x.kg]] w (RetX (.bool (B (¬ ClsOk x))) w):=by
 obtain ⟨q1,e1⟩:∃ b,B (ClsOk x)=b:=⟨_,rfl⟩
 have Hq1:=qh e1
 clear e1
 go_enter Tryz.func236,Tryz.ntmps236
 go_wp2_with fail
 refine Calls.mono (impl_IsClause x _) ?_
 rintro e w1 ⟨rfl,hx1⟩
 rw [Hq1.out]
 cases q1 with
 | false =>
  go_wp2_with fail
  go_ret
  exact ⟨ret_bool (B_true (B_not.1 Hq1.out)).symm,exts⟩
 | true =>
  go_wp2_with fail
  go_ret
  exact ⟨ret_bool (B_false (fun h=>h (B_iff.1 Hq1.out))).symm,exts⟩
set_option maxHeartbeats 1000000 in
theorem impl_IsDating (v:Value) (l:List Cls) (w:World) (h:Clss w 0 w.heap.size v l):Calls Tryz.prog 196 #[v] w (RetX (.bool (B (DtgOk l))) w):=by
 obtain ⟨A,c,rfl,hn,hc⟩:=h.len
 have H:=qh h
 clear h
 go_enter Tryz.func196,Tryz.ntmps196
 by_cases h8:(l.length:Int) ≤ 8
 case neg =>
  have d8:decide ((l.length:Int) ≤ 8)=false:=decide_eq_false h8
  go_wp2_with fail
  go_ret
  exact ⟨ret_bool (B_false (fun hh=>by have:=hh.1;omega)).symm,exts⟩
 have d8:decide ((l.length:Int) ≤ 8)=true:=decide_eq_true h8
 obtain ⟨q1,e1⟩:∃ b,B (0 ≤ fstIx (fun i=>¬ ClsOk (clsAt l i)) l.length)=b:=⟨_,rfl⟩
 have Hq1:=qh e1
 clear e1
 go_wp2_with fail
 refine Calls.mono (containsFunc_clauses _ l 236 _ (fun i=>¬ ClsOk (clsAt l i)) _ (H.out.up exts) Tryz.call236 (fun i w' hi hx=>impl_IsDating_1 (clsAt l i) w')) ?_
 rintro e w1 ⟨rfl,hx1⟩
 rw [Hq1.out]
 cases q1 with
 | false =>
  go_wp2_with fail
  go_ret
  exact ⟨ret_bool (B_true ⟨by omega,some_iff.1 (B_not.1 Hq1.out)⟩).symm,exts⟩
 | true =>
  go_wp2_with fail
  go_ret
  exact ⟨ret_bool (B_false (fun hh=>some_iff.2 hh.2 (B_iff.1 Hq1.out))).symm,exts⟩
set_option maxHeartbeats 2000000 in
theorem spec_IsDating (v:Value) (l:List Cls) (w:World) (h:Clss w 0 w.heap.size v l) (hsm:∀ i,i < l.length → (clsAt l i).kg.size ≤ 9223372036854775807):Calls Tryz.prog 188 #[v] w (RetX (.bool (B (DtgOk l))) w):=by
 obtain ⟨A,c,rfl,hn,hc⟩:=h.len
 have H:=qh h
 have Hsm:=qh hsm
 clear h hsm
 go_enter Tryz.func188,Tryz.ntmps188
 go_wp2_with fail
 go_loopg [3] l.length (fun k i wr=>∃ j:Nat,j+k=l.length∧i=.int .i64 j∧Ext w wr∧∀ i,i < j → ClsOk (clsAt l i))
 case atStart=>exact ⟨0,by omega,rfl,exts,fun i hi=>absurd hi (by omega)⟩
 case round =>
  obtain ⟨j,hj,rfl,hx,hok⟩:=hrel
  have Hok:=qh hok
  clear hok
  have hj0:(0:Int) ≤ (j:Int):=by omega
  by_cases hlt:j < l.length
  ·have hji:(j:Int) < (l.length:Int):=by omega
   obtain ⟨b,off,rfl,_,hb,h1,h2,h3,h4,h5,h6,h7,h8⟩:=(H.out.ext hx (Nat.le_refl _)).at_ hlt
   have hbr:b < wr.heap.size:=Nat.lt_of_lt_of_le hb hx.size
   obtain ⟨q1,e1⟩:∃ b,B (ClsOk (clsAt l j))=b:=⟨_,rfl⟩
   have Hq:=qh (show ∀ W,Calls Tryz.prog 229 #[.agg #[.int .i64 (clsAt l j).ki,.int .i64 (clsAt l j).nu,.int .i64 (clsAt l j).mo,.int .i64 (clsAt l j).fe,.int .i64 (clsAt l j).re,.int .i64 (clsAt l j).wd,.int .i64 (clsAt l j).st,.string (clsAt l j).kg]] W (RetX (.bool q1) W) from fun W=>by subst e1;exact spec_IsClause (clsAt l j) W (Hsm.out j hlt))
   have H1:=qh e1
   clear e1
   cases q1 with
   | false =>
    go_wp2_with fail
    refine Calls.mono (Hq.out _) ?_
    rintro e w1 ⟨rfl,hx1⟩
    go_wp2_with fail
    go_ret
    exact ⟨ret_bool (B_false (fun h=>B_not.1 H1.out (h.2 j hlt))).symm,exts⟩
   | true =>
    go_wp2_with fail
    refine Calls.mono (Hq.out _) ?_
    rintro e w1 ⟨rfl,hx1⟩
    go_wp2_with fail
    go_roundg (l.length - (j+1))
    case measure=>omega
    case rel=>exact ⟨j+1,by omega,by go_num,exts,dtg_step Hok.out (B_iff.1 H1.out)⟩
  ·obtain rfl:j=l.length:=by omega
   have hji:¬ (l.length:Int) < (l.length:Int):=by omega
   go_wp2_with fail
   go_ret
   refine ⟨ret_bool (B_eq ?_),exts⟩
   simp only [decide_eq_true_eq]
   exact ⟨fun h=>⟨by omega,Hok.out⟩,fun h=>by have:=h.1;omega⟩
end Go.Proofs.YtechbeegbhlppaaGreatDoor
