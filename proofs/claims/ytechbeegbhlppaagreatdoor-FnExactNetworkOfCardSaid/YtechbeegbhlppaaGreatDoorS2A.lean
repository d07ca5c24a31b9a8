/- Texts merged (a claim holds at most sixty files): A, B, C, D, E, F, N, O. -/
import Derived.Test.YtechbeegbhlppaaGreatDoorProg
import Derived.Test.YtechbeegbhlppaaGreatDoorS2Lib
namespace Go.Proofs.YtechbeegbhlppaaGreatDoor
set_option linter.unusedVariables false
set_option linter.unusedSimpArgs false
open Go.RowKit
attribute [local go_sem] cell_onto
theorem prog_mixed:Tryz.prog.follows .mixedOrders=true:=by kernel_rfl
set_option maxHeartbeats 400000 in
theorem impl_within (n lo hi:Int) (w:World):Calls Tryz.prog 52 #[.int .i64 n,.int .i64 lo,.int .i64 hi] w (RetS (.bool (B (lo ≤ n∧n ≤ hi))) w):=by
 go_enter Tryz.func52,Tryz.ntmps52
 go_wp2
 all_goals (go_ret;refine ⟨ret_bool (B_eq ?_),rfl⟩;simp;omega)
set_option maxHeartbeats 400000 in
theorem spec_l01In (n lo hi:Int) (w:World):Calls Tryz.prog 42 #[.int .i64 n,.int .i64 lo,.int .i64 hi] w (RetS (.bool (B (lo ≤ n∧n ≤ hi))) w):=by
 go_enter Tryz.func42,Tryz.ntmps42
 go_wp2
 all_goals (go_ret;refine ⟨ret_bool (B_eq ?_),rfl⟩;simp;omega)
set_option maxHeartbeats 400000 in
theorem impl_isDay (n:Int) (w:World):Calls Tryz.prog 231 #[.int .i64 n] w (RetS (.bool (B (DayOk n))) w):=by
 go_enter Tryz.func231,Tryz.ntmps231
 go_wp2_with (go_at_call 52;refine (impl_within _ _ _ _).mono ?_;rintro e w' ⟨rfl,rfl⟩)
 go_ret
 exact ⟨rfl,rfl⟩
set_option maxHeartbeats 400000 in
theorem spec_l01Day (n:Int) (w:World):Calls Tryz.prog 225 #[.int .i64 n] w (RetS (.bool (B (DayOk n))) w):=by
 go_enter Tryz.func225,Tryz.ntmps225
 go_wp2_with (go_at_call 42;refine (spec_l01In _ _ _ _).mono ?_;rintro e w' ⟨rfl,rfl⟩)
 go_ret
 exact ⟨rfl,rfl⟩
set_option maxHeartbeats 400000 in
theorem spec_l02Span (a b:Int) (w:World):Calls Tryz.prog 190 #[.agg #[.int .i64 a,.int .i64 b]] w (RetX (.bool (B (SpOk ⟨a,b⟩))) w):=by
 go_enter Tryz.func190,Tryz.ntmps190
 go_wp2_with (go_at_call 225;refine (spec_l01Day _ _).mono ?_;rintro e w' ⟨rfl,rfl⟩)
 all_goals (go_ret;refine ⟨ret_bool (B_eq ?_),exts⟩;(try simp only [Bool.and_eq_true,Bool.or_eq_true,B_iff,B_not,Bool.not_eq_true,Bool.not_eq_false', Bool.not_eq_true', Bool.not_not,decide_eq_true_eq,decide_eq_false_iff_not,Bool.true_eq_false,Bool.false_eq_true,iff_true,iff_false,true_iff,false_iff,beq_iff_eq,bne_iff_ne,ne_eq] at *);(try unfold SpOk DayOk at *);(try dsimp only at *);omega)
theorem setOk_step {l:List Sp} {j:Nat} (h:∀ i,i < j → StepOk l i) (h' : StepOk l j):∀ i,i < j+1 → StepOk l i:=by
 intro i hi
 by_cases e:i=j
 ·subst e;exact h'
 ·exact h i (by omega)
set_option maxHeartbeats 1000000 in
theorem spec_IsSet (v:Value) (l:List Sp) (w:World) (h:Spans w 0 w.heap.size v l):Calls Tryz.prog 138 #[v] w (RetX (.bool (B (SetOk l))) w):=by
 obtain ⟨A,c,rfl,hn,hc⟩:=h.len
 have H:=qh h
 clear h
 go_enter Tryz.func138,Tryz.ntmps138
 go_wp2_with fail
 go_loopg [3] l.length (fun k i wr=>∃ j:Nat,j+k=l.length∧i=.int .i64 j∧Ext w wr∧∀ i,i < j → StepOk l i)
 case atStart=>exact ⟨0,by omega,rfl,Ext.refl _,fun i hi=>absurd hi (by omega)⟩
 case round =>
  obtain ⟨j,hj,rfl,hx,hok⟩:=hrel
  have Hok:=qh hok
  clear hok
  by_cases hlt:j < l.length
  ·obtain ⟨b,off,rfl,_,hb,h1,h2⟩:=(H.out.ext hx (Nat.le_refl _)).at_ hlt
   have hbr:b < wr.heap.size:=Nat.lt_of_lt_of_le hb hx.size
   by_cases hs:SpOk (spAt l j)
   ·have hs1:B (SpOk (spAt l j))=true:=B_true hs
    have hd:=hs.1
    have Hs:=qh hs
    have Hs1:=qh hs1
    clear hs hs1
    by_cases h0:0 < j
    ·have hb0:decide ((0:Int) < (j:Int))=true:=by simp;omega
     obtain ⟨b', off', e,_,_,_,h3⟩:=(H.out.ext hx (Nat.le_refl _)).at_ (i:=j - 1) (by omega)
     injection e with e
     injection e with e1 e2
     subst e1 e2
     have hp:=(Hok.out (j - 1) (by omega)).1.2.1
     unfold DayOk at hp hd
     obtain ⟨hp1,hp2⟩:=hp
     go_wp2_with fail
     (refine wp_region_onto prog_mixed (by kernel_rfl) ?_;(repeat (go_big_quiet_step ((go_at_call 190;exact onto_callXb Hs1.out (spec_l02Span _ _ _)))));refine onto_end ?_;intro w1 hx1)
     go_wp2_with fail
     ·go_ret
      exact ⟨ret_bool (B_false (fun h=>by have:=((h.2 j hlt).2 h0);omega)).symm,exts⟩
     ·go_roundg (l.length - (j+1))
      case measure=>omega
      case rel=>exact ⟨j+1,by omega,by go_num,exts,setOk_step Hok.out ⟨Hs.out,fun _=>by omega⟩⟩
    ·have hb0:decide ((0:Int) < (j:Int))=false:=by simp;omega
     go_wp2_with fail
     (refine wp_region_onto prog_mixed (by kernel_rfl) ?_;(repeat (go_big_quiet_step ((go_at_call 190;exact onto_callXb Hs1.out (spec_l02Span _ _ _)))));refine onto_end ?_;intro w1 hx1)
     go_wp2_with fail
     go_roundg (l.length - (j+1))
     case measure=>omega
     case rel=>exact ⟨j+1,by omega,by go_num,exts,setOk_step Hok.out ⟨Hs.out,fun h=>absurd h h0⟩⟩
   ·have Hs:=qh hs
    have Hs1:=qh (B_false hs)
    clear hs
    go_wp2_with fail
    (refine wp_region_onto prog_mixed (by kernel_rfl) ?_;(repeat (go_big_quiet_step ((go_at_call 190;exact onto_callXb Hs1.out (spec_l02Span _ _ _)))));refine onto_end ?_;intro w1 hx1)
    go_wp2_with fail
    go_ret
    exact ⟨ret_bool (B_false (fun h=>Hs.out (h.2 j hlt).1)).symm,exts⟩
  ·obtain rfl:j=l.length:=by omega
   go_wp2_with fail
   go_ret
   refine ⟨ret_bool (B_eq ?_),exts⟩
   simp only [decide_eq_true_eq]
   exact ⟨fun h=>⟨by omega,Hok.out⟩,fun h=>by have:=h.1;omega⟩
def RetIdx (n:Nat) (p:Nat → Prop) (w:World) (e:Ending) (w' : World):Prop :=
 ∃ r:Int,e=.returned (.int .i64 r)∧Ext w w' ∧ ((r = -1∧∀ i,i < n → ¬ p i) ∨ (0 ≤ r∧∃ i,i < n∧p i))
def Some_ (n:Nat) (p:Nat → Prop):Prop:=∃ i,i < n∧p i
set_option maxHeartbeats 400000 in
theorem indexFunc_links (v:Value) (l:List Lk) (g:Nat) (caps:Array Value) (p:Nat → Prop) (w:World) (h:Links w 0 w.heap.size v l)
  (hg:∀ (args:Array Value) (w:World),(callFunc g args).run Tryz.prog w=.ok (.enter g args) w)
  (hf:∀ (i:Nat) (w' : World),i < l.length → Ext w w' → Calls Tryz.prog g (#[.agg #[.int .i64 (lkAt l i).be,.int .i64 (lkAt l i).af,.int .i64 (lkAt l i).le,.int .i64 (lkAt l i).mo]] ++ caps) w' (RetX (.bool (B (p i))) w')) :
  Calls Tryz.prog 203 #[v,.func (.func g) #[] caps] w (RetIdx l.length p w):=by
 obtain ⟨A,c,rfl,hn,hc⟩:=h.len
 have H:=qh h
 have Hf:=qh hf
 clear h hf
 go_enter Tryz.func203,Tryz.ntmps203
 go_wp2_with fail
 go_loopg [8] l.length (fun k i wr=>∃ j:Nat,j+k=l.length∧i=.int .i64 j∧Ext w wr∧∀ i,i < j → ¬ p i)
 case atStart=>exact ⟨0,by omega,rfl,Ext.refl _,fun i hi=>absurd hi (by omega)⟩
 case round =>
  obtain ⟨j,hj,rfl,hx,hok⟩:=hrel
  have Hok:=qh hok
  clear hok
  by_cases hlt:j < l.length
  ·obtain ⟨b,off,rfl,_,hb,h1,h2,h3,h4⟩:=(H.out.ext hx (Nat.le_refl _)).at_ hlt
   go_wp2_with fail
   refine (Hf.out j wr hlt hx).mono ?_
   rintro e w1 ⟨rfl,hx1⟩
   go_wp2_with fail
   ·go_ret
    exact ⟨j,rfl,exts,.inr ⟨by omega,j,hlt,B_iff.1 (by assumption)⟩⟩
   ·go_roundg (l.length - (j+1))
    case measure=>omega
    case rel =>
     refine ⟨j+1,by omega,by go_num,exts,fun i hi=>?_⟩
     by_cases e:i=j
     ·rw [e]
      exact B_not.1 (by first | assumption | (simp only [← Bool.not_eq_true];assumption))
     ·exact Hok.out i (by omega)
  ·obtain rfl:j=l.length:=by omega
   go_wp2_with fail
   go_ret
   exact ⟨-1,rfl,exts,.inl ⟨rfl,Hok.out⟩⟩
set_option maxHeartbeats 400000 in
theorem containsFunc_links (v:Value) (l:List Lk) (g:Nat) (caps:Array Value) (p:Nat → Prop) (w:World) (h:Links w 0 w.heap.size v l)
  (hg:∀ (args:Array Value) (w:World),(callFunc g args).run Tryz.prog w=.ok (.enter g args) w)
  (hf:∀ (i:Nat) (w' : World),i < l.length → Ext w w' → Calls Tryz.prog g (#[.agg #[.int .i64 (lkAt l i).be,.int .i64 (lkAt l i).af,.int .i64 (lkAt l i).le,.int .i64 (lkAt l i).mo]] ++ caps) w' (RetX (.bool (B (p i))) w')) :
  Calls Tryz.prog 145 #[v,.func (.func g) #[] caps] w (RetX (.bool (B (Some_ l.length p))) w):=by
 have H:=qh (indexFunc_links v l g caps p w h hg hf)
 clear h hf hg
 go_enter Tryz.func145,Tryz.ntmps145
 go_wp2_with fail
 refine H.out.mono ?_
 rintro e w1 ⟨r,rfl,hx,hr⟩
 have Hr:=qh hr
 clear hr
 go_wp2_with fail
 go_ret
 refine ⟨ret_bool (B_eq ?_),exts⟩
 simp only [decide_eq_true_eq]
 constructor
 ·intro h
  rcases Hr.out with ⟨h1,_⟩ | ⟨_,h2⟩
  ·omega
  ·exact h2
 ·rintro ⟨i,h1,h2⟩
  rcases Hr.out with ⟨_,h3⟩ | ⟨h3,_⟩
  ·exact absurd h2 (h3 i h1)
  ·omega
set_option maxHeartbeats 400000 in
theorem indexFunc_sets (v:Value) (l:List (List Sp)) (g:Nat) (caps:Array Value) (p:Nat → Prop) (w:World) (h:Sets w 0 w.heap.size v l)
  (hg:∀ (args:Array Value) (w:World),(callFunc g args).run Tryz.prog w=.ok (.enter g args) w)
  (hf:∀ (i:Nat) (w' : World) (u:Value),Spans w' 0 w.heap.size u (setAt l i) → i < l.length → Ext w w' → Calls Tryz.prog g (#[u] ++ caps) w' (RetX (.bool (B (p i))) w')) :
  Calls Tryz.prog 239 #[v,.func (.func g) #[] caps] w (RetIdx l.length p w):=by
 obtain ⟨A,c,rfl,hn,hc⟩:=h.len
 have H:=qh h
 have Hf:=qh hf
 clear h hf
 go_enter Tryz.func239,Tryz.ntmps239
 go_wp2_with fail
 go_loopg [8] l.length (fun k i wr=>∃ j:Nat,j+k=l.length∧i=.int .i64 j∧Ext w wr∧∀ i,i < j → ¬ p i)
 case atStart=>exact ⟨0,by omega,rfl,Ext.refl _,fun i hi=>absurd hi (by omega)⟩
 case round =>
  obtain ⟨j,hj,rfl,hx,hok⟩:=hrel
  have Hok:=qh hok
  clear hok
  by_cases hlt:j < l.length
  ·obtain ⟨b,off,u,rfl,_,hb,h1,h2⟩:=(H.out.ext hx (Nat.le_refl _)).at_ hlt
   go_wp2_with fail
   refine (Hf.out j wr u h2 hlt hx).mono ?_
   rintro e w1 ⟨rfl,hx1⟩
   go_wp2_with fail
   ·go_ret
    exact ⟨j,rfl,exts,.inr ⟨by omega,j,hlt,B_iff.1 (by assumption)⟩⟩
   ·go_roundg (l.length - (j+1))
    case measure=>omega
    case rel =>
     refine ⟨j+1,by omega,by go_num,exts,fun i hi=>?_⟩
     by_cases e:i=j
     ·rw [e]
      exact B_not.1 (by first | assumption | (simp only [← Bool.not_eq_true];assumption))
     ·exact Hok.out i (by omega)
  ·obtain rfl:j=l.length:=by omega
   go_wp2_with fail
   go_ret
   exact ⟨-1,rfl,exts,.inl ⟨rfl,Hok.out⟩⟩
set_option maxHeartbeats 400000 in
theorem containsFunc_sets (v:Value) (l:List (List Sp)) (g:Nat) (caps:Array Value) (p:Nat → Prop) (w:World) (h:Sets w 0 w.heap.size v l)
  (hg:∀ (args:Array Value) (w:World),(callFunc g args).run Tryz.prog w=.ok (.enter g args) w)
  (hf:∀ (i:Nat) (w' : World) (u:Value),Spans w' 0 w.heap.size u (setAt l i) → i < l.length → Ext w w' → Calls Tryz.prog g (#[u] ++ caps) w' (RetX (.bool (B (p i))) w')) :
  Calls Tryz.prog 200 #[v,.func (.func g) #[] caps] w (RetX (.bool (B (Some_ l.length p))) w):=by
 have H:=qh (indexFunc_sets v l g caps p w h hg hf)
 clear h hf hg
 go_enter Tryz.func200,Tryz.ntmps200
 go_wp2_with fail
 refine H.out.mono ?_
 rintro e w1 ⟨r,rfl,hx,hr⟩
 have Hr:=qh hr
 clear hr
 go_wp2_with fail
 go_ret
 refine ⟨ret_bool (B_eq ?_),exts⟩
 simp only [decide_eq_true_eq]
 constructor
 ·intro h
  rcases Hr.out with ⟨h1,_⟩ | ⟨_,h2⟩
  ·omega
  ·exact h2
 ·rintro ⟨i,h1,h2⟩
  rcases Hr.out with ⟨_,h3⟩ | ⟨h3,_⟩
  ·exact absurd h2 (h3 i h1)
  ·omega
theorem impl_isDay_b {n:Int} {b:Bool} (hb:B (DayOk n)=b) (w:World):Calls Tryz.prog 231 #[.int .i64 n] w (RetS (.bool b) w):=by
 subst hb;exact impl_isDay n w
set_option maxHeartbeats 1000000 in
theorem impl_IsSet (v:Value) (l:List Sp) (w:World) (h:Spans w 0 w.heap.size v l):Calls Tryz.prog 202 #[v] w (RetX (.bool (B (SetOk l))) w):=by
 obtain ⟨A,c,rfl,hn,hc⟩:=h.len
 have H:=qh h
 clear h
 go_enter Tryz.func202,Tryz.ntmps202
 go_wp2_with fail
 go_loopg [7] l.length (fun k i wr=>∃ j:Nat,j+k=l.length∧i=.int .i64 j∧Ext w wr∧∀ i,i < j → StepOk l i)
 case atStart=>exact ⟨0,by omega,rfl,Ext.refl _,fun i hi=>absurd hi (by omega)⟩
 case round =>
  obtain ⟨j,hj,rfl,hx,hok⟩:=hrel
  have Hok:=qh hok
  clear hok
  by_cases hlt:j < l.length
  ·obtain ⟨b,off,rfl,_,hb,h1,h2⟩:=(H.out.ext hx (Nat.le_refl _)).at_ hlt
   have hbr:b < wr.heap.size:=Nat.lt_of_lt_of_le hb hx.size
   have hbr1:b < wr.heap.size+1:=by omega
   by_cases hs1:DayOk (spAt l j).fr
   ·have Hs1:=qh (B_true hs1)
    by_cases hs2:DayOk (spAt l j).to
    ·have Hs2:=qh (B_true hs2)
     by_cases hs3:(spAt l j).fr ≤ (spAt l j).to
     ·have Hs:=qh (show SpOk (spAt l j) from ⟨hs1,hs2,hs3⟩)
      unfold DayOk at hs1 hs2
      have hs3b:decide ((spAt l j).to < (spAt l j).fr)=false:=by simp;omega
      obtain ⟨hs11,hs12⟩:=hs1
      obtain ⟨hs21,hs22⟩:=hs2
      by_cases h0:0 < j
      ·have hb0:decide ((0:Int) < (j:Int))=true:=by simp;omega
       obtain ⟨b', off', e,_,_,_,h3⟩:=(H.out.ext hx (Nat.le_refl _)).at_ (i:=j - 1) (by omega)
       injection e with e
       injection e with e1 e2
       subst e1 e2
       have hp:=(Hok.out (j - 1) (by omega)).1.2.1
       unfold DayOk at hp
       obtain ⟨hp1,hp2⟩:=hp
       go_wp2_with fail
       (refine wp_region_onto prog_mixed (by kernel_rfl) ?_;(repeat (go_big_quiet_step ((go_at_call 231;first | with_reducible exact onto_callS (impl_isDay_b Hs1.out _) | with_reducible exact onto_callS (impl_isDay_b Hs2.out _)))));refine onto_end ?_;intro w1 hx1)
       go_wp2_with fail
       ·go_ret
        exact ⟨ret_bool (B_false (fun h=>by have:=((h.2 j hlt).2 h0);omega)).symm,exts⟩
       ·go_roundg (l.length - (j+1))
        case measure=>omega
        case rel=>exact ⟨j+1,by omega,by go_num,exts,setOk_step Hok.out ⟨Hs.out,fun _=>by omega⟩⟩
      ·have hb0:decide ((0:Int) < (j:Int))=false:=by simp;omega
       go_wp2_with fail
       (refine wp_region_onto prog_mixed (by kernel_rfl) ?_;(repeat (go_big_quiet_step ((go_at_call 231;first | with_reducible exact onto_callS (impl_isDay_b Hs1.out _) | with_reducible exact onto_callS (impl_isDay_b Hs2.out _)))));refine onto_end ?_;intro w1 hx1)
       go_wp2_with fail
       go_roundg (l.length - (j+1))
       case measure=>omega
       case rel=>exact ⟨j+1,by omega,by go_num,exts,setOk_step Hok.out ⟨Hs.out,fun h=>absurd h h0⟩⟩
     ·have hs3b:decide ((spAt l j).to < (spAt l j).fr)=true:=by simp;omega
      have hn3:=qh hs3
      clear hs1 hs2 hs3
      go_wp2_with fail
      (refine wp_region_onto prog_mixed (by kernel_rfl) ?_;(repeat (go_big_quiet_step ((go_at_call 231;first | with_reducible exact onto_callS (impl_isDay_b Hs1.out _) | with_reducible exact onto_callS (impl_isDay_b Hs2.out _)))));refine onto_end ?_;intro w1 hx1)
      go_wp2_with fail
      go_ret
      exact ⟨ret_bool (B_false (fun h=>by have h3:=(h.2 j hlt).1.2.2;have:=hn3.out;omega)).symm,exts⟩
    ·have Hs2:=qh (B_false hs2)
     have hn3:=qh hs2
     clear hs1 hs2
     go_wp2_with fail
     (refine wp_region_onto prog_mixed (by kernel_rfl) ?_;(repeat (go_big_quiet_step ((go_at_call 231;first | with_reducible exact onto_callS (impl_isDay_b Hs1.out _) | with_reducible exact onto_callS (impl_isDay_b Hs2.out _)))));refine onto_end ?_;intro w1 hx1)
     go_wp2_with fail
     go_ret
     exact ⟨ret_bool (B_false (fun h=>hn3.out (h.2 j hlt).1.2.1)).symm,exts⟩
   ·have Hs1:=qh (B_false hs1)
    have Hs2:=Hs1
    have hn3:=qh hs1
    clear hs1
    go_wp2_with fail
    (refine wp_region_onto prog_mixed (by kernel_rfl) ?_;(repeat (go_big_quiet_step ((go_at_call 231;first | with_reducible exact onto_callS (impl_isDay_b Hs1.out _) | with_reducible exact onto_callS (impl_isDay_b Hs2.out _)))));refine onto_end ?_;intro w1 hx1)
    go_wp2_with fail
    go_ret
    exact ⟨ret_bool (B_false (fun h=>hn3.out (h.2 j hlt).1.1)).symm,exts⟩
  ·obtain rfl:j=l.length:=by omega
   go_wp2_with fail
   go_ret
   refine ⟨ret_bool (B_eq ?_),exts⟩
   simp only [decide_eq_true_eq]
   exact ⟨fun h=>⟨by omega,Hok.out⟩,fun h=>by have:=h.1;omega⟩
set_option maxHeartbeats 1000000 in
theorem impl_isLink (a b c d:Int) (n:Nat) (w:World) (hn:n ≤ 9223372036854775807) :
  Calls Tryz.prog 147 #[.agg #[.int .i64 a,.int .i64 b,.int .i64 c,.int .i64 d],.int .i64 n] w (RetX (.bool (B (LkOk ⟨a,b,c,d⟩ n))) w):=by
 go_enter Tryz.func147,Tryz.ntmps147
 go_wp2_with (go_at_call 52;refine (impl_within _ _ _ _).mono ?_;rintro e w' ⟨rfl,rfl⟩)
 all_goals (go_ret;refine ⟨ret_bool (B_eq ?_),exts⟩;(try simp only [Bool.and_eq_true,Bool.or_eq_true,B_iff,B_not,Bool.not_eq_true,Bool.not_eq_false', Bool.not_eq_true', Bool.not_not,decide_eq_true_eq,decide_eq_false_iff_not,Bool.true_eq_false,Bool.false_eq_true,iff_true,iff_false,true_iff,false_iff,beq_iff_eq,bne_iff_ne,ne_eq] at *);(try unfold LkOk at *);(try dsimp only at *);omega)
set_option maxHeartbeats 1000000 in
theorem spec_l18Link (a b c d:Int) (n:Nat) (w:World) (hn:n ≤ 9223372036854775807) :
  Calls Tryz.prog 139 #[.agg #[.int .i64 a,.int .i64 b,.int .i64 c,.int .i64 d],.int .i64 n] w (RetX (.bool (B (LkOk ⟨a,b,c,d⟩ n))) w):=by
 go_enter Tryz.func139,Tryz.ntmps139
 go_wp2_with (go_at_call 42;refine (spec_l01In _ _ _ _).mono ?_;rintro e w' ⟨rfl,rfl⟩)
 all_goals (go_ret;refine ⟨ret_bool (B_eq ?_),exts⟩;(try simp only [Bool.and_eq_true,Bool.or_eq_true,B_iff,B_not,Bool.not_eq_true,Bool.not_eq_false', Bool.not_eq_true', Bool.not_not,decide_eq_true_eq,decide_eq_false_iff_not,Bool.true_eq_false,Bool.false_eq_true,iff_true,iff_false,true_iff,false_iff,beq_iff_eq,bne_iff_ne,ne_eq] at *);(try unfold LkOk at *);(try dsimp only at *);omega)
set_option maxHeartbeats 400000 in
theorem impl_areSets_1 (v:Value) (l:List Sp) (w:World) (h:Spans w 0 w.heap.size v l):Calls Tryz.prog 201 #[v] w (RetX (.bool (B (¬ SetOk l))) w):=by
 have H:=qh h
 clear h
 go_enter Tryz.func201,Tryz.ntmps201
 go_wp2_with (go_at_call 202;refine (impl_IsSet v l w H.out).mono ?_;rintro e w1 ⟨rfl,hx1⟩)
 (go_ret;exact ⟨ret_bool (B_eq (by simp [B_not])),exts⟩)
def SetsOk (l:List (List Sp)):Prop:=∀ i,i < l.length → SetOk (setAt l i)
theorem sets_iff {l:List (List Sp)}:¬ Some_ l.length (fun i=>¬ SetOk (setAt l i)) ↔ SetsOk l:=by
 unfold Some_ SetsOk
 constructor
 ·intro h i hi
  exact Classical.byContradiction fun hn=>h ⟨i,hi,hn⟩
 ·rintro h ⟨i,hi,hn⟩
  exact hn (h i hi)
set_option maxHeartbeats 400000 in
theorem impl_areSets (v:Value) (l:List (List Sp)) (w:World) (h:Sets w 0 w.heap.size v l):Calls Tryz.prog 144 #[v] w (RetX (.bool (B (SetsOk l))) w):=by
 have H:=qh (containsFunc_sets v l 201 #[] (fun i=>¬ SetOk (setAt l i)) w h Tryz.call201 (fun i w' u hu _ hx=>impl_areSets_1 u (setAt l i) w' (hu.mono (Nat.le_refl _) hx.size)))
 clear h
 go_enter Tryz.func144,Tryz.ntmps144
 go_wp2_with (go_at_call 200;refine H.out.mono ?_;rintro e w1 ⟨rfl,hx1⟩)
 (go_ret;refine ⟨ret_bool (B_eq ?_),exts⟩;(try simp only [Bool.and_eq_true,Bool.or_eq_true,B_iff,B_not,Bool.not_eq_true,Bool.not_eq_false', Bool.not_eq_true', Bool.not_not,decide_eq_true_eq,decide_eq_false_iff_not,Bool.true_eq_false,Bool.false_eq_true,iff_true,iff_false,true_iff,false_iff,beq_iff_eq,bne_iff_ne,ne_eq] at *);(try dsimp only at *);exact sets_iff)
theorem netOk_step {P:Nat → Prop} {j:Nat} (h:∀ i,i < j → P i) (h' : P j):∀ i,i < j+1 → P i:=by
 intro i hi
 by_cases e:i=j
 ·rw [e];exact h'
 ·exact h i (by omega)
def LinksOk (l:List Lk) (n:Nat):Prop:=∀ i,i < l.length → LkOk (lkAt l i) n
theorem links_iff {l:List Lk} {n:Nat}:¬ Some_ l.length (fun i=>¬ LkOk (lkAt l i) n) ↔ LinksOk l n:=by
 unfold Some_ LinksOk
 constructor
 ·intro h i hi
  exact Classical.byContradiction fun hn=>h ⟨i,hi,hn⟩
 ·rintro h ⟨i,hi,hn⟩
  exact hn (h i hi)
set_option maxHeartbeats 400000 in
theorem impl_IsNetwork_1 (a b c d:Int) (g:Nat) (A:Option Addr) (n cap:Nat) (w:World) (hn:n ≤ 9223372036854775807) (h:w.cell? ⟨g,0,none⟩=some (.slice A n cap)) (hg:g < w.heap.size) :
  Calls Tryz.prog 146 #[.agg #[.int .i64 a,.int .i64 b,.int .i64 c,.int .i64 d],.pointer (some ⟨g,0,none⟩)] w (RetX (.bool (B (¬ LkOk ⟨a,b,c,d⟩ n))) w):=by
 go_enter Tryz.func146,Tryz.ntmps146
 go_wp2_with (go_at_call 147;refine (impl_isLink _ _ _ _ _ _ hn).mono ?_;rintro e w1 ⟨rfl,hx1⟩)
 (go_ret;exact ⟨ret_bool (B_eq (by simp [B_not])),exts⟩)
set_option maxHeartbeats 1000000 in
theorem impl_IsNetwork (s k:Value) (n:Net) (w:World) (h:NetIn w s k n) :
  Calls Tryz.prog 84 #[.agg #[s,k]] w (RetX (.bool (B (NetOk n))) w):=by
 obtain ⟨hs,hk⟩:=h
 obtain ⟨A,c,rfl,hn,hc⟩:=hs.len
 obtain ⟨A', c', rfl,hn', hc'⟩:=hk.len
 have Hs:=qh hs
 have Hk:=qh hk
 clear hs hk
 by_cases h1:n.sets.length ≤ 8
 ·by_cases h2:n.links.length ≤ 20
  ·go_enter Tryz.func84,Tryz.ntmps84
   go_wp2_with fail
   refine (impl_areSets _ n.sets _ ((Hs.out.ext ((Ext.refl w).alloc _) (Nat.le_refl _)).mono (Nat.le_refl _) (by simp))).mono ?_
   rintro e w1 ⟨rfl,hx1⟩
   have hb:=((Boxed.new w [.slice A n.sets.length c,.slice A' n.links.length c'] 78).ext hx1)
   have hb0:=hb.at0
   have hb1:=hb.at1
   have hbg:=hb.1
   have hx:Ext w w1:=((Ext.refl w).alloc _).trans hx1
   have Hk1:=qh (Hk.out.ext hx (Nat.le_refl _))
   have Hb:=qh hb
   clear hb
   by_cases h3:SetsOk n.sets
   ·have H3:=qh h3
    have H3b:=qh (B_true h3)
    clear h3
    rw [H3b.out]
    go_wp2_with fail
    refine (containsFunc_links _ n.links 146 #[.pointer (some ⟨w.heap.size,0,none⟩)] (fun i=>¬ LkOk (lkAt n.links i) n.sets.length) w1 (Hk1.out.mono (Nat.le_refl _) hx.size) Tryz.call146
     (fun i w' _ hxx=>impl_IsNetwork_1 _ _ _ _ _ A n.sets.length c w' hn ((Hb.out.ext hxx).at0) (Hb.out.ext hxx).1)).mono ?_
    rintro e w2 ⟨rfl,hx2⟩
    go_wp2_with fail
    go_ret
    refine ⟨ret_bool (B_eq ?_),exts⟩
    rw [Bool.not_eq_true', B_not,links_iff]
    exact ⟨fun h=>⟨h1,h2,H3.out,h⟩,fun h=>h.2.2.2⟩
   ·have H3:=qh h3
    have H3b:=qh (B_false h3)
    clear h3
    rw [H3b.out]
    go_wp2_with fail
    go_ret
    exact ⟨ret_bool (B_false (fun h=>H3.out h.2.2.1)).symm,exts⟩
  ·go_enter Tryz.func84,Tryz.ntmps84
   go_wp2_with fail
   go_ret
   exact ⟨ret_bool (B_false (fun h=>by have:=h.2.1;omega)).symm,exts⟩
 ·go_enter Tryz.func84,Tryz.ntmps84
  go_wp2_with fail
  go_ret
  exact ⟨ret_bool (B_false (fun h=>by have:=h.1;omega)).symm,exts⟩
set_option maxHeartbeats 1000000 in
theorem spec_IsNetwork (s k:Value) (n:Net) (w:World) (h:NetIn w s k n) :
  Calls Tryz.prog 81 #[.agg #[s,k]] w (RetX (.bool (B (NetOk n))) w):=by
 obtain ⟨hs,hk⟩:=h
 obtain ⟨A,c,rfl,hn,hc⟩:=hs.len
 obtain ⟨A', c', rfl,hn', hc'⟩:=hk.len
 have Hs:=qh hs
 have Hk:=qh hk
 clear hs hk
 go_enter Tryz.func81,Tryz.ntmps81
 go_wp2_with fail
 go_loopg [3] n.sets.length (fun m i wr=>∃ j:Nat,j+m=n.sets.length∧i=.int .i64 j∧Ext w wr∧Boxed wr w.heap.size [.slice A n.sets.length c,.slice A' n.links.length c']∧∀ i,i < j → SetOk (setAt n.sets i))
 case atStart=>exact ⟨0,by omega,rfl,exts,Boxed.new w _ _,fun i hi=>absurd hi (by omega)⟩
 case round =>
  obtain ⟨j,hj,rfl,hx,hb,hok⟩:=hrel
  have hb0:=hb.at0
  have hb1:=hb.at1
  have hbg:=hb.1
  have Hb:=qh hb
  have Hok:=qh hok
  clear hok hb
  by_cases hlt:j < n.sets.length
  ·obtain ⟨b,off,u,rfl,_,hbb,hu,hus⟩:=(Hs.out.ext hx (Nat.le_refl _)).at_ hlt
   have Hus:=qh (hus.mono (Nat.le_refl 0) hx.size)
   clear hus
   by_cases h1:SetOk (setAt n.sets j)
   ·have H1:=qh h1
    have H1b:=qh (B_true h1)
    clear h1
    go_wp2_with fail
    refine (spec_IsSet u _ wr Hus.out).mono ?_
    rintro e w1 ⟨rfl,hx1⟩
    rw [H1b.out]
    go_wp2_with fail
    go_roundg (n.sets.length - (j+1))
    case measure=>omega
    case rel=>exact ⟨j+1,by omega,by go_num,exts,Hb.out.ext hx1,netOk_step Hok.out H1.out⟩
   ·have H1:=qh h1
    have H1b:=qh (B_false h1)
    clear h1
    go_wp2_with fail
    refine (spec_IsSet u _ wr Hus.out).mono ?_
    rintro e w1 ⟨rfl,hx1⟩
    rw [H1b.out]
    go_wp2_with fail
    go_ret
    exact ⟨ret_bool (B_false (fun h=>H1.out (h.2.2.1 j hlt))).symm,exts⟩
  ·obtain rfl:j=n.sets.length:=by omega
   go_wp2_with fail
   go_loopg [4] n.links.length (fun m i wr=>∃ j:Nat,j+m=n.links.length∧i=.int .i64 j∧Ext w wr∧Boxed wr w.heap.size [.slice A n.sets.length c,.slice A' n.links.length c']∧∀ i,i < j → LkOk (lkAt n.links i) n.sets.length)
   case atStart=>exact ⟨0,by omega,rfl,exts,Hb.out,fun i hi=>absurd hi (by omega)⟩
   case round =>
    obtain ⟨j,hj,rfl,hx2,hb,hlk⟩:=hrel
    have hb0:=hb.at0
    have hb1:=hb.at1
    have hbg:=hb.1
    have Hb:=qh hb
    have Hlk:=qh hlk
    clear hlk hb
    by_cases hlt:j < n.links.length
    ·obtain ⟨b,off,rfl,_,hbb,h1,h2,h3,h4⟩:=(Hk.out.ext hx2 (Nat.le_refl _)).at_ hlt
     have hbr:b < wr.heap.size:=Nat.lt_of_lt_of_le hbb hx2.size
     by_cases h1:LkOk (lkAt n.links j) n.sets.length
     ·have H1:=qh h1
      have H1b:=qh (B_true h1)
      clear h1
      go_wp2_with fail
      (refine wp_region_onto prog_mixed (by kernel_rfl) ?_;(repeat (go_big_quiet_step ((go_at_call 139;exact onto_callXb H1b.out (spec_l18Link _ _ _ _ _ _ hn)))));refine onto_end ?_;intro w1 hx1)
      go_wp2_with fail
      go_roundg (n.links.length - (j+1))
      case measure=>omega
      case rel=>exact ⟨j+1,by omega,by go_num,exts,Hb.out.ext hx1,netOk_step Hlk.out H1.out⟩
     ·have H1:=qh h1
      have H1b:=qh (B_false h1)
      clear h1
      go_wp2_with fail
      (refine wp_region_onto prog_mixed (by kernel_rfl) ?_;(repeat (go_big_quiet_step ((go_at_call 139;exact onto_callXb H1b.out (spec_l18Link _ _ _ _ _ _ hn)))));refine onto_end ?_;intro w1 hx1)
      go_wp2_with fail
      go_ret
      exact ⟨ret_bool (B_false (fun h=>H1.out (h.2.2.2 j hlt))).symm,exts⟩
    ·obtain rfl:j=n.links.length:=by omega
     go_wp2_with fail
     all_goals (go_ret;refine ⟨ret_bool (B_eq ?_),exts⟩)
     all_goals simp only [decide_eq_true_eq,Bool.false_eq_true,false_iff]
     ·exact ⟨fun h=>⟨by omega,by omega,Hok.out,Hlk.out⟩,fun h=>by have:=h.2.1;omega⟩
     ·intro h
      have:=h.1
      omega
def SzPost (left:Int) (p:Prop) (w:World) (e:Ending) (w' : World):Prop:=∃ r:Int,e=.returned (.int .i64 r)∧Ext w w' ∧ -1 ≤ r∧r ≤ left∧(0 ≤ r → p)
def NewRow (sz n:Nat) (f:Nat → Value) (w:World) (e:Ending) (w' : World):Prop:=∃ v g,e=.returned v∧Ext w w' ∧ (0 < n → w.heap.size ≤ g)∧Own w' g sz v n f
def Small (n:Net):Prop:=n.sets.length ≤ 1048576∧n.links.length ≤ 1048576∧∀ i,i < n.sets.length → (setAt n.sets i).length ≤ 1048576
set_option maxHeartbeats 400000 in
theorem laws_eqSpan (a b:Int) (w:World):Calls Tryz.prog 55 #[.agg #[.int .i64 a,.int .i64 b],.agg #[.int .i64 a,.int .i64 b]] w (RetX (.bool true) w):=by
 go_enter Tryz.func55,Tryz.ntmps55
 go_wp2_with fail
 go_ret
 exact ⟨rfl,exts⟩
set_option maxHeartbeats 400000 in
theorem laws_eqLink (a b c d:Int) (w:World):Calls Tryz.prog 148 #[.agg #[.int .i64 a,.int .i64 b,.int .i64 c,.int .i64 d],.agg #[.int .i64 a,.int .i64 b,.int .i64 c,.int .i64 d]] w (RetX (.bool true) w):=by
 go_enter Tryz.func148,Tryz.ntmps148
 go_wp2_with fail
 go_ret
 exact ⟨rfl,exts⟩
set_option maxHeartbeats 1000000 in
theorem laws_eqSpanS (v v' : Value) (l:List Sp) (w:World) (h:Spans w 0 w.heap.size v l) (h' : Spans w 0 w.heap.size v' l) :
  Calls Tryz.prog 14 #[v,v'] w (RetX (.bool true) w):=by
 obtain ⟨A,c,rfl,hn,hc⟩:=h.len
 obtain ⟨A', c', rfl,_,hc'⟩:=h'.len
 have H:=qh h
 have H' := qh h'
 clear h h'
 go_enter Tryz.func14,Tryz.ntmps14
 go_wp2_with fail
 go_loopg [5] l.length (fun k i wr=>∃ j:Nat,j+k=l.length∧i=.int .i64 j∧Ext w wr)
 case atStart=>exact ⟨0,by omega,rfl,exts⟩
 case round =>
  obtain ⟨j,hj,rfl,hx⟩:=hrel
  by_cases hlt:j < l.length
  ·obtain ⟨b,off,rfl,_,hb,h1,h2⟩:=(H.out.ext hx (Nat.le_refl _)).at_ hlt
   obtain ⟨b', off', rfl,_,hb', h1', h2'⟩:=(H'.out.ext hx (Nat.le_refl _)).at_ hlt
   have hbr:b < wr.heap.size:=Nat.lt_of_lt_of_le hb hx.size
   have hbr' : b' < wr.heap.size:=Nat.lt_of_lt_of_le hb' hx.size
   go_wp2_with fail
   (refine wp_region_onto prog_mixed (by kernel_rfl) ?_;(repeat (go_big_quiet_step ((go_at_call 55;exact onto_callX (laws_eqSpan _ _ _)))));refine onto_end ?_;intro w1 hx1)
   go_wp2_with fail
   go_roundg (l.length - (j+1))
   case measure=>omega
   case rel=>exact ⟨j+1,by omega,by go_num,exts⟩
  ·obtain rfl:j=l.length:=by omega
   go_wp2_with fail
   go_ret
   exact ⟨rfl,exts⟩
set_option maxHeartbeats 1000000 in
theorem laws_eqLinkS (v v' : Value) (l:List Lk) (w:World) (h:Links w 0 w.heap.size v l) (h' : Links w 0 w.heap.size v' l) :
  Calls Tryz.prog 86 #[v,v'] w (RetX (.bool true) w):=by
 obtain ⟨A,c,rfl,hn,hc⟩:=h.len
 obtain ⟨A', c', rfl,_,hc'⟩:=h'.len
 have H:=qh h
 have H' := qh h'
 clear h h'
 go_enter Tryz.func86,Tryz.ntmps86
 go_wp2_with fail
 go_loopg [5] l.length (fun k i wr=>∃ j:Nat,j+k=l.length∧i=.int .i64 j∧Ext w wr)
 case atStart=>exact ⟨0,by omega,rfl,exts⟩
 case round =>
  obtain ⟨j,hj,rfl,hx⟩:=hrel
  by_cases hlt:j < l.length
  ·obtain ⟨b,off,rfl,_,hb,h1,h2,h3,h4⟩:=(H.out.ext hx (Nat.le_refl _)).at_ hlt
   obtain ⟨b', off', rfl,_,hb', h1', h2', h3', h4'⟩:=(H'.out.ext hx (Nat.le_refl _)).at_ hlt
   have hbr:b < wr.heap.size:=Nat.lt_of_lt_of_le hb hx.size
   have hbr' : b' < wr.heap.size:=Nat.lt_of_lt_of_le hb' hx.size
   go_wp2_with fail
   (refine wp_region_onto prog_mixed (by kernel_rfl) ?_;(repeat (go_big_quiet_step ((go_at_call 148;exact onto_callX (laws_eqLink _ _ _ _ _)))));refine onto_end ?_;intro w1 hx1)
   go_wp2_with fail
   go_roundg (l.length - (j+1))
   case measure=>omega
   case rel=>exact ⟨j+1,by omega,by go_num,exts⟩
  ·obtain rfl:j=l.length:=by omega
   go_wp2_with fail
   go_ret
   exact ⟨rfl,exts⟩
set_option maxHeartbeats 1000000 in
theorem laws_eqSpanSS (v v' : Value) (l:List (List Sp)) (w:World) (h:Sets w 0 w.heap.size v l) (h' : Sets w 0 w.heap.size v' l) :
  Calls Tryz.prog 85 #[v,v'] w (RetX (.bool true) w):=by
 obtain ⟨A,c,rfl,hn,hc⟩:=h.len
 obtain ⟨A', c', rfl,_,hc'⟩:=h'.len
 have H:=qh h
 have H' := qh h'
 clear h h'
 go_enter Tryz.func85,Tryz.ntmps85
 go_wp2_with fail
 go_loopg [5] l.length (fun k i wr=>∃ j:Nat,j+k=l.length∧i=.int .i64 j∧Ext w wr)
 case atStart=>exact ⟨0,by omega,rfl,exts⟩
 case round =>
  obtain ⟨j,hj,rfl,hx⟩:=hrel
  by_cases hlt:j < l.length
  ·obtain ⟨b,off,u,rfl,_,hb,h1,hu⟩:=(H.out.ext hx (Nat.le_refl _)).at_ hlt
   obtain ⟨b', off', u', rfl,_,hb', h1', hu'⟩:=(H'.out.ext hx (Nat.le_refl _)).at_ hlt
   have hbr:b < wr.heap.size:=Nat.lt_of_lt_of_le hb hx.size
   have hbr' : b' < wr.heap.size:=Nat.lt_of_lt_of_le hb' hx.size
   have Hu:=qh (hu.mono (Nat.le_refl 0) hx.size)
   have Hu' := qh (hu'.mono (Nat.le_refl 0) hx.size)
   clear hu hu'
   go_wp2_with fail
   (refine wp_region_onto prog_mixed (by kernel_rfl) ?_;(repeat (go_big_quiet_step ((go_at_call 14;exact onto_callX (laws_eqSpanS _ _ (setAt l j) _ ((Hu.out.ext (onto_ext _ _) (Nat.le_refl _)).mono (Nat.le_refl _) (onto_ext _ _).size) ((Hu'.out.ext (onto_ext _ _) (Nat.le_refl _)).mono (Nat.le_refl _) (onto_ext _ _).size))))));refine onto_end ?_;intro w1 hx1)
   go_wp2_with fail
   go_roundg (l.length - (j+1))
   case measure=>omega
   case rel=>exact ⟨j+1,by omega,by go_num,exts⟩
  ·obtain rfl:j=l.length:=by omega
   go_wp2_with fail
   go_ret
   exact ⟨rfl,exts⟩
set_option maxHeartbeats 400000 in
theorem laws_eqNetwork (s k s' k' : Value) (n:Net) (w:World) (h:NetIn w s k n) (h' : NetIn w s' k' n) :
  Calls Tryz.prog 32 #[.agg #[s,k],.agg #[s', k']] w (RetX (.bool true) w):=by
 obtain ⟨hs,hk⟩:=h
 obtain ⟨hs', hk'⟩:=h'
 have Hs:=qh hs
 have Hk:=qh hk
 have Hs' := qh hs'
 have Hk' := qh hk'
 clear hs hk hs' hk'
 go_enter Tryz.func32,Tryz.ntmps32
 go_wp2_with fail
 refine (laws_eqSpanSS s s' n.sets _ ((Hs.out.ext (exts:Ext w _) (Nat.le_refl _)).mono (Nat.le_refl _) (by simp;omega)) ((Hs'.out.ext (exts:Ext w _) (Nat.le_refl _)).mono (Nat.le_refl _) (by simp;omega))).mono ?_
 rintro e w1 ⟨rfl,hx1⟩
 have hb1:=((Boxed.new w [s,k] 78).ext ((Ext.refl _).alloc _)).ext hx1
 have hb2:Boxed w1 (w.heap.size+1) [s', k']:=by
  have:=(Boxed.new (w.alloc _) [s', k'] 78).ext hx1
  rwa [World.size_alloc] at this
 have hx:Ext w w1:=exts
 have h11:=hb1.at1
 have h21:=hb2.at1
 have hz1:=hb1.1
 have hz2:=hb2.1
 clear hb1 hb2 hx1
 go_wp2_with fail
 refine (laws_eqLinkS k k' n.links _ ((Hk.out.ext hx (Nat.le_refl _)).mono (Nat.le_refl _) hx.size) ((Hk'.out.ext hx (Nat.le_refl _)).mono (Nat.le_refl _) hx.size)).mono ?_
 rintro e w2 ⟨rfl,hx2⟩
 go_wp2_with fail
 go_ret
 exact ⟨rfl,exts⟩
def numCell (k:Int) (i:Nat):Value:=.int .i64 (k+i)
def MarkPost (b sz:Nat) (v:Value) (n:Nat) (k:Int) (w:World) (e:Ending) (w' : World):Prop:=e=.returned (.int .i64 (k+n * sz))∧Off (fun x=>0 < n∧x=b) w w' ∧ Own w' b sz v n (numCell k)
set_option maxHeartbeats 1000000 in
theorem laws_markSpanS (v:Value) (b n:Nat) (f0:Nat → Value) (k:Int) (w:World) (h:Own w b 2 v n f0) (hn:n ≤ 1048576) (hk0:0 ≤ k) (hk:k ≤ 1125899906842624) :
  Calls Tryz.prog 19 #[v,.int .i64 k] w (MarkPost b 2 v n k w):=by
 obtain ⟨A,c,rfl⟩:=h.len
 have H:=qh h
 clear h
 go_enter Tryz.func19,Tryz.ntmps19
 go_wp2_with fail
 go_loopg [1,5] n (fun q t i wr=>∃ (j:Nat) (f:Nat → Value),j+q=n∧i=.int .i64 j∧t=.int .i64 (k+(j:Int) * 2)∧Off (fun x=>0 < n∧x=b) w wr∧Own wr b 2 (.slice A n c) n f∧∀ i,i < j * 2 → f i=numCell k i)
 case atStart=>exact ⟨0,f0,by omega,rfl,by simp,Off.refl _ _,H.out,fun i hi=>absurd hi (by omega)⟩
 case round =>
  obtain ⟨j,f,hj,rfl,rfl,hx,hown,hok⟩:=hrel
  have Hok:=qh hok
  clear hok
  by_cases hlt:j < n
  ·obtain ⟨off,rfl,hb,hc⟩:=hown.at_ (by omega)
   have Hown:=qh hown
   clear hown
   have c0:=hc (j * 2+0) (by omega)
   have c0a:wr.cell? ⟨b,off+j * 2,none⟩=some (f (j * 2+0)):=by have:=c0.1;simpa only [Nat.add_assoc,Nat.add_zero,Nat.mul_one] using this
   have c0b:wr.frozen? ⟨b,off+j * 2,none⟩=false:=by have:=c0.2;simpa only [Nat.add_assoc,Nat.add_zero,Nat.mul_one] using this
   have c1:=hc (j * 2+1) (by omega)
   have c1a:wr.cell? ⟨b,off+j * 2+1,none⟩=some (f (j * 2+1)):=by have:=c1.1;simpa only [Nat.add_assoc,Nat.add_zero,Nat.mul_one] using this
   have c1b:wr.frozen? ⟨b,off+j * 2+1,none⟩=false:=by have:=c1.2;simpa only [Nat.add_assoc,Nat.add_zero,Nat.mul_one] using this
   clear hc c0 c1
   go_wp2_with fail
   go_roundg (n - (j+1))
   case measure=>omega
   case rel =>
    refine ⟨j+1,_,by omega,by go_num,?_,?_,(by have:=(Own.set (Own.set Hown.out (j * 2) (.int .i64 (k+(j:Int) * 2)) (by omega)) (j * 2+1) (.int .i64 (k+(j:Int) * 2+1)) (by omega));simpa only [Nat.add_assoc] using this),fun i hi=>?_⟩
    ·congr 1;simp;omega
    ·repeat (first | exact hx | refine Off.setCell ?_ (.inl ⟨by omega,rfl⟩) _)
    by_cases e1:i=j * 2+1
    ·rw [if_pos e1];unfold numCell;congr 1;omega
    rw [if_neg e1]
    by_cases e0:i=j * 2
    ·rw [if_pos e0];unfold numCell;congr 1;omega
    rw [if_neg e0]
    exact Hok.out i (by omega)
  ·obtain rfl:j=n:=by omega
   have Hown:=qh hown
   clear hown
   go_wp2_with fail
   go_ret
   exact ⟨by first | rfl | simp,hx,Hown.out.congr Hok.out⟩
set_option maxHeartbeats 1000000 in
theorem laws_heldSpanS (v:Value) (lo hi n:Nat) (k:Int) (w:World) (h:Row w lo hi 2 v n (numCell k)) (hh:hi ≤ w.heap.size) (hn:n ≤ 1048576) (hk0:0 ≤ k) (hk:k ≤ 1125899906842624) :
  Calls Tryz.prog 20 #[v,.int .i64 k] w (RetX (.int .i64 (k+n * 2)) w):=by
 obtain ⟨_,A,c,rfl,hc0,hr⟩:=h
 have Hr:=qh hr
 clear hr
 go_enter Tryz.func20,Tryz.ntmps20
 go_wp2_with fail
 go_loopg [1,5] n (fun q t i wr=>∃ (j:Nat),j+q=n∧i=.int .i64 j∧t=.int .i64 (k+(j:Int) * 2)∧Ext w wr)
 case atStart=>exact ⟨0,by omega,rfl,by simp,exts⟩
 case round =>
  obtain ⟨j,hj,rfl,rfl,hx⟩:=hrel
  by_cases hlt:j < n
  ·obtain ⟨b,off,rfl,_,hb', hc⟩:=Hr.out (by omega)
   have hb:b < w.heap.size:=by omega
   have c0:wr.cell? ⟨b,off+j * 2,none⟩=some (.int .i64 (k+(j:Int) * 2)):=by have:=(hx.cell (p:=⟨b,off+(j * 2+0),none⟩) hb).trans (hc (j * 2+0) (by omega));(try simp only [Nat.add_zero,← Nat.add_assoc] at this);rw [this];unfold numCell;congr 2;(try simp);(try omega)
   have c1:wr.cell? ⟨b,off+j * 2+1,none⟩=some (.int .i64 (k+(j:Int) * 2+1)):=by have:=(hx.cell (p:=⟨b,off+(j * 2+1),none⟩) hb).trans (hc (j * 2+1) (by omega));(try simp only [Nat.add_zero,← Nat.add_assoc] at this);rw [this];unfold numCell;congr 2;(try simp);(try omega)
   clear hc
   go_wp2_with fail
   go_roundg (n - (j+1))
   case measure=>omega
   case rel=>exact ⟨j+1,by omega,by go_num,by congr 1;simp;omega,exts⟩
  ·obtain rfl:j=n:=by omega
   go_wp2_with fail
   go_ret
   exact ⟨rfl,exts⟩
set_option maxHeartbeats 1000000 in
theorem laws_markLinkS (v:Value) (b n:Nat) (f0:Nat → Value) (k:Int) (w:World) (h:Own w b 4 v n f0) (hn:n ≤ 1048576) (hk0:0 ≤ k) (hk:k ≤ 1125899906842624) :
  Calls Tryz.prog 88 #[v,.int .i64 k] w (MarkPost b 4 v n k w):=by
 obtain ⟨A,c,rfl⟩:=h.len
 have H:=qh h
 clear h
 go_enter Tryz.func88,Tryz.ntmps88
 go_wp2_with fail
 go_loopg [1,5] n (fun q t i wr=>∃ (j:Nat) (f:Nat → Value),j+q=n∧i=.int .i64 j∧t=.int .i64 (k+(j:Int) * 4)∧Off (fun x=>0 < n∧x=b) w wr∧Own wr b 4 (.slice A n c) n f∧∀ i,i < j * 4 → f i=numCell k i)
 case atStart=>exact ⟨0,f0,by omega,rfl,by simp,Off.refl _ _,H.out,fun i hi=>absurd hi (by omega)⟩
 case round =>
  obtain ⟨j,f,hj,rfl,rfl,hx,hown,hok⟩:=hrel
  have Hok:=qh hok
  clear hok
  by_cases hlt:j < n
  ·obtain ⟨off,rfl,hb,hc⟩:=hown.at_ (by omega)
   have Hown:=qh hown
   clear hown
   have c0:=hc (j * 4+0) (by omega)
   have c0a:wr.cell? ⟨b,off+j * 4,none⟩=some (f (j * 4+0)):=by have:=c0.1;simpa only [Nat.add_assoc,Nat.add_zero,Nat.mul_one] using this
   have c0b:wr.frozen? ⟨b,off+j * 4,none⟩=false:=by have:=c0.2;simpa only [Nat.add_assoc,Nat.add_zero,Nat.mul_one] using this
   have c1:=hc (j * 4+1) (by omega)
   have c1a:wr.cell? ⟨b,off+j * 4+1,none⟩=some (f (j * 4+1)):=by have:=c1.1;simpa only [Nat.add_assoc,Nat.add_zero,Nat.mul_one] using this
   have c1b:wr.frozen? ⟨b,off+j * 4+1,none⟩=false:=by have:=c1.2;simpa only [Nat.add_assoc,Nat.add_zero,Nat.mul_one] using this
   have c2:=hc (j * 4+2) (by omega)
   have c2a:wr.cell? ⟨b,off+j * 4+2,none⟩=some (f (j * 4+2)):=by have:=c2.1;simpa only [Nat.add_assoc,Nat.add_zero,Nat.mul_one] using this
   have c2b:wr.frozen? ⟨b,off+j * 4+2,none⟩=false:=by have:=c2.2;simpa only [Nat.add_assoc,Nat.add_zero,Nat.mul_one] using this
   have c3:=hc (j * 4+3) (by omega)
   have c3a:wr.cell? ⟨b,off+j * 4+3,none⟩=some (f (j * 4+3)):=by have:=c3.1;simpa only [Nat.add_assoc,Nat.add_zero,Nat.mul_one] using this
   have c3b:wr.frozen? ⟨b,off+j * 4+3,none⟩=false:=by have:=c3.2;simpa only [Nat.add_assoc,Nat.add_zero,Nat.mul_one] using this
   clear hc c0 c1 c2 c3
   go_wp2_with fail
   go_roundg (n - (j+1))
   case measure=>omega
   case rel =>
    refine ⟨j+1,_,by omega,by go_num,?_,?_,(by have:=(Own.set (Own.set (Own.set (Own.set Hown.out (j * 4) (.int .i64 (k+(j:Int) * 4)) (by omega)) (j * 4+1) (.int .i64 (k+(j:Int) * 4+1)) (by omega)) (j * 4+2) (.int .i64 (k+(j:Int) * 4+1+1)) (by omega)) (j * 4+3) (.int .i64 (k+(j:Int) * 4+1+1+1)) (by omega));simpa only [Nat.add_assoc] using this),fun i hi=>?_⟩
    ·congr 1;simp;omega
    ·repeat (first | exact hx | refine Off.setCell ?_ (.inl ⟨by omega,rfl⟩) _)
    by_cases e3:i=j * 4+3
    ·rw [if_pos e3];unfold numCell;congr 1;omega
    rw [if_neg e3]
    by_cases e2:i=j * 4+2
    ·rw [if_pos e2];unfold numCell;congr 1;omega
    rw [if_neg e2]
    by_cases e1:i=j * 4+1
    ·rw [if_pos e1];unfold numCell;congr 1;omega
    rw [if_neg e1]
    by_cases e0:i=j * 4
    ·rw [if_pos e0];unfold numCell;congr 1;omega
    rw [if_neg e0]
    exact Hok.out i (by omega)
  ·obtain rfl:j=n:=by omega
   have Hown:=qh hown
   clear hown
   go_wp2_with fail
   go_ret
   exact ⟨by first | rfl | simp,hx,Hown.out.congr Hok.out⟩
set_option maxHeartbeats 1000000 in
theorem laws_heldLinkS (v:Value) (lo hi n:Nat) (k:Int) (w:World) (h:Row w lo hi 4 v n (numCell k)) (hh:hi ≤ w.heap.size) (hn:n ≤ 1048576) (hk0:0 ≤ k) (hk:k ≤ 1125899906842624) :
  Calls Tryz.prog 90 #[v,.int .i64 k] w (RetX (.int .i64 (k+n * 4)) w):=by
 obtain ⟨_,A,c,rfl,hc0,hr⟩:=h
 have Hr:=qh hr
 clear hr
 go_enter Tryz.func90,Tryz.ntmps90
 go_wp2_with fail
 go_loopg [1,5] n (fun q t i wr=>∃ (j:Nat),j+q=n∧i=.int .i64 j∧t=.int .i64 (k+(j:Int) * 4)∧Ext w wr)
 case atStart=>exact ⟨0,by omega,rfl,by simp,exts⟩
 case round =>
  obtain ⟨j,hj,rfl,rfl,hx⟩:=hrel
  by_cases hlt:j < n
  ·obtain ⟨b,off,rfl,_,hb', hc⟩:=Hr.out (by omega)
   have hb:b < w.heap.size:=by omega
   have c0:wr.cell? ⟨b,off+j * 4,none⟩=some (.int .i64 (k+(j:Int) * 4)):=by have:=(hx.cell (p:=⟨b,off+(j * 4+0),none⟩) hb).trans (hc (j * 4+0) (by omega));(try simp only [Nat.add_zero,← Nat.add_assoc] at this);rw [this];unfold numCell;congr 2;(try simp);(try omega)
   have c1:wr.cell? ⟨b,off+j * 4+1,none⟩=some (.int .i64 (k+(j:Int) * 4+1)):=by have:=(hx.cell (p:=⟨b,off+(j * 4+1),none⟩) hb).trans (hc (j * 4+1) (by omega));(try simp only [Nat.add_zero,← Nat.add_assoc] at this);rw [this];unfold numCell;congr 2;(try simp);(try omega)
   have c2:wr.cell? ⟨b,off+j * 4+2,none⟩=some (.int .i64 (k+(j:Int) * 4+2)):=by have:=(hx.cell (p:=⟨b,off+(j * 4+2),none⟩) hb).trans (hc (j * 4+2) (by omega));(try simp only [Nat.add_zero,← Nat.add_assoc] at this);rw [this];unfold numCell;congr 2;(try simp);(try omega)
   have c3:wr.cell? ⟨b,off+j * 4+3,none⟩=some (.int .i64 (k+(j:Int) * 4+3)):=by have:=(hx.cell (p:=⟨b,off+(j * 4+3),none⟩) hb).trans (hc (j * 4+3) (by omega));(try simp only [Nat.add_zero,← Nat.add_assoc] at this);rw [this];unfold numCell;congr 2;(try simp);(try omega)
   clear hc
   go_wp2_with fail
   go_roundg (n - (j+1))
   case measure=>omega
   case rel=>exact ⟨j+1,by omega,by go_num,by congr 1;simp;omega,exts⟩
  ·obtain rfl:j=n:=by omega
   go_wp2_with fail
   go_ret
   exact ⟨rfl,exts⟩
def preLen (l:List (List Sp)):Nat → Nat
 | 0=>0
 | i+1=>preLen l i+(setAt l i).length * 2
theorem preLen_le (l:List (List Sp)) (h:∀ i,i < l.length → (setAt l i).length ≤ 1048576):∀ i,i ≤ l.length → preLen l i ≤ i * 2097152
 | 0,_=>Nat.zero_le _
 | i+1,hi=>by
  have h1:=preLen_le l h i (by omega)
  have h2:=h i (by omega)
  unfold preLen
  omega
def MarkedSets (w:World) (lo hi:Nat) (v:Value) (l:List (List Sp)) (k:Int):Prop :=
 ∃ f:Nat → Value,Row w lo hi 1 v l.length f∧∀ i,i < l.length → Row w lo hi 2 (f i) (setAt l i).length (numCell (k+preLen l i))
def MarkedNet (w:World) (lo hi:Nat) (v:Value) (n:Net) (k:Int):Prop :=
 ∃ s kk,v=.agg #[s,kk]∧MarkedSets w lo hi s n.sets k∧Row w lo hi 4 kk n.links.length (numCell (k+preLen n.sets n.sets.length))
def MarkP (lo hi:Nat) (m:Int) (M:World → Prop) (w:World) (e:Ending) (w' : World):Prop:=e=.returned (.int .i64 m)∧Off (fun x=>lo ≤ x∧x < hi) w w' ∧ M w'
def NetAt (w:World) (lo hi:Nat) (s k:Value) (n:Net):Prop:=Sets w lo hi s n.sets∧Links w lo hi k n.links
def netCells (n:Net):Nat:=preLen n.sets n.sets.length+n.links.length * 4
theorem netCells_le (n:Net) (h:Small n):netCells n ≤ 2199027449856:=by
 have h1:=preLen_le n.sets h.2.2 _ (Nat.le_refl _)
 have h2:=h.1
 have h3:=h.2.1
 unfold netCells
 omega
section
variable {w w' : World} {lo hi lo' hi' : Nat} {v:Value} {k:Int}
theorem NetAt.ext {s k:Value} {n:Net} (h:NetAt w lo hi s k n) (hx:Ext w w') (hh:hi ≤ w.heap.size):NetAt w' lo hi s k n:=⟨h.1.ext hx hh,h.2.ext hx hh⟩
theorem NetAt.off {S:Nat → Prop} {s k:Value} {n:Net} (h:NetAt w lo hi s k n) (hx:Off S w w') (hs:∀ k,lo ≤ k → k < hi → ¬ S k) (hh:hi ≤ w.heap.size):NetAt w' lo hi s k n:=⟨h.1.off hx hs hh,Row.off h.2 hx hs hh⟩
theorem NetAt.up {s k:Value} {n:Net} (h:NetAt w lo hi s k n) (hh:hi ≤ w.heap.size) (hx:Ext w w'):NetIn w' s k n:=NetIn.up ⟨h.1.mono (Nat.zero_le _) hh,h.2.mono (Nat.zero_le _) hh⟩ hx
theorem MarkedSets.ext {l:List (List Sp)} (h:MarkedSets w lo hi v l k) (hx:Ext w w') (hh:hi ≤ w.heap.size):MarkedSets w' lo hi v l k:=by
 obtain ⟨f,h1,h2⟩:=h
 exact ⟨f,h1.ext hx hh,fun i hi=>(h2 i hi).ext hx hh⟩
theorem MarkedSets.off {S:Nat → Prop} {l:List (List Sp)} (h:MarkedSets w lo hi v l k) (hx:Off S w w') (hs:∀ k,lo ≤ k → k < hi → ¬ S k) (hh:hi ≤ w.heap.size):MarkedSets w' lo hi v l k:=by
 obtain ⟨f,h1,h2⟩:=h
 exact ⟨f,h1.off hx hs hh,fun i hi=>(h2 i hi).off hx hs hh⟩
theorem MarkedSets.mono {l:List (List Sp)} (h:MarkedSets w lo hi v l k) (h1:lo' ≤ lo) (h2:hi ≤ hi'):MarkedSets w lo' hi' v l k:=by
 obtain ⟨f,h3,h4⟩:=h
 exact ⟨f,h3.mono h1 h2,fun i hi=>(h4 i hi).mono h1 h2⟩
theorem MarkedNet.ext {n:Net} (h:MarkedNet w lo hi v n k) (hx:Ext w w') (hh:hi ≤ w.heap.size):MarkedNet w' lo hi v n k:=by
 obtain ⟨s,kk,e,h1,h2⟩:=h
 exact ⟨s,kk,e,h1.ext hx hh,h2.ext hx hh⟩
theorem MarkedNet.off {S:Nat → Prop} {n:Net} (h:MarkedNet w lo hi v n k) (hx:Off S w w') (hs:∀ k,lo ≤ k → k < hi → ¬ S k) (hh:hi ≤ w.heap.size):MarkedNet w' lo hi v n k:=by
 obtain ⟨s,kk,e,h1,h2⟩:=h
 exact ⟨s,kk,e,h1.off hx hs hh,h2.off hx hs hh⟩
end
set_option maxHeartbeats 1000000 in
theorem laws_heldSpanSS (v:Value) (lo hi:Nat) (l:List (List Sp)) (k:Int) (w:World) (h:MarkedSets w lo hi v l k) (hh:hi ≤ w.heap.size) (hn:l.length ≤ 1048576) (hsi:∀ i,i < l.length → (setAt l i).length ≤ 1048576)
  (hk0:0 ≤ k) (hk:k ≤ 562949953421312) :
  Calls Tryz.prog 89 #[v,.int .i64 k] w (RetX (.int .i64 (k+preLen l l.length)) w):=by
 obtain ⟨f,⟨_,A,c,rfl,hc0,hr⟩,h2⟩:=h
 have Hr:=qh hr
 have H2:=qh h2
 have Hsi:=qh hsi
 have Hpl:=qh (preLen_le l hsi)
 clear hr h2 hsi
 go_enter Tryz.func89,Tryz.ntmps89
 go_wp2_with fail
 go_loopg [1,5] l.length (fun q t i wr=>∃ (j:Nat),j+q=l.length∧i=.int .i64 j∧t=.int .i64 (k+preLen l j)∧Ext w wr)
 case atStart=>exact ⟨0,by omega,rfl,by simp [preLen],exts⟩
 case round =>
  obtain ⟨j,hj,rfl,rfl,hx⟩:=hrel
  by_cases hlt:j < l.length
  ·obtain ⟨b,off,rfl,_,hb', hc⟩:=Hr.out (by omega)
   have hb:b < w.heap.size:=by omega
   have c0:wr.cell? ⟨b,off+j,none⟩=some (f j):=(hx.cell (p:=⟨b,off+j,none⟩) hb).trans (hc j (by omega))
   clear hc
   have hp1:=Hpl.out j (by omega)
   have hp2:=Hpl.out (j+1) (by omega)
   have hs:=Hsi.out j hlt
   have hsz:=hx.size
   have hnn:decide (k+(preLen l j:Int)+((setAt l j).length:Int) * 2 < 0)=false:=decide_eq_false (by omega)
   go_wp2_with fail
   refine Calls.mono (laws_heldSpanS _ lo hi _ _ _ ((H2.out j hlt).ext hx hh) (by omega) hs (by omega) (by omega)) ?_
   rintro e w1 ⟨rfl,hx1⟩
   go_wp2_with fail
   go_roundg (l.length - (j+1))
   case measure=>omega
   case rel=>exact ⟨j+1,by omega,by go_num,by congr 1;simp only [preLen];omega,exts⟩
  ·obtain rfl:j=l.length:=by omega
   go_wp2_with fail
   go_ret
   exact ⟨rfl,exts⟩
set_option maxHeartbeats 1000000 in
theorem laws_heldNetwork (s kk:Value) (lo hi:Nat) (n:Net) (k:Int) (w:World) (h:MarkedNet w lo hi (.agg #[s,kk]) n k) (hh:hi ≤ w.heap.size) (hsm:Small n) (hk0:0 ≤ k) (hk:k ≤ 562949953421312) :
  Calls Tryz.prog 34 #[.agg #[s,kk],.int .i64 k] w (RetX (.int .i64 (k+netCells n)) w):=by
 obtain ⟨s', kk', e,h3,h4⟩:=h
 injection e with e
 injection e with e
 injection e with e1 e2
 injection e2 with e2 _
 subst e1 e2
 have H3:=qh h3
 have H4:=qh h4
 clear h3 h4
 obtain ⟨hsm1,hsm2,hsm3⟩:=hsm
 have hpl:=preLen_le n.sets hsm3 _ (Nat.le_refl _)
 have Hsm3:=qh hsm3
 clear hsm3
 have hn1:decide (k+(preLen n.sets n.sets.length:Int) < 0)=false:=decide_eq_false (by omega)
 have hn2:decide (k+(preLen n.sets n.sets.length:Int)+(n.links.length:Int) * 4 < 0)=false:=decide_eq_false (by omega)
 go_enter Tryz.func34,Tryz.ntmps34
 go_wp2_with fail
 refine Calls.mono (laws_heldSpanSS _ lo hi n.sets _ _ (H3.out.ext exts hh) (Nat.le_trans hh (Ext.size exts)) hsm1 Hsm3.out (by omega) (by omega)) ?_
 rintro e w1 ⟨rfl,hx1⟩
 have ba:=(show Boxed w1 w.heap.size [s,kk] from (Boxed.new w [s,kk] 78).ext hx1);have ba0:=ba.at0;have ba1:=ba.at1;have bag:=ba.1;have Hba:=qh ba;clear ba
 have hE:Ext w w1:=exts
 go_wp2_with fail
 refine Calls.mono (laws_heldLinkS _ lo hi _ _ _ (H4.out.ext exts hh) (Nat.le_trans hh (Ext.size exts)) hsm2 (by omega) (by omega)) ?_
 rintro e w2 ⟨rfl,hx2⟩
 go_wp2_with fail
 go_ret
 exact ⟨ret_int (by unfold netCells;omega),exts⟩
end Go.Proofs.YtechbeegbhlppaaGreatDoor
