/- Texts merged (a claim holds at most sixty files): Jb, Jc. -/
import Derived.Test.YtechbeegbhlppaaGreatDoorS2A
import Derived.Test.YtechbeegbhlppaaGreatDoorS2Jd
import Derived.Test.YtechbeegbhlppaaGreatDoorTr
import Derived.Test.YtechbeegbhlppaaGreatDoorS2Sg
import Derived.Deep.RegionHeld3
namespace Go.Proofs.YtechbeegbhlppaaGreatDoor
set_option linter.unusedVariables false
set_option linter.unusedSimpArgs false
open Go.RowKit
attribute [local go_sem] cell_onto
set_option maxRecDepth 100000 in
set_option maxHeartbeats 2000000 in
theorem impl_isSmall (s:ByteArray) (k:Int) (w:World) (hk:k ≤ 9223372036854775807):Calls Tryz.prog 195 #[.string s,.int .i64 k] w (RetX (.bool (B (NameOk s k))) w):=by
 by_cases h1:(1:Int) ≤ (s.size:Int)
 case neg =>
  have h1d:decide ((1:Int) ≤ (s.size:Int))=false:=decide_eq_false h1
  go_enter Tryz.func195,Tryz.ntmps195
  go_wp2_with fail
  go_ret
  exact ⟨ret_bool (B_false (fun h=>by have:=h.1;omega)).symm,exts⟩
 have h1d:decide ((1:Int) ≤ (s.size:Int))=true:=decide_eq_true h1
 by_cases h2:(s.size:Int) ≤ k
 case neg =>
  have h2d:decide ((s.size:Int) ≤ k)=false:=decide_eq_false h2
  go_enter Tryz.func195,Tryz.ntmps195
  go_wp2_with fail
  go_ret
  exact ⟨ret_bool (B_false (fun h=>by have:=h.2.1;omega)).symm,exts⟩
 have h2d:decide ((s.size:Int) ≤ k)=true:=decide_eq_true h2
 have hs:s.size ≤ 9223372036854775807:=by omega
 have H:=qh (Any.strings_Trim_laid Tryz.trimL (by kernel_rfl) s ⟨#[97,98,99,100,101,102,103,104,105,106,107,108,109,110,111,112,113,114,115,116,117,118,119,120,121,122]⟩ w hs (by decide) (ascii_of_all (by decide)))
 go_enter Tryz.func195,Tryz.ntmps195
 go_wp2_with fail
 refine Calls.mono H.out ?_
 rintro e w1 ⟨rfl,hx⟩
 have hx1:Ext w w1:=hx
 have ht:=trim_name s
 have Ht:=qh (show (⟨(Lib.trimS s.data.toList abc).toArray⟩:ByteArray).toList.isEmpty=B (LowB s) from B_eq (by rw [← ht];cases (⟨(Lib.trimS s.data.toList abc).toArray⟩:ByteArray).toList <;> simp [toList_data]))
 clear ht hx
 have he:({ data:=(Lib.trimS s.data.toList (⟨#[97,98,99,100,101,102,103,104,105,106,107,108,109,110,111,112,113,114,115,116,117,118,119,120,121,122]⟩:ByteArray).data.toList).toArray }:ByteArray)=⟨(Lib.trimS s.data.toList abc).toArray⟩:=rfl
 rw [he]
 clear he
 generalize (⟨(Lib.trimS s.data.toList abc).toArray⟩:ByteArray)=t at *
 have Ht2:=Ht.out
 go_wp2_with fail
 go_ret
 refine ⟨ret_bool ?_,exts⟩
 (try rw [Ht.out])
 exact B_congr ⟨fun h=>⟨h1,h2,h⟩,fun h=>h.2.2⟩
set_option maxRecDepth 100000 in
set_option maxHeartbeats 2000000 in
theorem spec_l01Name (s:ByteArray) (k:Int) (w:World) (hs:s.size ≤ 9223372036854775807):Calls Tryz.prog 187 #[.string s,.int .i64 k] w (RetS (.bool (B (NameOk s k))) w):=by
 have hb:=get_byt s
 go_enter Tryz.func187,Tryz.ntmps187
 go_wp2_with fail
 go_loopg [5] s.size (fun q i wr=>∃ j:Nat,j+q=s.size∧i=.int .i64 j∧wr=w∧∀ i,i < j → 97 ≤ byt s i∧byt s i ≤ 122)
 case atStart=>exact ⟨0,by omega,rfl,rfl,fun i hi=>absurd hi (by omega)⟩
 case round =>
  obtain ⟨j,hj,rfl,rfl,hok⟩:=hrel
  have Hok:=qh hok
  clear hok
  by_cases hlt:j < s.size
  ·have hji:(j:Int) < (s.size:Int):=by omega
   have hj0:(0:Int) ≤ (j:Int):=by omega
   by_cases h1:97 ≤ byt s j
   ·by_cases h2:byt s j ≤ 122
    ·have d1:decide (byt s j < 97)=false:=decide_eq_false (by omega)
     have d2:decide (byt s j ≤ 122)=true:=decide_eq_true h2
     go_wp2_with fail
     go_roundg (s.size - (j+1))
     case measure=>omega
     case rel =>
      refine ⟨j+1,by omega,by go_num,rfl,fun i hi=>?_⟩
      by_cases e:i=j
      ·subst e;exact ⟨h1,h2⟩
      ·exact Hok.out i (by omega)
    ·have d1:decide (byt s j < 97)=false:=decide_eq_false (by omega)
     have d2:decide (byt s j ≤ 122)=false:=decide_eq_false h2
     go_wp2_with fail
     go_ret
     exact ⟨ret_bool (B_false (fun h=>by have:=(h.2.2 j hlt).2;omega)).symm,rfl⟩
   ·have d1:decide (byt s j < 97)=true:=decide_eq_true (by omega)
    go_wp2_with fail
    go_ret
    exact ⟨ret_bool (B_false (fun h=>by have:=(h.2.2 j hlt).1;omega)).symm,rfl⟩
  ·obtain rfl:j=s.size:=by omega
   have hji:¬ (s.size:Int) < (s.size:Int):=by omega
   clear hlt
   by_cases h1:(1:Int) ≤ (s.size:Int)
   ·by_cases h2:(s.size:Int) ≤ k
    ·go_wp2_with fail
     go_ret
     exact ⟨ret_bool (B_true ⟨h1,h2,Hok.out⟩).symm,rfl⟩
    ·have h2d:decide ((s.size:Int) ≤ k)=false:=decide_eq_false h2
     go_wp2_with fail
     go_ret
     exact ⟨ret_bool (B_false (fun h=>by have:=h.2.1;omega)).symm,rfl⟩
   ·have h1d:decide ((1:Int) ≤ (s.size:Int))=false:=decide_eq_false h1
    go_wp2_with fail
    go_ret
    exact ⟨ret_bool (B_false (fun h=>by have:=h.1;omega)).symm,rfl⟩
def NSm (l:List Nsp):Prop:=∀ i,i < l.length → (nspAt l i).nm.size ≤ 1048576
set_option maxHeartbeats 400000 in
theorem isNaN_string (x:ByteArray) (w:World):Calls Tryz.prog 314 #[.string x] w (RetS (.bool false) w):=by
 go_enter Tryz.func314,Tryz.ntmps314
 go_wp2_with fail
 go_ret
 exact ⟨by simp,rfl⟩
set_option maxHeartbeats 1000000 in
theorem cmp_CompareS (x y:ByteArray) (w:World):Calls Tryz.prog 275 #[.string x,.string y] w (RetS (.int .i64 (cmpS x y)) w):=by
 by_cases h1:sLt x y
 ·have T1:=sl_true h1
  have Hv:=qh (cmpS_lt h1)
  rw [Hv.out]
  clear h1
  go_enter Tryz.func275,Tryz.ntmps275
  go_wp2_with (go_at_call 314;refine Calls.mono (isNaN_string _ _) ?_;rintro e w1 ⟨rfl,rfl⟩)
  go_ret
  exact ⟨rfl,rfl⟩
 ·have T1:=sl_false h1
  by_cases h2:sLt y x
  ·have T2:=sl_true h2
   have T3:=str_ne (sLt_ne h2).symm
   have Hv:=qh (cmpS_gt h2)
   rw [Hv.out]
   clear h1 h2
   go_enter Tryz.func275,Tryz.ntmps275
   go_wp2_with (go_at_call 314;refine Calls.mono (isNaN_string _ _) ?_;rintro e w1 ⟨rfl,rfl⟩)
   go_ret
   exact ⟨rfl,rfl⟩
  ·obtain rfl:=sLt_tri h1 h2
   have T3:=str_same x
   have Hv:=qh (cmpS_eq x)
   rw [Hv.out]
   clear h1 h2
   go_enter Tryz.func275,Tryz.ntmps275
   go_wp2_with (go_at_call 314;refine Calls.mono (isNaN_string _ _) ?_;rintro e w1 ⟨rfl,rfl⟩)
   go_ret
   exact ⟨rfl,rfl⟩
set_option maxHeartbeats 1000000 in
theorem cmp_Or2 (x y:Int) (g:Nat) (w:World) (h:Boxed w g [.int .i64 x,.int .i64 y]):Calls Tryz.prog 274 #[.slice (some ⟨g,0,none⟩) 2 2] w (RetS (.int .i64 (if x=0 then y else x)) w):=by
 have h0:=h.at0
 have h1:=h.at1
 have hg:=h.1
 clear h
 by_cases e:x=0
 ·subst e
  rw [if_pos rfl]
  by_cases e2:y=0
  ·subst e2
   go_enter Tryz.func274,Tryz.ntmps274
   go_wp2_with fail
   go_loopg [5,8] 2 (fun q u5 i wr=>∃ j:Nat,j+q=2∧i=.int .i64 j∧wr=w)
   case atStart=>exact ⟨0,rfl,rfl,rfl⟩
   case round =>
    obtain ⟨j,hj,rfl,rfl⟩:=hrel
    match j,hj with
    | 0,_ =>
     go_wp2_with fail
     go_roundg 1
     case measure=>omega
     case rel=>exact ⟨1,by omega,rfl,rfl⟩
    | 1,_ =>
     go_wp2_with fail
     go_roundg 0
     case measure=>omega
     case rel=>exact ⟨2,by omega,rfl,rfl⟩
    | n+3,hj=>exact absurd hj (by omega)
    | 2,_ =>
     go_wp2_with fail
     go_ret
     exact ⟨rfl,rfl⟩
  ·have e3:(y != 0)=true:=by simpa using e2
   go_enter Tryz.func274,Tryz.ntmps274
   go_wp2_with fail
   go_loopg [5,8] 2 (fun q u5 i wr=>∃ j:Nat,j ≤ 1∧j+q=2∧i=.int .i64 j∧wr=w)
   case atStart=>exact ⟨0,by omega,rfl,rfl,rfl⟩
   case round =>
    obtain ⟨j,hj1,hj,rfl,rfl⟩:=hrel
    match j,hj1 with
    | 0,_ =>
     go_wp2_with fail
     go_roundg 1
     case measure=>omega
     case rel=>exact ⟨1,by omega,by omega,rfl,rfl⟩
    | 1,_ =>
     go_wp2_with fail
     go_ret
     exact ⟨rfl,rfl⟩
 ·have e3:(x != 0)=true:=by simpa using e
  rw [if_neg e]
  go_enter Tryz.func274,Tryz.ntmps274
  go_wp2_with fail
  go_loopg [5,8] 0 (fun q u5 i wr=>i=.int .i64 0∧wr=w)
  case atStart=>exact ⟨rfl,rfl⟩
  case round =>
   obtain ⟨rfl,rfl⟩:=hrel
   go_wp2_with fail
   go_ret
   exact ⟨rfl,rfl⟩
theorem ext_keep6 {w w' : World} {p q:Nat} {a b d e:Value} (hx:Ext w w') (hp:p < w.heap.size) (hq:q < w.heap.size) (h0:w.cell? ⟨p,0,none⟩=some a) (h1:w.cell? ⟨p,1,none⟩=some b) (h2:w.cell? ⟨q,0,none⟩=some d) (h3:w.cell? ⟨q,1,none⟩=some e) :
  Ext w w' ∧ w'.cell? ⟨p,0,none⟩=some a∧w'.cell? ⟨p,1,none⟩=some b∧w'.cell? ⟨q,0,none⟩=some d∧w'.cell? ⟨q,1,none⟩=some e :=
 ⟨hx,(hx.cell (p:=⟨p,0,none⟩) hp).trans h0,(hx.cell (p:=⟨p,1,none⟩) hp).trans h1,(hx.cell (p:=⟨q,0,none⟩) hq).trans h2,(hx.cell (p:=⟨q,1,none⟩) hq).trans h3⟩
set_option maxHeartbeats 2000000 in
theorem impl_compareMarks (a b:Nsp) (w:World):Calls Tryz.prog 234 #[.agg #[.string a.nm,.int .i64 a.fr,.int .i64 a.to],.agg #[.string b.nm,.int .i64 b.fr,.int .i64 b.to]] w (RetX (.int .i64 (cmpM a b)) w):=by
 have Hc:=qh (fun W=>cmp_Compare a.fr b.fr W)
 have ec:(if a.fr < b.fr then (-1:Int) else if b.fr < a.fr then 1 else 0)=cmpI a.fr b.fr:=rfl
 have em:cmpM a b=if cmpS a.nm b.nm=0 then cmpI a.fr b.fr else cmpS a.nm b.nm:=rfl
 rw [ec] at Hc
 rw [em]
 clear ec em
 have Hs:=qh (fun W=>cmp_CompareS a.nm b.nm W)
 generalize cmpI a.fr b.fr=y at *
 generalize cmpS a.nm b.nm=x at *
 have Ho:=qh (fun g W hb=>cmp_Or2 x y g W hb)
 generalize (if x=0 then y else x)=z at *
 go_enter Tryz.func234,Tryz.ntmps234
 go_wp2_with fail
 obtain ⟨w2,hw2⟩:∃ x:World,x=((w.alloc (.cells #[.string a.nm,.int .i64 a.fr,.int .i64 a.to] 165)).alloc (.cells #[.string b.nm,.int .i64 b.fr,.int .i64 b.to] 165)):=⟨_,rfl⟩
 have hx2:Ext w w2:=by rw [hw2];exact exts
 have hA:Boxed w2 w.heap.size [.string a.nm,.int .i64 a.fr,.int .i64 a.to]:=by rw [hw2];exact (Boxed.new w [.string a.nm,.int .i64 a.fr,.int .i64 a.to] 165).ext ((Ext.refl _).alloc _)
 have hB:Boxed w2 (w.heap.size+1) [.string b.nm,.int .i64 b.fr,.int .i64 b.to]:=by
  rw [hw2]
  have:=Boxed.new (w.alloc (.cells #[.string a.nm,.int .i64 a.fr,.int .i64 a.to] 165)) [.string b.nm,.int .i64 b.fr,.int .i64 b.to] 165
  rwa [World.size_alloc] at this
 have a0:=hA.at0
 have a1:=hA.at1
 have ag:=hA.1
 have b0:=hB.at0
 have b1:=hB.at1
 have bg:=hB.1
 rw [← hw2]
 clear hA hB hw2
 go_region_held3 (fun w' => Ext w2 w' ∧ w'.cell? ⟨w.heap.size,0,none⟩=some (.string a.nm)∧w'.cell? ⟨w.heap.size,1,none⟩=some (.int .i64 a.fr)∧w'.cell? ⟨w.heap.size+1,0,none⟩=some (.string b.nm)∧w'.cell? ⟨w.heap.size+1,1,none⟩=some (.int .i64 b.fr))
  (exact ext_keep6 (by repeat (first | assumption | exact (by assumption:Ext w2 _∧_).1 | exact Ext.refl _ | refine Ext.drew ?_ | refine Ext.alloc ?_ _)) ag bg a0 a1 b0 b1)
  (first
   | (go_at_call 275;refine Calls.mono (Hs.out _) ?_;rintro e w5 ⟨rfl,rfl⟩)
   | (go_at_call 222;refine Calls.mono (Hc.out _) ?_;rintro e w6 ⟨rfl,rfl⟩)
   | (go_at_call 274;refine Calls.mono (Ho.out _ _ (Boxed.new _ [.int .i64 x,.int .i64 y] 3)) ?_;rintro e w7 ⟨rfl,rfl⟩))
 all_goals
  have hE:=(by assumption:Ext w2 _∧_).1
  go_wp2_with fail
  go_ret
  exact ⟨rfl,hx2.trans (by repeat (first | exact hE | refine Ext.alloc ?_ _ | refine Ext.drew ?_ | assumption))⟩
end Go.Proofs.YtechbeegbhlppaaGreatDoor
