/- Texts merged (a claim holds at most sixty files): Ka, Qf, Jh, Jy. -/
import Derived.Test.YtechbeegbhlppaaGreatDoorS2A
import Derived.Test.YtechbeegbhlppaaGreatDoorS2Jd
import Derived.IntWalk
namespace Go.Proofs.YtechbeegbhlppaaGreatDoor
set_option linter.unusedVariables false
set_option linter.unusedSimpArgs false
open Go.RowKit
attribute [local go_sem] cell_onto
theorem fst_no {p:Nat → Prop} {n:Nat} (h:∀ i,i < n → ¬ p i):(-1:Int)=fstIx p n:=(fstIx_none n h).symm
theorem fst_yes {p:Nat → Prop} {n j:Nat} (hj:j < n) (hp:p j) (h:∀ i,i < j → ¬ p i):(j:Int)=fstIx p n:=(fstIx_at n j hj hp h).symm
set_option maxHeartbeats 2000000 in
theorem slices_Index_strs (v:Value) (l:List ByteArray) (x:ByteArray) (w:World) (h:Strs w 0 w.heap.size v l):Calls Tryz.prog 117 #[v,.string x] w (RetX (.int .i64 (fstIx (fun i=>strAt l i=x) l.length)) w):=by
 obtain ⟨A,c,rfl,hn,hc⟩:=h.len
 have H:=qh h
 clear h
 go_enter Tryz.func117,Tryz.ntmps117
 go_wp2_with fail
 go_loopg [5,8] l.length (fun k u i wr=>∃ j:Nat,j+k=l.length∧i=.int .i64 j∧Ext w wr∧∀ i,i < j → ¬ (strAt l i=x))
 case atStart=>exact ⟨0,by omega,rfl,exts,fun i hi=>absurd hi (by omega)⟩
 case round =>
  obtain ⟨j,hj,rfl,hx,hok⟩:=hrel
  have Hok:=qh hok
  clear hok
  have hj0:(0:Int) ≤ (j:Int):=by omega
  by_cases hlt:j < l.length
  ·have hji:(j:Int) < (l.length:Int):=by omega
   obtain ⟨b,off,rfl,_,hb,h1⟩:=(H.out.ext hx (Nat.le_refl _)).at_ hlt
   have hbr:b < wr.heap.size:=Nat.lt_of_lt_of_le hb hx.size
   by_cases e:strAt l j=x
   ·have E:=qh (fst_yes (p:=fun i=>strAt l i=x) hlt e Hok.out)
    have T1:=str_is e.symm
    clear e
    go_wp2_with fail
    go_ret
    exact ⟨by rw [← E.out];rfl,exts⟩
   ·have E:=qh e
    have T1:=str_ne (fun h=>e h.symm)
    clear e
    go_wp2_with fail
    go_roundg (l.length - (j+1))
    case measure=>omega
    case rel =>
     refine ⟨j+1,by omega,by go_num,exts,fun i hi=>?_⟩
     by_cases e:i=j
     ·rw [e];exact E.out
     ·exact Hok.out i (by omega)
  ·obtain rfl:j=l.length:=by omega
   have hji:¬ (l.length:Int) < (l.length:Int):=by omega
   have E:=qh (fst_no (p:=fun i=>strAt l i=x) Hok.out)
   go_wp2_with fail
   go_ret
   exact ⟨by rw [← E.out];rfl,exts⟩
set_option maxHeartbeats 2000000 in
theorem spec_l01Text (v:Value) (l:List ByteArray) (x:ByteArray) (w:World) (h:Strs w 0 w.heap.size v l):Calls Tryz.prog 103 #[v,.string x] w (RetX (.int .i64 (fstIx (fun i=>strAt l i=x) l.length)) w):=by
 obtain ⟨A,c,rfl,hn,hc⟩:=h.len
 have H:=qh h
 clear h
 go_enter Tryz.func103,Tryz.ntmps103
 go_wp2_with fail
 go_loopg [5] l.length (fun k i wr=>∃ j:Nat,j+k=l.length∧i=.int .i64 j∧Ext w wr∧∀ i,i < j → ¬ (strAt l i=x))
 case atStart=>exact ⟨0,by omega,rfl,exts,fun i hi=>absurd hi (by omega)⟩
 case round =>
  obtain ⟨j,hj,rfl,hx,hok⟩:=hrel
  have Hok:=qh hok
  clear hok
  have hj0:(0:Int) ≤ (j:Int):=by omega
  by_cases hlt:j < l.length
  ·have hji:(j:Int) < (l.length:Int):=by omega
   obtain ⟨b,off,rfl,_,hb,h1⟩:=(H.out.ext hx (Nat.le_refl _)).at_ hlt
   have hbr:b < wr.heap.size:=Nat.lt_of_lt_of_le hb hx.size
   by_cases e:strAt l j=x
   ·have E:=qh (fst_yes (p:=fun i=>strAt l i=x) hlt e Hok.out)
    have T1:=str_is e
    clear e
    go_wp2_with fail
    go_ret
    exact ⟨by rw [← E.out];rfl,exts⟩
   ·have E:=qh e
    have T1:=str_ne e
    clear e
    go_wp2_with fail
    go_roundg (l.length - (j+1))
    case measure=>omega
    case rel =>
     refine ⟨j+1,by omega,by go_num,exts,fun i hi=>?_⟩
     by_cases e:i=j
     ·rw [e];exact E.out
     ·exact Hok.out i (by omega)
  ·obtain rfl:j=l.length:=by omega
   have hji:¬ (l.length:Int) < (l.length:Int):=by omega
   have E:=qh (fst_no (p:=fun i=>strAt l i=x) Hok.out)
   go_wp2_with fail
   go_ret
   exact ⟨by rw [← E.out];rfl,exts⟩
set_option maxHeartbeats 1000000 in
theorem slices_Contains_strs (v:Value) (l:List ByteArray) (x:ByteArray) (w:World) (h:Strs w 0 w.heap.size v l):Calls Tryz.prog 199 #[v,.string x] w (RetX (.bool (B (0 ≤ fstIx (fun i=>strAt l i=x) l.length))) w):=by
 have H:=qh (slices_Index_strs v l x w h)
 clear h
 go_enter Tryz.func199,Tryz.ntmps199
 go_wp2_with fail
 refine H.out.mono ?_
 rintro e w1 ⟨rfl,hx⟩
 clear H
 obtain ⟨r,hr⟩:∃ r,fstIx (fun i=>strAt l i=x) l.length=r:=⟨_,rfl⟩
 have Hr:=qh hr
 rw [hr]
 clear hr
 go_wp2_with fail
 go_ret
 exact ⟨ret_bool (B_eq (by rw [Hr.out];simp)),exts⟩
set_option maxHeartbeats 1000000 in
theorem indexFunc_persons (v:Value) (l:List Nsp) (g:Nat) (caps:Array Value) (p:Nat → Prop) (w:World) (h:Nsps w 0 w.heap.size v l)
  (hg:∀ (args:Array Value) (w:World),(callFunc g args).run Tryz.prog w=.ok (.enter g args) w)
  (hf:∀ (i:Nat) (w' : World),i < l.length → Ext w w' → Calls Tryz.prog g (#[.agg #[.string (nspAt l i).nm,.int .i64 (nspAt l i).fr,.int .i64 (nspAt l i).to]] ++ caps) w' (RetX (.bool (B (p i))) w')) :
  Calls Tryz.prog 217 #[v,.func (.func g) #[] caps] w (RetX (.int .i64 (fstIx p l.length)) w):=by
 obtain ⟨A,c,rfl,hn,hc⟩:=h.len
 have H:=qh h
 have Hf:=qh hf
 clear h hf
 go_enter Tryz.func217,Tryz.ntmps217
 go_wp2_with fail
 go_loopg [5,8] l.length (fun k u i wr=>∃ j:Nat,j+k=l.length∧i=.int .i64 j∧Ext w wr∧∀ i,i < j → ¬ p i)
 case atStart=>exact ⟨0,by omega,rfl,Ext.refl _,fun i hi=>absurd hi (by omega)⟩
 case round =>
  obtain ⟨j,hj,rfl,hx,hok⟩:=hrel
  have Hok:=qh hok
  clear hok
  have hj0:(0:Int) ≤ (j:Int):=by omega
  by_cases hlt:j < l.length
  ·have hji:(j:Int) < (l.length:Int):=by omega
   obtain ⟨b,off,rfl,_,hb,h1,h2,h3⟩:=(H.out.ext hx (Nat.le_refl _)).at_ hlt
   obtain ⟨q,eq⟩:∃ q,B (p j)=q:=⟨_,rfl⟩
   have Hq:=qh eq
   clear eq
   go_wp2_with fail
   refine (Hf.out j wr hlt hx).mono ?_
   rintro e w1 ⟨rfl,hx1⟩
   rw [Hq.out]
   cases q with
   | true =>
    have E:=qh (fst_yes hlt (B_iff.1 Hq.out) Hok.out)
    go_wp2_with fail
    go_ret
    exact ⟨by rw [← E.out];rfl,exts⟩
   | false =>
    go_wp2_with fail
    go_roundg (l.length - (j+1))
    case measure=>omega
    case rel =>
     refine ⟨j+1,by omega,by go_num,exts,fun i hi=>?_⟩
     by_cases e:i=j
     ·rw [e];exact B_not.1 Hq.out
     ·exact Hok.out i (by omega)
  ·obtain rfl:j=l.length:=by omega
   have hji:¬ (l.length:Int) < (l.length:Int):=by omega
   have E:=qh (fst_no Hok.out)
   go_wp2_with fail
   go_ret
   exact ⟨by rw [← E.out];rfl,exts⟩
set_option maxHeartbeats 1000000 in
theorem impl_personIndex_f (x:Nsp) (name:ByteArray) (g:Nat) (w:World) (hg:g < w.heap.size) (hc:w.cell? ⟨g,0,none⟩=some (.string name)) :
  Calls Tryz.prog 218 #[.agg #[.string x.nm,.int .i64 x.fr,.int .i64 x.to],.pointer (some ⟨g,0,none⟩)] w (RetX (.bool (B (x.nm=name))) w):=by
 have hg1:g < w.heap.size+1:=by omega
 by_cases e:x.nm=name
 ·have T:=str_is e
  have E:=qh e
  clear e
  go_enter Tryz.func218,Tryz.ntmps218
  go_wp2_with fail
  go_ret
  exact ⟨ret_bool (B_true E.out).symm,exts⟩
 ·have T:=str_ne e
  have E:=qh e
  clear e
  go_enter Tryz.func218,Tryz.ntmps218
  go_wp2_with fail
  go_ret
  exact ⟨ret_bool (B_false E.out).symm,exts⟩
set_option maxHeartbeats 1000000 in
theorem impl_personIndex (v u:Value) (l:List Nsp) (name:ByteArray) (w:World) (h:Nsps w 0 w.heap.size v l):Calls Tryz.prog 171 #[.agg #[v,u],.string name] w (RetX (.int .i64 (psIx l name)) w):=by
 have H:=qh h
 clear h
 go_enter Tryz.func171,Tryz.ntmps171
 go_wp2_with fail
 refine Calls.mono (indexFunc_persons v l 218 _ (fun i=>(nspAt l i).nm=name) _ (H.out.up exts) Tryz.call218 (fun i w' hi hx=>?_)) ?_
 ·have hb:=(Boxed.new (w.alloc (.cells #[v,u] 49)) [.string name] 9).ext hx
  have h0:=hb.at0
  simp only [World.size_alloc] at h0
  have hg:=hb.1
  simp only [World.size_alloc] at hg
  exact impl_personIndex_f (nspAt l i) name _ w' hg h0
 rintro e w1 ⟨rfl,hx1⟩
 have E:=qh (show fstIx (fun i=>(nspAt l i).nm=name) l.length=psIx l name from rfl)
 rw [E.out]
 go_wp2_with fail
 go_ret
 exact ⟨rfl,exts⟩
set_option maxHeartbeats 2000000 in
theorem spec_l13Person (v u:Value) (l:List Nsp) (x:ByteArray) (w:World) (h:Nsps w 0 w.heap.size v l):Calls Tryz.prog 206 #[.agg #[v,u],.string x] w (RetX (.int .i64 (psIx l x)) w):=by
 obtain ⟨A,c,rfl,hn,hc⟩:=h.len
 have H:=qh h
 have Hb:=qh (Boxed.new w [.slice A l.length c,u] 49)
 clear h
 go_enter Tryz.func206,Tryz.ntmps206
 go_wp2_with fail
 go_loopg [5] l.length (fun k i wr=>∃ j:Nat,j+k=l.length∧i=.int .i64 j∧Ext (w.alloc (.cells #[.slice A l.length c,u] 49)) wr∧∀ i,i < j → ¬ ((nspAt l i).nm=x))
 case atStart=>exact ⟨0,by omega,rfl,exts,fun i hi=>absurd hi (by omega)⟩
 case round =>
  obtain ⟨j,hj,rfl,hx0,hok⟩:=hrel
  have Hok:=qh hok
  clear hok
  have hx:Ext w wr:=exts
  have bx:=Hb.out.ext hx0;have bx0:=bx.at0;have bx1:=bx.at1;have bxg:=bx.1;have Hbx:=qh bx;clear bx
  have hj0:(0:Int) ≤ (j:Int):=by omega
  by_cases hlt:j < l.length
  ·have hji:(j:Int) < (l.length:Int):=by omega
   obtain ⟨b,off,rfl,_,hb,h1,h2,h3⟩:=(H.out.ext hx (Nat.le_refl _)).at_ hlt
   have hbr:b < wr.heap.size:=Nat.lt_of_lt_of_le hb hx.size
   by_cases e:(nspAt l j).nm=x
   ·have E:=qh (show (j:Int)=psIx l x from fst_yes (p:=fun i=>(nspAt l i).nm=x) hlt e Hok.out)
    have T1:=str_is e
    clear e
    go_wp2_with fail
    go_ret
    exact ⟨by rw [← E.out];rfl,exts⟩
   ·have E:=qh e
    have T1:=str_ne e
    clear e
    go_wp2_with fail
    go_roundg (l.length - (j+1))
    case measure=>omega
    case rel =>
     refine ⟨j+1,by omega,by go_num,exts,fun i hi=>?_⟩
     by_cases e:i=j
     ·rw [e];exact E.out
     ·exact Hok.out i (by omega)
  ·obtain rfl:j=l.length:=by omega
   have hji:¬ (l.length:Int) < (l.length:Int):=by omega
   have E:=qh (show (-1:Int)=psIx l x from fst_no (p:=fun i=>(nspAt l i).nm=x) Hok.out)
   go_wp2_with fail
   go_ret
   exact ⟨by rw [← E.out];rfl,exts⟩
set_option maxHeartbeats 1000000 in
theorem indexFunc_clauses (v:Value) (l:List Cls) (g:Nat) (caps:Array Value) (p:Nat → Prop) (w:World) (h:Clss w 0 w.heap.size v l)
  (hg:∀ (args:Array Value) (w:World),(callFunc g args).run Tryz.prog w=.ok (.enter g args) w)
  (hf:∀ (i:Nat) (w' : World),i < l.length → Ext w w' → Calls Tryz.prog g (#[.agg #[.int .i64 (clsAt l i).ki,.int .i64 (clsAt l i).nu,.int .i64 (clsAt l i).mo,.int .i64 (clsAt l i).fe,.int .i64 (clsAt l i).re,.int .i64 (clsAt l i).wd,.int .i64 (clsAt l i).st,.string (clsAt l i).kg]] ++ caps) w' (RetX (.bool (B (p i))) w')) :
  Calls Tryz.prog 207 #[v,.func (.func g) #[] caps] w (RetX (.int .i64 (fstIx p l.length)) w):=by
 obtain ⟨A,c,rfl,hn,hc⟩:=h.len
 have H:=qh h
 have Hf:=qh hf
 clear h hf
 go_enter Tryz.func207,Tryz.ntmps207
 go_wp2_with fail
 go_loopg [5,8] l.length (fun k u i wr=>∃ j:Nat,j+k=l.length∧i=.int .i64 j∧Ext w wr∧∀ i,i < j → ¬ p i)
 case atStart=>exact ⟨0,by omega,rfl,Ext.refl _,fun i hi=>absurd hi (by omega)⟩
 case round =>
  obtain ⟨j,hj,rfl,hx,hok⟩:=hrel
  have Hok:=qh hok
  clear hok
  have hj0:(0:Int) ≤ (j:Int):=by omega
  by_cases hlt:j < l.length
  ·have hji:(j:Int) < (l.length:Int):=by omega
   obtain ⟨b,off,rfl,_,hb,h1,h2,h3,h4,h5,h6,h7,h8⟩:=(H.out.ext hx (Nat.le_refl _)).at_ hlt
   obtain ⟨q,eq⟩:∃ q,B (p j)=q:=⟨_,rfl⟩
   have Hq:=qh eq
   clear eq
   go_wp2_with fail
   refine (Hf.out j wr hlt hx).mono ?_
   rintro e w1 ⟨rfl,hx1⟩
   rw [Hq.out]
   cases q with
   | true =>
    have E:=qh (fst_yes hlt (B_iff.1 Hq.out) Hok.out)
    go_wp2_with fail
    go_ret
    exact ⟨by rw [← E.out];rfl,exts⟩
   | false =>
    go_wp2_with fail
    go_roundg (l.length - (j+1))
    case measure=>omega
    case rel =>
     refine ⟨j+1,by omega,by go_num,exts,fun i hi=>?_⟩
     by_cases e:i=j
     ·rw [e];exact B_not.1 Hq.out
     ·exact Hok.out i (by omega)
  ·obtain rfl:j=l.length:=by omega
   have hji:¬ (l.length:Int) < (l.length:Int):=by omega
   have E:=qh (fst_no Hok.out)
   go_wp2_with fail
   go_ret
   exact ⟨by rw [← E.out];rfl,exts⟩
set_option maxHeartbeats 1000000 in
theorem containsFunc_clauses (v:Value) (l:List Cls) (g:Nat) (caps:Array Value) (p:Nat → Prop) (w:World) (h:Clss w 0 w.heap.size v l)
  (hg:∀ (args:Array Value) (w:World),(callFunc g args).run Tryz.prog w=.ok (.enter g args) w)
  (hf:∀ (i:Nat) (w' : World),i < l.length → Ext w w' → Calls Tryz.prog g (#[.agg #[.int .i64 (clsAt l i).ki,.int .i64 (clsAt l i).nu,.int .i64 (clsAt l i).mo,.int .i64 (clsAt l i).fe,.int .i64 (clsAt l i).re,.int .i64 (clsAt l i).wd,.int .i64 (clsAt l i).st,.string (clsAt l i).kg]] ++ caps) w' (RetX (.bool (B (p i))) w')) :
  Calls Tryz.prog 168 #[v,.func (.func g) #[] caps] w (RetX (.bool (B (0 ≤ fstIx p l.length))) w):=by
 have H:=qh (indexFunc_clauses v l g caps p w h hg hf)
 clear h hf hg
 go_enter Tryz.func168,Tryz.ntmps168
 go_wp2_with fail
 refine H.out.mono ?_
 rintro e w1 ⟨rfl,hx⟩
 clear H
 obtain ⟨r,hr⟩:∃ r,fstIx p l.length=r:=⟨_,rfl⟩
 have Hr:=qh hr
 rw [hr]
 clear hr
 go_wp2_with fail
 go_ret
 exact ⟨ret_bool (B_eq (by rw [Hr.out];simp)),exts⟩
set_option maxHeartbeats 1000000 in
theorem indexFunc_witnesses (v:Value) (l:List Wit) (g:Nat) (caps:Array Value) (p:Nat → Prop) (w:World) (h:Wits w 0 w.heap.size v l)
  (hg:∀ (args:Array Value) (w:World),(callFunc g args).run Tryz.prog w=.ok (.enter g args) w)
  (hf:∀ (i:Nat) (w' : World),i < l.length → Ext w w' → Calls Tryz.prog g (#[.agg #[.string (witAt l i).pe,.string (witAt l i).of]] ++ caps) w' (RetX (.bool (B (p i))) w')) :
  Calls Tryz.prog 238 #[v,.func (.func g) #[] caps] w (RetX (.int .i64 (fstIx p l.length)) w):=by
 obtain ⟨A,c,rfl,hn,hc⟩:=h.len
 have H:=qh h
 have Hf:=qh hf
 clear h hf
 go_enter Tryz.func238,Tryz.ntmps238
 go_wp2_with fail
 go_loopg [5,8] l.length (fun k u i wr=>∃ j:Nat,j+k=l.length∧i=.int .i64 j∧Ext w wr∧∀ i,i < j → ¬ p i)
 case atStart=>exact ⟨0,by omega,rfl,Ext.refl _,fun i hi=>absurd hi (by omega)⟩
 case round =>
  obtain ⟨j,hj,rfl,hx,hok⟩:=hrel
  have Hok:=qh hok
  clear hok
  have hj0:(0:Int) ≤ (j:Int):=by omega
  by_cases hlt:j < l.length
  ·have hji:(j:Int) < (l.length:Int):=by omega
   obtain ⟨b,off,rfl,_,hb,h1,h2⟩:=(H.out.ext hx (Nat.le_refl _)).at_ hlt
   obtain ⟨q,eq⟩:∃ q,B (p j)=q:=⟨_,rfl⟩
   have Hq:=qh eq
   clear eq
   go_wp2_with fail
   refine (Hf.out j wr hlt hx).mono ?_
   rintro e w1 ⟨rfl,hx1⟩
   rw [Hq.out]
   cases q with
   | true =>
    have E:=qh (fst_yes hlt (B_iff.1 Hq.out) Hok.out)
    go_wp2_with fail
    go_ret
    exact ⟨by rw [← E.out];rfl,exts⟩
   | false =>
    go_wp2_with fail
    go_roundg (l.length - (j+1))
    case measure=>omega
    case rel =>
     refine ⟨j+1,by omega,by go_num,exts,fun i hi=>?_⟩
     by_cases e:i=j
     ·rw [e];exact B_not.1 Hq.out
     ·exact Hok.out i (by omega)
  ·obtain rfl:j=l.length:=by omega
   have hji:¬ (l.length:Int) < (l.length:Int):=by omega
   have E:=qh (fst_no Hok.out)
   go_wp2_with fail
   go_ret
   exact ⟨by rw [← E.out];rfl,exts⟩
set_option maxHeartbeats 1000000 in
theorem containsFunc_witnesses (v:Value) (l:List Wit) (g:Nat) (caps:Array Value) (p:Nat → Prop) (w:World) (h:Wits w 0 w.heap.size v l)
  (hg:∀ (args:Array Value) (w:World),(callFunc g args).run Tryz.prog w=.ok (.enter g args) w)
  (hf:∀ (i:Nat) (w' : World),i < l.length → Ext w w' → Calls Tryz.prog g (#[.agg #[.string (witAt l i).pe,.string (witAt l i).of]] ++ caps) w' (RetX (.bool (B (p i))) w')) :
  Calls Tryz.prog 197 #[v,.func (.func g) #[] caps] w (RetX (.bool (B (0 ≤ fstIx p l.length))) w):=by
 have H:=qh (indexFunc_witnesses v l g caps p w h hg hf)
 clear h hf hg
 go_enter Tryz.func197,Tryz.ntmps197
 go_wp2_with fail
 refine H.out.mono ?_
 rintro e w1 ⟨rfl,hx⟩
 clear H
 obtain ⟨r,hr⟩:∃ r,fstIx p l.length=r:=⟨_,rfl⟩
 have Hr:=qh hr
 rw [hr]
 clear hr
 go_wp2_with fail
 go_ret
 exact ⟨ret_bool (B_eq (by rw [Hr.out];simp)),exts⟩
set_option maxHeartbeats 1000000 in
theorem indexFunc_deeds (v:Value) (l:List Ded) (g:Nat) (caps:Array Value) (p:Nat → Prop) (w:World) (h:Deds w 0 w.heap.size v l)
  (hg:∀ (args:Array Value) (w:World),(callFunc g args).run Tryz.prog w=.ok (.enter g args) w)
  (hf:∀ (i:Nat) (w' : World),i < l.length → Ext w w' → ∀ vd vw vc,Clss w' 0 w'.heap.size vd (dedAt l i).dt → Wits w' 0 w'.heap.size vw (dedAt l i).wi → Strs w' 0 w'.heap.size vc (dedAt l i).ci → Calls Tryz.prog g (#[.agg #[.string (dedAt l i).nm,vd,vw,.string (dedAt l i).pl,.string (dedAt l i).se,.string (dedAt l i).ha,vc]] ++ caps) w' (RetX (.bool (B (p i))) w')) :
  Calls Tryz.prog 142 #[v,.func (.func g) #[] caps] w (RetX (.int .i64 (fstIx p l.length)) w):=by
 obtain ⟨A,c,rfl,hn,hc⟩:=h.len
 have H:=qh h
 have Hf:=qh hf
 clear h hf
 go_enter Tryz.func142,Tryz.ntmps142
 go_wp2_with fail
 go_loopg [5,8] l.length (fun k u i wr=>∃ j:Nat,j+k=l.length∧i=.int .i64 j∧Ext w wr∧∀ i,i < j → ¬ p i)
 case atStart=>exact ⟨0,by omega,rfl,Ext.refl _,fun i hi=>absurd hi (by omega)⟩
 case round =>
  obtain ⟨j,hj,rfl,hx,hok⟩:=hrel
  have Hok:=qh hok
  clear hok
  have hj0:(0:Int) ≤ (j:Int):=by omega
  by_cases hlt:j < l.length
  ·have hji:(j:Int) < (l.length:Int):=by omega
   obtain ⟨b,off,vd,vw,vc,rfl,_,hb,h1,h2,h3,h4,h5,h6,h7,kd,kw,kc⟩:=(H.out.up hx).at_ hlt
   obtain ⟨q,eq⟩:∃ q,B (p j)=q:=⟨_,rfl⟩
   have Hq:=qh eq
   clear eq
   go_wp2_with fail
   refine (Hf.out j wr hlt hx vd vw vc kd kw kc).mono ?_
   rintro e w1 ⟨rfl,hx1⟩
   rw [Hq.out]
   cases q with
   | true =>
    have E:=qh (fst_yes hlt (B_iff.1 Hq.out) Hok.out)
    go_wp2_with fail
    go_ret
    exact ⟨by rw [← E.out];rfl,exts⟩
   | false =>
    go_wp2_with fail
    go_roundg (l.length - (j+1))
    case measure=>omega
    case rel =>
     refine ⟨j+1,by omega,by go_num,exts,fun i hi=>?_⟩
     by_cases e:i=j
     ·rw [e];exact B_not.1 Hq.out
     ·exact Hok.out i (by omega)
  ·obtain rfl:j=l.length:=by omega
   have hji:¬ (l.length:Int) < (l.length:Int):=by omega
   have E:=qh (fst_no Hok.out)
   go_wp2_with fail
   go_ret
   exact ⟨by rw [← E.out];rfl,exts⟩
theorem some_iff {p:Nat → Prop} {n:Nat}:¬ 0 ≤ fstIx (fun i=>¬ p i) n ↔ ∀ i,i < n → p i:=by
 rcases fstIx_cases (fun i=>¬ p i) n with ⟨h1,h2⟩ | ⟨j,h1,h2,h3,_⟩
 ·rw [h1]
  exact ⟨fun _ i hi=>Classical.byContradiction fun hh=>h2 i hi hh,fun _=>by omega⟩
 ·rw [h2]
  exact ⟨fun h=>absurd (show (0:Int) ≤ (j:Int) by omega) h,fun h=>absurd (h j h1) h3⟩
set_option maxHeartbeats 1000000 in
theorem laws_toMark (nm:ByteArray) (fr:Int) (to:Int) (w:World):Calls Tryz.prog 111 #[.agg #[.string nm,.int .i64 fr,.int .i64 to]] w (RetX (.agg #[.string nm,.int .i64 fr,.int .i64 to]) w):=by
 go_enter Tryz.func111,Tryz.ntmps111
 go_wp2_with fail
 refine bodyPost_ret (v:=.agg #[.string nm,.int .i64 fr,.int .i64 to]) (by simp [results,Tryz.results111,go_sem]) rfl ⟨rfl,exts⟩
set_option maxHeartbeats 1000000 in
theorem laws_eqMark (nm:ByteArray) (fr:Int) (to:Int) (w:World):Calls Tryz.prog 127 #[.agg #[.string nm,.int .i64 fr,.int .i64 to],.agg #[.string nm,.int .i64 fr,.int .i64 to]] w (RetX (.bool true) w):=by
 have hs_nm:=str_same nm
 go_enter Tryz.func127,Tryz.ntmps127
 go_wp2_with fail
 go_ret
 exact ⟨rfl,exts⟩
set_option maxHeartbeats 1000000 in
theorem laws_szMark (nm:ByteArray) (fr:Int) (to:Int) (left:Int) (w:World) (hl:left ≤ 1048576) (h0:0 ≤ left) (hnm:nm.size ≤ 9223372036854775807):Calls Tryz.prog 96 #[.agg #[.string nm,.int .i64 fr,.int .i64 to],.int .i64 left] w (SzPost left ((nm.size:Int) ≤ left) w):=by
 have W0:IntKind.i64.wrap (left - (nm.size:Int))=left - (nm.size:Int):=IntWalk.i64_in _ (by omega)
 by_cases c0:left - (nm.size:Int) < 0
 case pos =>
  have d0:decide (left - (nm.size:Int) < 0)=true:=decide_eq_true c0
  go_enter Tryz.func96,Tryz.ntmps96
  go_wp2_with fail
  go_ret
  exact ⟨-1,rfl,exts,by omega,by omega,fun h=>absurd h (by omega)⟩
 have d0:decide (left - (nm.size:Int) < 0)=false:=decide_eq_false c0
 go_enter Tryz.func96,Tryz.ntmps96
 go_wp2_with fail
 go_ret
 exact ⟨left - (nm.size:Int),rfl,exts,by omega,by omega,fun _=>by omega⟩
set_option maxRecDepth 100000 in
set_option maxHeartbeats 2000000 in
theorem laws_szMarkS (v:Value) (l:List Nsp) (left:Int) (w:World) (hl:left ≤ 1048576) (h0:0 ≤ left) (h:Nsps w 0 w.heap.size v l) (hz:∀ i,i < l.length → (nspAt l i).nm.size ≤ 9223372036854775807):Calls Tryz.prog 39 #[v,.int .i64 left] w (SzPost left ((l.length:Int) ≤ left∧∀ i,i < l.length → ((nspAt l i).nm.size:Int) ≤ left) w):=by
 obtain ⟨A,c,rfl,hn,hc⟩:=h.len
 have H:=qh h
 have Hz:=qh hz
 clear h hz
 have W0:IntKind.i64.wrap (left - (l.length:Int))=left - (l.length:Int):=IntWalk.i64_in _ (by omega)
 go_enter Tryz.func39,Tryz.ntmps39
 by_cases c0:left - (l.length:Int) < 0
 case pos =>
  have d0:decide (left - (l.length:Int) < 0)=true:=decide_eq_true c0
  go_wp2_with fail
  go_ret
  exact ⟨-1,rfl,exts,by omega,by omega,fun h=>absurd h (by omega)⟩
 have d0:decide (left - (l.length:Int) < 0)=false:=decide_eq_false c0
 go_wp2_with fail
 go_loopg [1,5] l.length (fun q t i wr=>∃ (j:Nat) (r:Int),j+q=l.length∧i=.int .i64 j∧t=.int .i64 r∧0 ≤ r∧r ≤ left - (l.length:Int)∧Ext w wr∧∀ i,i < j → ((nspAt l i).nm.size:Int) ≤ left)
 case atStart=>exact ⟨0,_,by omega,rfl,rfl,by omega,by omega,exts,fun i hi=>absurd hi (by omega)⟩
 case round =>
  obtain ⟨j,r,hj,rfl,rfl,hr0,hr1,hx,hok⟩:=hrel
  have Hok:=qh hok
  clear hok
  by_cases hlt:j < l.length
  ·obtain ⟨b,off,rfl,_,hb,h1,h2,h3⟩:=(H.out.ext hx (Nat.le_refl _)).at_ hlt
   have hbr:b < wr.heap.size:=Nat.lt_of_lt_of_le hb hx.size
   have hsz:=Hz.out j hlt
   go_wp2_with fail
   refine Calls.mono (laws_szMark _ _ _ r _ (by omega) hr0 hsz) ?_
   rintro e w1 ⟨r2,rfl,hx1,hra,hrb,hrc⟩
   have Hrc:=qh hrc
   clear hrc
   by_cases cj:r2 < 0
   ·have dj:decide (r2 < 0)=true:=decide_eq_true cj
    go_wp2_with fail
    go_ret
    exact ⟨-1,rfl,exts,by omega,by omega,fun h=>absurd h (by omega)⟩
   ·have dj:decide (r2 < 0)=false:=decide_eq_false cj
    go_wp2_with fail
    go_roundg (l.length - (j+1))
    case measure=>omega
    case rel =>
     refine ⟨j+1,r2,by omega,by go_num,rfl,by omega,by omega,exts,fun i hi=>?_⟩
     by_cases e:i=j
     ·subst e
      have:=Hrc.out (by omega)
      omega
     ·exact Hok.out i (by omega)
  ·obtain rfl:j=l.length:=by omega
   go_wp2_with fail
   go_ret
   exact ⟨r,rfl,exts,by omega,by omega,fun _=>⟨by omega,Hok.out⟩⟩
set_option maxRecDepth 100000 in
set_option maxHeartbeats 2000000 in
theorem laws_toMarkS (v:Value) (l:List Nsp) (lo hi:Nat) (w:World) (h:Nsps w lo hi v l) (hh:hi ≤ w.heap.size) (hsm:l.length ≤ 1048576) :
  Calls Tryz.prog 49 #[v] w (NewRow 3 l.length (nspCell l) w):=by
 obtain ⟨A,c,rfl,hn,hc⟩:=h.len
 have H:=qh h
 clear h
 go_enter Tryz.func49,Tryz.ntmps49
 go_wp2_with (at_make;refine wpList_make_blk _ rfl _ _ 54 rfl 165 3 32 Tryz.underlying54 (by kernel_rfl) l.length rfl rfl (by omega) (by unfold maxLen;omega) ?_;intro w0 f0 hx0 hb0)
 have Hb0:=qh hb0
 clear hb0
 go_wp2_with fail
 go_loopg [4] l.length (fun m i wr=>∃ (j:Nat) (f:Nat → Value),j+m=l.length∧i=.int .i64 j∧Ext w wr∧Blk wr w.heap.size (l.length * 3) f∧∀ i,i < j * 3 → f i=nspCell l i)
 case atStart=>exact ⟨0,f0,by omega,rfl,exts,Hb0.out,fun i hi=>absurd hi (by omega)⟩
 case round =>
  obtain ⟨j,f,hj,rfl,hx,hbl,hok⟩:=hrel
  have Hok:=qh hok
  clear hok
  have hbgr:=hbl.1
  by_cases hlt:j < l.length
  ·obtain ⟨b,off,rfl,_,hb,h1,h2,h3⟩:=(H.out.ext hx hh).at_ hlt
   have hbw:b < wr.heap.size:=by have:=hx.size;omega
   go_wp2_with fail
   refine (laws_toMark _ _ _ wr).mono ?_
   rintro e w1 ⟨rfl,hx1⟩
   have hc0:=(hbl.ext hx1).2 (j * 3) (by omega)
   have hc0a:=hc0.1
   have hc0b:=hc0.2
   have hc1:=(hbl.ext hx1).2 (j * 3+1) (by omega)
   have hc1a:=hc1.1
   have hc1b:=hc1.2
   have hc2:=(hbl.ext hx1).2 (j * 3+2) (by omega)
   have hc2a:=hc2.1
   have hc2b:=hc2.2
   have Hbl:=qh (hbl.ext hx1)
   clear hbl
   have hbg:=Hbl.out.1
   go_wp2_with fail
   go_roundg (l.length - (j+1))
   case measure=>omega
   case rel =>
    refine ⟨j+1,_,by omega,by go_num,exts,(((Hbl.out.set (j * 3) (.string (nspAt l j).nm) (by omega)).set (j * 3+1) (.int .i64 (nspAt l j).fr) (by omega)).set (j * 3+2) (.int .i64 (nspAt l j).to) (by omega)),fun i hi=>?_⟩
    by_cases e2:i=j * 3+2
    ·subst e2;simp only [if_true];exact (nspCell_2 l j).symm
    rw [if_neg e2]
    by_cases e1:i=j * 3+1
    ·subst e1;simp only [if_true];exact (nspCell_1 l j).symm
    rw [if_neg e1]
    by_cases e0:i=j * 3
    ·subst e0;simp only [if_true];exact (nspCell_0 l j).symm
    rw [if_neg e0]
    exact Hok.out i (by omega)
  ·obtain rfl:j=l.length:=by omega
   have Hbl:=qh hbl
   clear hbl
   go_wp2_with fail
   go_ret
   exact ⟨_,w.heap.size,rfl,exts,fun _=>Nat.le_refl _,Hbl.out.own (Nat.le_refl _) (by unfold maxLen;omega) (Nat.le_refl _) Hok.out⟩
set_option maxHeartbeats 2000000 in
theorem laws_eqMarkS (v v' : Value) (l:List Nsp) (w:World) (h:Nsps w 0 w.heap.size v l) (h' : Nsps w 0 w.heap.size v' l) :
  Calls Tryz.prog 60 #[v,v'] w (RetX (.bool true) w):=by
 obtain ⟨A,c,rfl,hn,hc⟩:=h.len
 obtain ⟨A', c', rfl,_,hc'⟩:=h'.len
 have H:=qh h
 have H' := qh h'
 clear h h'
 go_enter Tryz.func60,Tryz.ntmps60
 go_wp2_with fail
 go_loopg [5] l.length (fun k i wr=>∃ j:Nat,j+k=l.length∧i=.int .i64 j∧Ext w wr)
 case atStart=>exact ⟨0,by omega,rfl,exts⟩
 case round =>
  obtain ⟨j,hj,rfl,hx⟩:=hrel
  by_cases hlt:j < l.length
  ·obtain ⟨b,off,rfl,_,hb,h1,h2,h3⟩:=(H.out.ext hx (Nat.le_refl _)).at_ hlt
   obtain ⟨b', off', rfl,_,hb', h1', h2', h3'⟩:=(H'.out.ext hx (Nat.le_refl _)).at_ hlt
   have hbr:b < wr.heap.size:=Nat.lt_of_lt_of_le hb hx.size
   have hbr' : b' < wr.heap.size:=Nat.lt_of_lt_of_le hb' hx.size
   go_wp2_with fail
   (refine wp_region_onto prog_mixed (by kernel_rfl) ?_;(repeat (go_big_quiet_step ((go_at_call 127;exact onto_callX (laws_eqMark _ _ _ _)))));refine onto_end ?_;intro w1 hx1)
   go_wp2_with fail
   go_roundg (l.length - (j+1))
   case measure=>omega
   case rel=>exact ⟨j+1,by omega,by go_num,exts⟩
  ·obtain rfl:j=l.length:=by omega
   go_wp2_with fail
   go_ret
   exact ⟨rfl,exts⟩
set_option maxHeartbeats 1000000 in
theorem laws_toReign (nm:ByteArray) (fr:Int) (to:Int) (w:World):Calls Tryz.prog 160 #[.agg #[.string nm,.int .i64 fr,.int .i64 to]] w (RetX (.agg #[.string nm,.int .i64 fr,.int .i64 to]) w):=by
 go_enter Tryz.func160,Tryz.ntmps160
 go_wp2_with fail
 refine bodyPost_ret (v:=.agg #[.string nm,.int .i64 fr,.int .i64 to]) (by simp [results,Tryz.results160,go_sem]) rfl ⟨rfl,exts⟩
set_option maxHeartbeats 1000000 in
theorem laws_eqReign (nm:ByteArray) (fr:Int) (to:Int) (w:World):Calls Tryz.prog 176 #[.agg #[.string nm,.int .i64 fr,.int .i64 to],.agg #[.string nm,.int .i64 fr,.int .i64 to]] w (RetX (.bool true) w):=by
 have hs_nm:=str_same nm
 go_enter Tryz.func176,Tryz.ntmps176
 go_wp2_with fail
 go_ret
 exact ⟨rfl,exts⟩
set_option maxHeartbeats 1000000 in
theorem laws_szReign (nm:ByteArray) (fr:Int) (to:Int) (left:Int) (w:World) (hl:left ≤ 1048576) (h0:0 ≤ left) (hnm:nm.size ≤ 9223372036854775807):Calls Tryz.prog 149 #[.agg #[.string nm,.int .i64 fr,.int .i64 to],.int .i64 left] w (SzPost left ((nm.size:Int) ≤ left) w):=by
 have W0:IntKind.i64.wrap (left - (nm.size:Int))=left - (nm.size:Int):=IntWalk.i64_in _ (by omega)
 by_cases c0:left - (nm.size:Int) < 0
 case pos =>
  have d0:decide (left - (nm.size:Int) < 0)=true:=decide_eq_true c0
  go_enter Tryz.func149,Tryz.ntmps149
  go_wp2_with fail
  go_ret
  exact ⟨-1,rfl,exts,by omega,by omega,fun h=>absurd h (by omega)⟩
 have d0:decide (left - (nm.size:Int) < 0)=false:=decide_eq_false c0
 go_enter Tryz.func149,Tryz.ntmps149
 go_wp2_with fail
 go_ret
 exact ⟨left - (nm.size:Int),rfl,exts,by omega,by omega,fun _=>by omega⟩
set_option maxRecDepth 100000 in
set_option maxHeartbeats 2000000 in
theorem laws_szReignS (v:Value) (l:List Nsp) (left:Int) (w:World) (hl:left ≤ 1048576) (h0:0 ≤ left) (h:Nsps w 0 w.heap.size v l) (hz:∀ i,i < l.length → (nspAt l i).nm.size ≤ 9223372036854775807):Calls Tryz.prog 91 #[v,.int .i64 left] w (SzPost left ((l.length:Int) ≤ left∧∀ i,i < l.length → ((nspAt l i).nm.size:Int) ≤ left) w):=by
 obtain ⟨A,c,rfl,hn,hc⟩:=h.len
 have H:=qh h
 have Hz:=qh hz
 clear h hz
 have W0:IntKind.i64.wrap (left - (l.length:Int))=left - (l.length:Int):=IntWalk.i64_in _ (by omega)
 go_enter Tryz.func91,Tryz.ntmps91
 by_cases c0:left - (l.length:Int) < 0
 case pos =>
  have d0:decide (left - (l.length:Int) < 0)=true:=decide_eq_true c0
  go_wp2_with fail
  go_ret
  exact ⟨-1,rfl,exts,by omega,by omega,fun h=>absurd h (by omega)⟩
 have d0:decide (left - (l.length:Int) < 0)=false:=decide_eq_false c0
 go_wp2_with fail
 go_loopg [1,5] l.length (fun q t i wr=>∃ (j:Nat) (r:Int),j+q=l.length∧i=.int .i64 j∧t=.int .i64 r∧0 ≤ r∧r ≤ left - (l.length:Int)∧Ext w wr∧∀ i,i < j → ((nspAt l i).nm.size:Int) ≤ left)
 case atStart=>exact ⟨0,_,by omega,rfl,rfl,by omega,by omega,exts,fun i hi=>absurd hi (by omega)⟩
 case round =>
  obtain ⟨j,r,hj,rfl,rfl,hr0,hr1,hx,hok⟩:=hrel
  have Hok:=qh hok
  clear hok
  by_cases hlt:j < l.length
  ·obtain ⟨b,off,rfl,_,hb,h1,h2,h3⟩:=(H.out.ext hx (Nat.le_refl _)).at_ hlt
   have hbr:b < wr.heap.size:=Nat.lt_of_lt_of_le hb hx.size
   have hsz:=Hz.out j hlt
   go_wp2_with fail
   refine Calls.mono (laws_szReign _ _ _ r _ (by omega) hr0 hsz) ?_
   rintro e w1 ⟨r2,rfl,hx1,hra,hrb,hrc⟩
   have Hrc:=qh hrc
   clear hrc
   by_cases cj:r2 < 0
   ·have dj:decide (r2 < 0)=true:=decide_eq_true cj
    go_wp2_with fail
    go_ret
    exact ⟨-1,rfl,exts,by omega,by omega,fun h=>absurd h (by omega)⟩
   ·have dj:decide (r2 < 0)=false:=decide_eq_false cj
    go_wp2_with fail
    go_roundg (l.length - (j+1))
    case measure=>omega
    case rel =>
     refine ⟨j+1,r2,by omega,by go_num,rfl,by omega,by omega,exts,fun i hi=>?_⟩
     by_cases e:i=j
     ·subst e
      have:=Hrc.out (by omega)
      omega
     ·exact Hok.out i (by omega)
  ·obtain rfl:j=l.length:=by omega
   go_wp2_with fail
   go_ret
   exact ⟨r,rfl,exts,by omega,by omega,fun _=>⟨by omega,Hok.out⟩⟩
set_option maxRecDepth 100000 in
set_option maxHeartbeats 2000000 in
theorem laws_toReignS (v:Value) (l:List Nsp) (lo hi:Nat) (w:World) (h:Nsps w lo hi v l) (hh:hi ≤ w.heap.size) (hsm:l.length ≤ 1048576) :
  Calls Tryz.prog 105 #[v] w (NewRow 3 l.length (nspCell l) w):=by
 obtain ⟨A,c,rfl,hn,hc⟩:=h.len
 have H:=qh h
 clear h
 go_enter Tryz.func105,Tryz.ntmps105
 go_wp2_with (at_make;refine wpList_make_blk _ rfl _ _ 43 rfl 224 3 32 Tryz.underlying43 (by kernel_rfl) l.length rfl rfl (by omega) (by unfold maxLen;omega) ?_;intro w0 f0 hx0 hb0)
 have Hb0:=qh hb0
 clear hb0
 go_wp2_with fail
 go_loopg [4] l.length (fun m i wr=>∃ (j:Nat) (f:Nat → Value),j+m=l.length∧i=.int .i64 j∧Ext w wr∧Blk wr w.heap.size (l.length * 3) f∧∀ i,i < j * 3 → f i=nspCell l i)
 case atStart=>exact ⟨0,f0,by omega,rfl,exts,Hb0.out,fun i hi=>absurd hi (by omega)⟩
 case round =>
  obtain ⟨j,f,hj,rfl,hx,hbl,hok⟩:=hrel
  have Hok:=qh hok
  clear hok
  have hbgr:=hbl.1
  by_cases hlt:j < l.length
  ·obtain ⟨b,off,rfl,_,hb,h1,h2,h3⟩:=(H.out.ext hx hh).at_ hlt
   have hbw:b < wr.heap.size:=by have:=hx.size;omega
   go_wp2_with fail
   refine (laws_toReign _ _ _ wr).mono ?_
   rintro e w1 ⟨rfl,hx1⟩
   have hc0:=(hbl.ext hx1).2 (j * 3) (by omega)
   have hc0a:=hc0.1
   have hc0b:=hc0.2
   have hc1:=(hbl.ext hx1).2 (j * 3+1) (by omega)
   have hc1a:=hc1.1
   have hc1b:=hc1.2
   have hc2:=(hbl.ext hx1).2 (j * 3+2) (by omega)
   have hc2a:=hc2.1
   have hc2b:=hc2.2
   have Hbl:=qh (hbl.ext hx1)
   clear hbl
   have hbg:=Hbl.out.1
   go_wp2_with fail
   go_roundg (l.length - (j+1))
   case measure=>omega
   case rel =>
    refine ⟨j+1,_,by omega,by go_num,exts,(((Hbl.out.set (j * 3) (.string (nspAt l j).nm) (by omega)).set (j * 3+1) (.int .i64 (nspAt l j).fr) (by omega)).set (j * 3+2) (.int .i64 (nspAt l j).to) (by omega)),fun i hi=>?_⟩
    by_cases e2:i=j * 3+2
    ·subst e2;simp only [if_true];exact (nspCell_2 l j).symm
    rw [if_neg e2]
    by_cases e1:i=j * 3+1
    ·subst e1;simp only [if_true];exact (nspCell_1 l j).symm
    rw [if_neg e1]
    by_cases e0:i=j * 3
    ·subst e0;simp only [if_true];exact (nspCell_0 l j).symm
    rw [if_neg e0]
    exact Hok.out i (by omega)
  ·obtain rfl:j=l.length:=by omega
   have Hbl:=qh hbl
   clear hbl
   go_wp2_with fail
   go_ret
   exact ⟨_,w.heap.size,rfl,exts,fun _=>Nat.le_refl _,Hbl.out.own (Nat.le_refl _) (by unfold maxLen;omega) (Nat.le_refl _) Hok.out⟩
set_option maxHeartbeats 2000000 in
theorem laws_eqReignS (v v' : Value) (l:List Nsp) (w:World) (h:Nsps w 0 w.heap.size v l) (h' : Nsps w 0 w.heap.size v' l) :
  Calls Tryz.prog 121 #[v,v'] w (RetX (.bool true) w):=by
 obtain ⟨A,c,rfl,hn,hc⟩:=h.len
 obtain ⟨A', c', rfl,_,hc'⟩:=h'.len
 have H:=qh h
 have H' := qh h'
 clear h h'
 go_enter Tryz.func121,Tryz.ntmps121
 go_wp2_with fail
 go_loopg [5] l.length (fun k i wr=>∃ j:Nat,j+k=l.length∧i=.int .i64 j∧Ext w wr)
 case atStart=>exact ⟨0,by omega,rfl,exts⟩
 case round =>
  obtain ⟨j,hj,rfl,hx⟩:=hrel
  by_cases hlt:j < l.length
  ·obtain ⟨b,off,rfl,_,hb,h1,h2,h3⟩:=(H.out.ext hx (Nat.le_refl _)).at_ hlt
   obtain ⟨b', off', rfl,_,hb', h1', h2', h3'⟩:=(H'.out.ext hx (Nat.le_refl _)).at_ hlt
   have hbr:b < wr.heap.size:=Nat.lt_of_lt_of_le hb hx.size
   have hbr' : b' < wr.heap.size:=Nat.lt_of_lt_of_le hb' hx.size
   go_wp2_with fail
   (refine wp_region_onto prog_mixed (by kernel_rfl) ?_;(repeat (go_big_quiet_step ((go_at_call 176;exact onto_callX (laws_eqReign _ _ _ _)))));refine onto_end ?_;intro w1 hx1)
   go_wp2_with fail
   go_roundg (l.length - (j+1))
   case measure=>omega
   case rel=>exact ⟨j+1,by omega,by go_num,exts⟩
  ·obtain rfl:j=l.length:=by omega
   go_wp2_with fail
   go_ret
   exact ⟨rfl,exts⟩
set_option maxHeartbeats 1000000 in
theorem laws_toPerson (nm:ByteArray) (fr:Int) (to:Int) (w:World):Calls Tryz.prog 161 #[.agg #[.string nm,.int .i64 fr,.int .i64 to]] w (RetX (.agg #[.string nm,.int .i64 fr,.int .i64 to]) w):=by
 go_enter Tryz.func161,Tryz.ntmps161
 go_wp2_with fail
 refine bodyPost_ret (v:=.agg #[.string nm,.int .i64 fr,.int .i64 to]) (by simp [results,Tryz.results161,go_sem]) rfl ⟨rfl,exts⟩
set_option maxHeartbeats 1000000 in
theorem laws_eqPerson (nm:ByteArray) (fr:Int) (to:Int) (w:World):Calls Tryz.prog 177 #[.agg #[.string nm,.int .i64 fr,.int .i64 to],.agg #[.string nm,.int .i64 fr,.int .i64 to]] w (RetX (.bool true) w):=by
 have hs_nm:=str_same nm
 go_enter Tryz.func177,Tryz.ntmps177
 go_wp2_with fail
 go_ret
 exact ⟨rfl,exts⟩
set_option maxHeartbeats 1000000 in
theorem laws_szPerson (nm:ByteArray) (fr:Int) (to:Int) (left:Int) (w:World) (hl:left ≤ 1048576) (h0:0 ≤ left) (hnm:nm.size ≤ 9223372036854775807):Calls Tryz.prog 150 #[.agg #[.string nm,.int .i64 fr,.int .i64 to],.int .i64 left] w (SzPost left ((nm.size:Int) ≤ left) w):=by
 have W0:IntKind.i64.wrap (left - (nm.size:Int))=left - (nm.size:Int):=IntWalk.i64_in _ (by omega)
 by_cases c0:left - (nm.size:Int) < 0
 case pos =>
  have d0:decide (left - (nm.size:Int) < 0)=true:=decide_eq_true c0
  go_enter Tryz.func150,Tryz.ntmps150
  go_wp2_with fail
  go_ret
  exact ⟨-1,rfl,exts,by omega,by omega,fun h=>absurd h (by omega)⟩
 have d0:decide (left - (nm.size:Int) < 0)=false:=decide_eq_false c0
 go_enter Tryz.func150,Tryz.ntmps150
 go_wp2_with fail
 go_ret
 exact ⟨left - (nm.size:Int),rfl,exts,by omega,by omega,fun _=>by omega⟩
set_option maxRecDepth 100000 in
set_option maxHeartbeats 2000000 in
theorem laws_szPersonS (v:Value) (l:List Nsp) (left:Int) (w:World) (hl:left ≤ 1048576) (h0:0 ≤ left) (h:Nsps w 0 w.heap.size v l) (hz:∀ i,i < l.length → (nspAt l i).nm.size ≤ 9223372036854775807):Calls Tryz.prog 92 #[v,.int .i64 left] w (SzPost left ((l.length:Int) ≤ left∧∀ i,i < l.length → ((nspAt l i).nm.size:Int) ≤ left) w):=by
 obtain ⟨A,c,rfl,hn,hc⟩:=h.len
 have H:=qh h
 have Hz:=qh hz
 clear h hz
 have W0:IntKind.i64.wrap (left - (l.length:Int))=left - (l.length:Int):=IntWalk.i64_in _ (by omega)
 go_enter Tryz.func92,Tryz.ntmps92
 by_cases c0:left - (l.length:Int) < 0
 case pos =>
  have d0:decide (left - (l.length:Int) < 0)=true:=decide_eq_true c0
  go_wp2_with fail
  go_ret
  exact ⟨-1,rfl,exts,by omega,by omega,fun h=>absurd h (by omega)⟩
 have d0:decide (left - (l.length:Int) < 0)=false:=decide_eq_false c0
 go_wp2_with fail
 go_loopg [1,5] l.length (fun q t i wr=>∃ (j:Nat) (r:Int),j+q=l.length∧i=.int .i64 j∧t=.int .i64 r∧0 ≤ r∧r ≤ left - (l.length:Int)∧Ext w wr∧∀ i,i < j → ((nspAt l i).nm.size:Int) ≤ left)
 case atStart=>exact ⟨0,_,by omega,rfl,rfl,by omega,by omega,exts,fun i hi=>absurd hi (by omega)⟩
 case round =>
  obtain ⟨j,r,hj,rfl,rfl,hr0,hr1,hx,hok⟩:=hrel
  have Hok:=qh hok
  clear hok
  by_cases hlt:j < l.length
  ·obtain ⟨b,off,rfl,_,hb,h1,h2,h3⟩:=(H.out.ext hx (Nat.le_refl _)).at_ hlt
   have hbr:b < wr.heap.size:=Nat.lt_of_lt_of_le hb hx.size
   have hsz:=Hz.out j hlt
   go_wp2_with fail
   refine Calls.mono (laws_szPerson _ _ _ r _ (by omega) hr0 hsz) ?_
   rintro e w1 ⟨r2,rfl,hx1,hra,hrb,hrc⟩
   have Hrc:=qh hrc
   clear hrc
   by_cases cj:r2 < 0
   ·have dj:decide (r2 < 0)=true:=decide_eq_true cj
    go_wp2_with fail
    go_ret
    exact ⟨-1,rfl,exts,by omega,by omega,fun h=>absurd h (by omega)⟩
   ·have dj:decide (r2 < 0)=false:=decide_eq_false cj
    go_wp2_with fail
    go_roundg (l.length - (j+1))
    case measure=>omega
    case rel =>
     refine ⟨j+1,r2,by omega,by go_num,rfl,by omega,by omega,exts,fun i hi=>?_⟩
     by_cases e:i=j
     ·subst e
      have:=Hrc.out (by omega)
      omega
     ·exact Hok.out i (by omega)
  ·obtain rfl:j=l.length:=by omega
   go_wp2_with fail
   go_ret
   exact ⟨r,rfl,exts,by omega,by omega,fun _=>⟨by omega,Hok.out⟩⟩
set_option maxRecDepth 100000 in
set_option maxHeartbeats 2000000 in
theorem laws_toPersonS (v:Value) (l:List Nsp) (lo hi:Nat) (w:World) (h:Nsps w lo hi v l) (hh:hi ≤ w.heap.size) (hsm:l.length ≤ 1048576) :
  Calls Tryz.prog 106 #[v] w (NewRow 3 l.length (nspCell l) w):=by
 obtain ⟨A,c,rfl,hn,hc⟩:=h.len
 have H:=qh h
 clear h
 go_enter Tryz.func106,Tryz.ntmps106
 go_wp2_with (at_make;refine wpList_make_blk _ rfl _ _ 46 rfl 226 3 32 Tryz.underlying46 (by kernel_rfl) l.length rfl rfl (by omega) (by unfold maxLen;omega) ?_;intro w0 f0 hx0 hb0)
 have Hb0:=qh hb0
 clear hb0
 go_wp2_with fail
 go_loopg [4] l.length (fun m i wr=>∃ (j:Nat) (f:Nat → Value),j+m=l.length∧i=.int .i64 j∧Ext w wr∧Blk wr w.heap.size (l.length * 3) f∧∀ i,i < j * 3 → f i=nspCell l i)
 case atStart=>exact ⟨0,f0,by omega,rfl,exts,Hb0.out,fun i hi=>absurd hi (by omega)⟩
 case round =>
  obtain ⟨j,f,hj,rfl,hx,hbl,hok⟩:=hrel
  have Hok:=qh hok
  clear hok
  have hbgr:=hbl.1
  by_cases hlt:j < l.length
  ·obtain ⟨b,off,rfl,_,hb,h1,h2,h3⟩:=(H.out.ext hx hh).at_ hlt
   have hbw:b < wr.heap.size:=by have:=hx.size;omega
   go_wp2_with fail
   refine (laws_toPerson _ _ _ wr).mono ?_
   rintro e w1 ⟨rfl,hx1⟩
   have hc0:=(hbl.ext hx1).2 (j * 3) (by omega)
   have hc0a:=hc0.1
   have hc0b:=hc0.2
   have hc1:=(hbl.ext hx1).2 (j * 3+1) (by omega)
   have hc1a:=hc1.1
   have hc1b:=hc1.2
   have hc2:=(hbl.ext hx1).2 (j * 3+2) (by omega)
   have hc2a:=hc2.1
   have hc2b:=hc2.2
   have Hbl:=qh (hbl.ext hx1)
   clear hbl
   have hbg:=Hbl.out.1
   go_wp2_with fail
   go_roundg (l.length - (j+1))
   case measure=>omega
   case rel =>
    refine ⟨j+1,_,by omega,by go_num,exts,(((Hbl.out.set (j * 3) (.string (nspAt l j).nm) (by omega)).set (j * 3+1) (.int .i64 (nspAt l j).fr) (by omega)).set (j * 3+2) (.int .i64 (nspAt l j).to) (by omega)),fun i hi=>?_⟩
    by_cases e2:i=j * 3+2
    ·subst e2;simp only [if_true];exact (nspCell_2 l j).symm
    rw [if_neg e2]
    by_cases e1:i=j * 3+1
    ·subst e1;simp only [if_true];exact (nspCell_1 l j).symm
    rw [if_neg e1]
    by_cases e0:i=j * 3
    ·subst e0;simp only [if_true];exact (nspCell_0 l j).symm
    rw [if_neg e0]
    exact Hok.out i (by omega)
  ·obtain rfl:j=l.length:=by omega
   have Hbl:=qh hbl
   clear hbl
   go_wp2_with fail
   go_ret
   exact ⟨_,w.heap.size,rfl,exts,fun _=>Nat.le_refl _,Hbl.out.own (Nat.le_refl _) (by unfold maxLen;omega) (Nat.le_refl _) Hok.out⟩
set_option maxHeartbeats 2000000 in
theorem laws_eqPersonS (v v' : Value) (l:List Nsp) (w:World) (h:Nsps w 0 w.heap.size v l) (h' : Nsps w 0 w.heap.size v' l) :
  Calls Tryz.prog 122 #[v,v'] w (RetX (.bool true) w):=by
 obtain ⟨A,c,rfl,hn,hc⟩:=h.len
 obtain ⟨A', c', rfl,_,hc'⟩:=h'.len
 have H:=qh h
 have H' := qh h'
 clear h h'
 go_enter Tryz.func122,Tryz.ntmps122
 go_wp2_with fail
 go_loopg [5] l.length (fun k i wr=>∃ j:Nat,j+k=l.length∧i=.int .i64 j∧Ext w wr)
 case atStart=>exact ⟨0,by omega,rfl,exts⟩
 case round =>
  obtain ⟨j,hj,rfl,hx⟩:=hrel
  by_cases hlt:j < l.length
  ·obtain ⟨b,off,rfl,_,hb,h1,h2,h3⟩:=(H.out.ext hx (Nat.le_refl _)).at_ hlt
   obtain ⟨b', off', rfl,_,hb', h1', h2', h3'⟩:=(H'.out.ext hx (Nat.le_refl _)).at_ hlt
   have hbr:b < wr.heap.size:=Nat.lt_of_lt_of_le hb hx.size
   have hbr' : b' < wr.heap.size:=Nat.lt_of_lt_of_le hb' hx.size
   go_wp2_with fail
   (refine wp_region_onto prog_mixed (by kernel_rfl) ?_;(repeat (go_big_quiet_step ((go_at_call 177;exact onto_callX (laws_eqPerson _ _ _ _)))));refine onto_end ?_;intro w1 hx1)
   go_wp2_with fail
   go_roundg (l.length - (j+1))
   case measure=>omega
   case rel=>exact ⟨j+1,by omega,by go_num,exts⟩
  ·obtain rfl:j=l.length:=by omega
   go_wp2_with fail
   go_ret
   exact ⟨rfl,exts⟩
set_option maxHeartbeats 1000000 in
theorem laws_toTerm (of:ByteArray) (pe:ByteArray) (fr:Int) (to:Int) (w:World):Calls Tryz.prog 162 #[.agg #[.string of,.string pe,.int .i64 fr,.int .i64 to]] w (RetX (.agg #[.string of,.string pe,.int .i64 fr,.int .i64 to]) w):=by
 go_enter Tryz.func162,Tryz.ntmps162
 go_wp2_with fail
 refine bodyPost_ret (v:=.agg #[.string of,.string pe,.int .i64 fr,.int .i64 to]) (by simp [results,Tryz.results162,go_sem]) rfl ⟨rfl,exts⟩
set_option maxHeartbeats 1000000 in
theorem laws_eqTerm (of:ByteArray) (pe:ByteArray) (fr:Int) (to:Int) (w:World):Calls Tryz.prog 178 #[.agg #[.string of,.string pe,.int .i64 fr,.int .i64 to],.agg #[.string of,.string pe,.int .i64 fr,.int .i64 to]] w (RetX (.bool true) w):=by
 have hs_of:=str_same of
 have hs_pe:=str_same pe
 go_enter Tryz.func178,Tryz.ntmps178
 go_wp2_with fail
 go_ret
 exact ⟨rfl,exts⟩
set_option maxHeartbeats 1000000 in
theorem laws_szTerm (of:ByteArray) (pe:ByteArray) (fr:Int) (to:Int) (left:Int) (w:World) (hl:left ≤ 1048576) (h0:0 ≤ left) (hof:of.size ≤ 9223372036854775807) (hpe:pe.size ≤ 9223372036854775807):Calls Tryz.prog 151 #[.agg #[.string of,.string pe,.int .i64 fr,.int .i64 to],.int .i64 left] w (SzPost left ((of.size:Int) ≤ left∧(pe.size:Int) ≤ left) w):=by
 have W0:IntKind.i64.wrap (left - (of.size:Int))=left - (of.size:Int):=IntWalk.i64_in _ (by omega)
 by_cases c0:left - (of.size:Int) < 0
 case pos =>
  have d0:decide (left - (of.size:Int) < 0)=true:=decide_eq_true c0
  go_enter Tryz.func151,Tryz.ntmps151
  go_wp2_with fail
  go_ret
  exact ⟨-1,rfl,exts,by omega,by omega,fun h=>absurd h (by omega)⟩
 have d0:decide (left - (of.size:Int) < 0)=false:=decide_eq_false c0
 have W1:IntKind.i64.wrap (left - (of.size:Int) - (pe.size:Int))=left - (of.size:Int) - (pe.size:Int):=IntWalk.i64_in _ (by omega)
 by_cases c1:left - (of.size:Int) - (pe.size:Int) < 0
 case pos =>
  have d1:decide (left - (of.size:Int) - (pe.size:Int) < 0)=true:=decide_eq_true c1
  go_enter Tryz.func151,Tryz.ntmps151
  go_wp2_with fail
  go_ret
  exact ⟨-1,rfl,exts,by omega,by omega,fun h=>absurd h (by omega)⟩
 have d1:decide (left - (of.size:Int) - (pe.size:Int) < 0)=false:=decide_eq_false c1
 go_enter Tryz.func151,Tryz.ntmps151
 go_wp2_with fail
 go_ret
 exact ⟨left - (of.size:Int) - (pe.size:Int),rfl,exts,by omega,by omega,fun _=>by omega⟩
set_option maxRecDepth 100000 in
set_option maxHeartbeats 2000000 in
theorem laws_szTermS (v:Value) (l:List Trm) (left:Int) (w:World) (hl:left ≤ 1048576) (h0:0 ≤ left) (h:Trms w 0 w.heap.size v l) (hz:∀ i,i < l.length → (trmAt l i).of.size ≤ 9223372036854775807∧(trmAt l i).pe.size ≤ 9223372036854775807):Calls Tryz.prog 93 #[v,.int .i64 left] w (SzPost left ((l.length:Int) ≤ left∧∀ i,i < l.length → ((trmAt l i).of.size:Int) ≤ left∧((trmAt l i).pe.size:Int) ≤ left) w):=by
 obtain ⟨A,c,rfl,hn,hc⟩:=h.len
 have H:=qh h
 have Hz:=qh hz
 clear h hz
 have W0:IntKind.i64.wrap (left - (l.length:Int))=left - (l.length:Int):=IntWalk.i64_in _ (by omega)
 go_enter Tryz.func93,Tryz.ntmps93
 by_cases c0:left - (l.length:Int) < 0
 case pos =>
  have d0:decide (left - (l.length:Int) < 0)=true:=decide_eq_true c0
  go_wp2_with fail
  go_ret
  exact ⟨-1,rfl,exts,by omega,by omega,fun h=>absurd h (by omega)⟩
 have d0:decide (left - (l.length:Int) < 0)=false:=decide_eq_false c0
 go_wp2_with fail
 go_loopg [1,5] l.length (fun q t i wr=>∃ (j:Nat) (r:Int),j+q=l.length∧i=.int .i64 j∧t=.int .i64 r∧0 ≤ r∧r ≤ left - (l.length:Int)∧Ext w wr∧∀ i,i < j → ((trmAt l i).of.size:Int) ≤ left∧((trmAt l i).pe.size:Int) ≤ left)
 case atStart=>exact ⟨0,_,by omega,rfl,rfl,by omega,by omega,exts,fun i hi=>absurd hi (by omega)⟩
 case round =>
  obtain ⟨j,r,hj,rfl,rfl,hr0,hr1,hx,hok⟩:=hrel
  have Hok:=qh hok
  clear hok
  by_cases hlt:j < l.length
  ·obtain ⟨b,off,rfl,_,hb,h1,h2,h3,h4⟩:=(H.out.ext hx (Nat.le_refl _)).at_ hlt
   have hbr:b < wr.heap.size:=Nat.lt_of_lt_of_le hb hx.size
   have hsz:=Hz.out j hlt
   go_wp2_with fail
   refine Calls.mono (laws_szTerm _ _ _ _ r _ (by omega) hr0 hsz.1 hsz.2) ?_
   rintro e w1 ⟨r2,rfl,hx1,hra,hrb,hrc⟩
   have Hrc:=qh hrc
   clear hrc
   by_cases cj:r2 < 0
   ·have dj:decide (r2 < 0)=true:=decide_eq_true cj
    go_wp2_with fail
    go_ret
    exact ⟨-1,rfl,exts,by omega,by omega,fun h=>absurd h (by omega)⟩
   ·have dj:decide (r2 < 0)=false:=decide_eq_false cj
    go_wp2_with fail
    go_roundg (l.length - (j+1))
    case measure=>omega
    case rel =>
     refine ⟨j+1,r2,by omega,by go_num,rfl,by omega,by omega,exts,fun i hi=>?_⟩
     by_cases e:i=j
     ·subst e
      have:=Hrc.out (by omega)
      omega
     ·exact Hok.out i (by omega)
  ·obtain rfl:j=l.length:=by omega
   go_wp2_with fail
   go_ret
   exact ⟨r,rfl,exts,by omega,by omega,fun _=>⟨by omega,Hok.out⟩⟩
set_option maxRecDepth 100000 in
set_option maxHeartbeats 2000000 in
theorem laws_toTermS (v:Value) (l:List Trm) (lo hi:Nat) (w:World) (h:Trms w lo hi v l) (hh:hi ≤ w.heap.size) (hsm:l.length ≤ 1048576) :
  Calls Tryz.prog 107 #[v] w (NewRow 4 l.length (trmCell l) w):=by
 obtain ⟨A,c,rfl,hn,hc⟩:=h.len
 have H:=qh h
 clear h
 go_enter Tryz.func107,Tryz.ntmps107
 go_wp2_with (at_make;refine wpList_make_blk _ rfl _ _ 47 rfl 228 4 48 Tryz.underlying47 (by kernel_rfl) l.length rfl rfl (by omega) (by unfold maxLen;omega) ?_;intro w0 f0 hx0 hb0)
 have Hb0:=qh hb0
 clear hb0
 go_wp2_with fail
 go_loopg [4] l.length (fun m i wr=>∃ (j:Nat) (f:Nat → Value),j+m=l.length∧i=.int .i64 j∧Ext w wr∧Blk wr w.heap.size (l.length * 4) f∧∀ i,i < j * 4 → f i=trmCell l i)
 case atStart=>exact ⟨0,f0,by omega,rfl,exts,Hb0.out,fun i hi=>absurd hi (by omega)⟩
 case round =>
  obtain ⟨j,f,hj,rfl,hx,hbl,hok⟩:=hrel
  have Hok:=qh hok
  clear hok
  have hbgr:=hbl.1
  by_cases hlt:j < l.length
  ·obtain ⟨b,off,rfl,_,hb,h1,h2,h3,h4⟩:=(H.out.ext hx hh).at_ hlt
   have hbw:b < wr.heap.size:=by have:=hx.size;omega
   go_wp2_with fail
   refine (laws_toTerm _ _ _ _ wr).mono ?_
   rintro e w1 ⟨rfl,hx1⟩
   have hc0:=(hbl.ext hx1).2 (j * 4) (by omega)
   have hc0a:=hc0.1
   have hc0b:=hc0.2
   have hc1:=(hbl.ext hx1).2 (j * 4+1) (by omega)
   have hc1a:=hc1.1
   have hc1b:=hc1.2
   have hc2:=(hbl.ext hx1).2 (j * 4+2) (by omega)
   have hc2a:=hc2.1
   have hc2b:=hc2.2
   have hc3:=(hbl.ext hx1).2 (j * 4+3) (by omega)
   have hc3a:=hc3.1
   have hc3b:=hc3.2
   have Hbl:=qh (hbl.ext hx1)
   clear hbl
   have hbg:=Hbl.out.1
   go_wp2_with fail
   go_roundg (l.length - (j+1))
   case measure=>omega
   case rel =>
    refine ⟨j+1,_,by omega,by go_num,exts,((((Hbl.out.set (j * 4) (.string (trmAt l j).of) (by omega)).set (j * 4+1) (.string (trmAt l j).pe) (by omega)).set (j * 4+2) (.int .i64 (trmAt l j).fr) (by omega)).set (j * 4+3) (.int .i64 (trmAt l j).to) (by omega)),fun i hi=>?_⟩
    by_cases e3:i=j * 4+3
    ·subst e3;simp only [if_true];exact (trmCell_3 l j).symm
    rw [if_neg e3]
    by_cases e2:i=j * 4+2
    ·subst e2;simp only [if_true];exact (trmCell_2 l j).symm
    rw [if_neg e2]
    by_cases e1:i=j * 4+1
    ·subst e1;simp only [if_true];exact (trmCell_1 l j).symm
    rw [if_neg e1]
    by_cases e0:i=j * 4
    ·subst e0;simp only [if_true];exact (trmCell_0 l j).symm
    rw [if_neg e0]
    exact Hok.out i (by omega)
  ·obtain rfl:j=l.length:=by omega
   have Hbl:=qh hbl
   clear hbl
   go_wp2_with fail
   go_ret
   exact ⟨_,w.heap.size,rfl,exts,fun _=>Nat.le_refl _,Hbl.out.own (Nat.le_refl _) (by unfold maxLen;omega) (Nat.le_refl _) Hok.out⟩
set_option maxHeartbeats 2000000 in
theorem laws_eqTermS (v v' : Value) (l:List Trm) (w:World) (h:Trms w 0 w.heap.size v l) (h' : Trms w 0 w.heap.size v' l) :
  Calls Tryz.prog 123 #[v,v'] w (RetX (.bool true) w):=by
 obtain ⟨A,c,rfl,hn,hc⟩:=h.len
 obtain ⟨A', c', rfl,_,hc'⟩:=h'.len
 have H:=qh h
 have H' := qh h'
 clear h h'
 go_enter Tryz.func123,Tryz.ntmps123
 go_wp2_with fail
 go_loopg [5] l.length (fun k i wr=>∃ j:Nat,j+k=l.length∧i=.int .i64 j∧Ext w wr)
 case atStart=>exact ⟨0,by omega,rfl,exts⟩
 case round =>
  obtain ⟨j,hj,rfl,hx⟩:=hrel
  by_cases hlt:j < l.length
  ·obtain ⟨b,off,rfl,_,hb,h1,h2,h3,h4⟩:=(H.out.ext hx (Nat.le_refl _)).at_ hlt
   obtain ⟨b', off', rfl,_,hb', h1', h2', h3', h4'⟩:=(H'.out.ext hx (Nat.le_refl _)).at_ hlt
   have hbr:b < wr.heap.size:=Nat.lt_of_lt_of_le hb hx.size
   have hbr' : b' < wr.heap.size:=Nat.lt_of_lt_of_le hb' hx.size
   go_wp2_with fail
   (refine wp_region_onto prog_mixed (by kernel_rfl) ?_;(repeat (go_big_quiet_step ((go_at_call 178;exact onto_callX (laws_eqTerm _ _ _ _ _)))));refine onto_end ?_;intro w1 hx1)
   go_wp2_with fail
   go_roundg (l.length - (j+1))
   case measure=>omega
   case rel=>exact ⟨j+1,by omega,by go_num,exts⟩
  ·obtain rfl:j=l.length:=by omega
   go_wp2_with fail
   go_ret
   exact ⟨rfl,exts⟩
set_option maxHeartbeats 1000000 in
theorem laws_toWay (a:Int) (b:Int) (d:Int) (w:World):Calls Tryz.prog 163 #[.agg #[.int .i64 a,.int .i64 b,.int .i64 d]] w (RetX (.agg #[.int .i64 a,.int .i64 b,.int .i64 d]) w):=by
 go_enter Tryz.func163,Tryz.ntmps163
 go_wp2_with fail
 refine bodyPost_ret (v:=.agg #[.int .i64 a,.int .i64 b,.int .i64 d]) (by simp [results,Tryz.results163,go_sem]) rfl ⟨rfl,exts⟩
set_option maxHeartbeats 1000000 in
theorem laws_eqWay (a:Int) (b:Int) (d:Int) (w:World):Calls Tryz.prog 179 #[.agg #[.int .i64 a,.int .i64 b,.int .i64 d],.agg #[.int .i64 a,.int .i64 b,.int .i64 d]] w (RetX (.bool true) w):=by
 go_enter Tryz.func179,Tryz.ntmps179
 go_wp2_with fail
 go_ret
 exact ⟨rfl,exts⟩
set_option maxHeartbeats 400000 in
theorem laws_szWayS (v:Value) (l:List Wy) (left:Int) (w:World) (hl:left ≤ 1048576) (h0:0 ≤ left) (h:Wys w 0 w.heap.size v l) :
  Calls Tryz.prog 95 #[v,.int .i64 left] w (SzPost left ((l.length:Int) ≤ left) w):=by
 obtain ⟨A,c,rfl,hn,hc⟩:=h.len
 clear h
 go_enter Tryz.func95,Tryz.ntmps95
 go_wp2_with fail
 ·go_ret
  exact ⟨-1,rfl,Ext.refl _,by omega,by omega,fun h=>absurd h (by omega)⟩
 ·go_ret
  exact ⟨left - (l.length:Int),rfl,Ext.refl _,by omega,by omega,fun _=>by omega⟩
set_option maxRecDepth 100000 in
set_option maxHeartbeats 2000000 in
theorem laws_toWayS (v:Value) (l:List Wy) (lo hi:Nat) (w:World) (h:Wys w lo hi v l) (hh:hi ≤ w.heap.size) (hsm:l.length ≤ 1048576) :
  Calls Tryz.prog 109 #[v] w (NewRow 3 l.length (wyCell l) w):=by
 obtain ⟨A,c,rfl,hn,hc⟩:=h.len
 have H:=qh h
 clear h
 go_enter Tryz.func109,Tryz.ntmps109
 go_wp2_with (at_make;refine wpList_make_blk _ rfl _ _ 50 rfl 231 3 24 Tryz.underlying50 (by kernel_rfl) l.length rfl rfl (by omega) (by unfold maxLen;omega) ?_;intro w0 f0 hx0 hb0)
 have Hb0:=qh hb0
 clear hb0
 go_wp2_with fail
 go_loopg [4] l.length (fun m i wr=>∃ (j:Nat) (f:Nat → Value),j+m=l.length∧i=.int .i64 j∧Ext w wr∧Blk wr w.heap.size (l.length * 3) f∧∀ i,i < j * 3 → f i=wyCell l i)
 case atStart=>exact ⟨0,f0,by omega,rfl,exts,Hb0.out,fun i hi=>absurd hi (by omega)⟩
 case round =>
  obtain ⟨j,f,hj,rfl,hx,hbl,hok⟩:=hrel
  have Hok:=qh hok
  clear hok
  have hbgr:=hbl.1
  by_cases hlt:j < l.length
  ·obtain ⟨b,off,rfl,_,hb,h1,h2,h3⟩:=(H.out.ext hx hh).at_ hlt
   have hbw:b < wr.heap.size:=by have:=hx.size;omega
   go_wp2_with fail
   refine (laws_toWay _ _ _ wr).mono ?_
   rintro e w1 ⟨rfl,hx1⟩
   have hc0:=(hbl.ext hx1).2 (j * 3) (by omega)
   have hc0a:=hc0.1
   have hc0b:=hc0.2
   have hc1:=(hbl.ext hx1).2 (j * 3+1) (by omega)
   have hc1a:=hc1.1
   have hc1b:=hc1.2
   have hc2:=(hbl.ext hx1).2 (j * 3+2) (by omega)
   have hc2a:=hc2.1
   have hc2b:=hc2.2
   have Hbl:=qh (hbl.ext hx1)
   clear hbl
   have hbg:=Hbl.out.1
   go_wp2_with fail
   go_roundg (l.length - (j+1))
   case measure=>omega
   case rel =>
    refine ⟨j+1,_,by omega,by go_num,exts,(((Hbl.out.set (j * 3) (.int .i64 (wyAt l j).a) (by omega)).set (j * 3+1) (.int .i64 (wyAt l j).b) (by omega)).set (j * 3+2) (.int .i64 (wyAt l j).d) (by omega)),fun i hi=>?_⟩
    by_cases e2:i=j * 3+2
    ·subst e2;simp only [if_true];exact (wyCell_2 l j).symm
    rw [if_neg e2]
    by_cases e1:i=j * 3+1
    ·subst e1;simp only [if_true];exact (wyCell_1 l j).symm
    rw [if_neg e1]
    by_cases e0:i=j * 3
    ·subst e0;simp only [if_true];exact (wyCell_0 l j).symm
    rw [if_neg e0]
    exact Hok.out i (by omega)
  ·obtain rfl:j=l.length:=by omega
   have Hbl:=qh hbl
   clear hbl
   go_wp2_with fail
   go_ret
   exact ⟨_,w.heap.size,rfl,exts,fun _=>Nat.le_refl _,Hbl.out.own (Nat.le_refl _) (by unfold maxLen;omega) (Nat.le_refl _) Hok.out⟩
set_option maxHeartbeats 2000000 in
theorem laws_eqWayS (v v' : Value) (l:List Wy) (w:World) (h:Wys w 0 w.heap.size v l) (h' : Wys w 0 w.heap.size v' l) :
  Calls Tryz.prog 125 #[v,v'] w (RetX (.bool true) w):=by
 obtain ⟨A,c,rfl,hn,hc⟩:=h.len
 obtain ⟨A', c', rfl,_,hc'⟩:=h'.len
 have H:=qh h
 have H' := qh h'
 clear h h'
 go_enter Tryz.func125,Tryz.ntmps125
 go_wp2_with fail
 go_loopg [5] l.length (fun k i wr=>∃ j:Nat,j+k=l.length∧i=.int .i64 j∧Ext w wr)
 case atStart=>exact ⟨0,by omega,rfl,exts⟩
 case round =>
  obtain ⟨j,hj,rfl,hx⟩:=hrel
  by_cases hlt:j < l.length
  ·obtain ⟨b,off,rfl,_,hb,h1,h2,h3⟩:=(H.out.ext hx (Nat.le_refl _)).at_ hlt
   obtain ⟨b', off', rfl,_,hb', h1', h2', h3'⟩:=(H'.out.ext hx (Nat.le_refl _)).at_ hlt
   have hbr:b < wr.heap.size:=Nat.lt_of_lt_of_le hb hx.size
   have hbr' : b' < wr.heap.size:=Nat.lt_of_lt_of_le hb' hx.size
   go_wp2_with fail
   (refine wp_region_onto prog_mixed (by kernel_rfl) ?_;(repeat (go_big_quiet_step ((go_at_call 179;exact onto_callX (laws_eqWay _ _ _ _)))));refine onto_end ?_;intro w1 hx1)
   go_wp2_with fail
   go_roundg (l.length - (j+1))
   case measure=>omega
   case rel=>exact ⟨j+1,by omega,by go_num,exts⟩
  ·obtain rfl:j=l.length:=by omega
   go_wp2_with fail
   go_ret
   exact ⟨rfl,exts⟩
set_option maxHeartbeats 1000000 in
theorem laws_toStay (a:Int) (b:Int) (d:Int) (w:World):Calls Tryz.prog 110 #[.agg #[.int .i64 a,.int .i64 b,.int .i64 d]] w (RetX (.agg #[.int .i64 a,.int .i64 b,.int .i64 d]) w):=by
 go_enter Tryz.func110,Tryz.ntmps110
 go_wp2_with fail
 refine bodyPost_ret (v:=.agg #[.int .i64 a,.int .i64 b,.int .i64 d]) (by simp [results,Tryz.results110,go_sem]) rfl ⟨rfl,exts⟩
set_option maxHeartbeats 1000000 in
theorem laws_eqStay (a:Int) (b:Int) (d:Int) (w:World):Calls Tryz.prog 126 #[.agg #[.int .i64 a,.int .i64 b,.int .i64 d],.agg #[.int .i64 a,.int .i64 b,.int .i64 d]] w (RetX (.bool true) w):=by
 go_enter Tryz.func126,Tryz.ntmps126
 go_wp2_with fail
 go_ret
 exact ⟨rfl,exts⟩
set_option maxHeartbeats 400000 in
theorem laws_szStayS (v:Value) (l:List Wy) (left:Int) (w:World) (hl:left ≤ 1048576) (h0:0 ≤ left) (h:Wys w 0 w.heap.size v l) :
  Calls Tryz.prog 38 #[v,.int .i64 left] w (SzPost left ((l.length:Int) ≤ left) w):=by
 obtain ⟨A,c,rfl,hn,hc⟩:=h.len
 clear h
 go_enter Tryz.func38,Tryz.ntmps38
 go_wp2_with fail
 ·go_ret
  exact ⟨-1,rfl,Ext.refl _,by omega,by omega,fun h=>absurd h (by omega)⟩
 ·go_ret
  exact ⟨left - (l.length:Int),rfl,Ext.refl _,by omega,by omega,fun _=>by omega⟩
set_option maxRecDepth 100000 in
set_option maxHeartbeats 2000000 in
theorem laws_toStayS (v:Value) (l:List Wy) (lo hi:Nat) (w:World) (h:Wys w lo hi v l) (hh:hi ≤ w.heap.size) (hsm:l.length ≤ 1048576) :
  Calls Tryz.prog 48 #[v] w (NewRow 3 l.length (wyCell l) w):=by
 obtain ⟨A,c,rfl,hn,hc⟩:=h.len
 have H:=qh h
 clear h
 go_enter Tryz.func48,Tryz.ntmps48
 go_wp2_with (at_make;refine wpList_make_blk _ rfl _ _ 53 rfl 162 3 24 Tryz.underlying53 (by kernel_rfl) l.length rfl rfl (by omega) (by unfold maxLen;omega) ?_;intro w0 f0 hx0 hb0)
 have Hb0:=qh hb0
 clear hb0
 go_wp2_with fail
 go_loopg [4] l.length (fun m i wr=>∃ (j:Nat) (f:Nat → Value),j+m=l.length∧i=.int .i64 j∧Ext w wr∧Blk wr w.heap.size (l.length * 3) f∧∀ i,i < j * 3 → f i=wyCell l i)
 case atStart=>exact ⟨0,f0,by omega,rfl,exts,Hb0.out,fun i hi=>absurd hi (by omega)⟩
 case round =>
  obtain ⟨j,f,hj,rfl,hx,hbl,hok⟩:=hrel
  have Hok:=qh hok
  clear hok
  have hbgr:=hbl.1
  by_cases hlt:j < l.length
  ·obtain ⟨b,off,rfl,_,hb,h1,h2,h3⟩:=(H.out.ext hx hh).at_ hlt
   have hbw:b < wr.heap.size:=by have:=hx.size;omega
   go_wp2_with fail
   refine (laws_toStay _ _ _ wr).mono ?_
   rintro e w1 ⟨rfl,hx1⟩
   have hc0:=(hbl.ext hx1).2 (j * 3) (by omega)
   have hc0a:=hc0.1
   have hc0b:=hc0.2
   have hc1:=(hbl.ext hx1).2 (j * 3+1) (by omega)
   have hc1a:=hc1.1
   have hc1b:=hc1.2
   have hc2:=(hbl.ext hx1).2 (j * 3+2) (by omega)
   have hc2a:=hc2.1
   have hc2b:=hc2.2
   have Hbl:=qh (hbl.ext hx1)
   clear hbl
   have hbg:=Hbl.out.1
   go_wp2_with fail
   go_roundg (l.length - (j+1))
   case measure=>omega
   case rel =>
    refine ⟨j+1,_,by omega,by go_num,exts,(((Hbl.out.set (j * 3) (.int .i64 (wyAt l j).a) (by omega)).set (j * 3+1) (.int .i64 (wyAt l j).b) (by omega)).set (j * 3+2) (.int .i64 (wyAt l j).d) (by omega)),fun i hi=>?_⟩
    by_cases e2:i=j * 3+2
    ·subst e2;simp only [if_true];exact (wyCell_2 l j).symm
    rw [if_neg e2]
    by_cases e1:i=j * 3+1
    ·subst e1;simp only [if_true];exact (wyCell_1 l j).symm
    rw [if_neg e1]
    by_cases e0:i=j * 3
    ·subst e0;simp only [if_true];exact (wyCell_0 l j).symm
    rw [if_neg e0]
    exact Hok.out i (by omega)
  ·obtain rfl:j=l.length:=by omega
   have Hbl:=qh hbl
   clear hbl
   go_wp2_with fail
   go_ret
   exact ⟨_,w.heap.size,rfl,exts,fun _=>Nat.le_refl _,Hbl.out.own (Nat.le_refl _) (by unfold maxLen;omega) (Nat.le_refl _) Hok.out⟩
set_option maxHeartbeats 2000000 in
theorem laws_eqStayS (v v' : Value) (l:List Wy) (w:World) (h:Wys w 0 w.heap.size v l) (h' : Wys w 0 w.heap.size v' l) :
  Calls Tryz.prog 59 #[v,v'] w (RetX (.bool true) w):=by
 obtain ⟨A,c,rfl,hn,hc⟩:=h.len
 obtain ⟨A', c', rfl,_,hc'⟩:=h'.len
 have H:=qh h
 have H' := qh h'
 clear h h'
 go_enter Tryz.func59,Tryz.ntmps59
 go_wp2_with fail
 go_loopg [5] l.length (fun k i wr=>∃ j:Nat,j+k=l.length∧i=.int .i64 j∧Ext w wr)
 case atStart=>exact ⟨0,by omega,rfl,exts⟩
 case round =>
  obtain ⟨j,hj,rfl,hx⟩:=hrel
  by_cases hlt:j < l.length
  ·obtain ⟨b,off,rfl,_,hb,h1,h2,h3⟩:=(H.out.ext hx (Nat.le_refl _)).at_ hlt
   obtain ⟨b', off', rfl,_,hb', h1', h2', h3'⟩:=(H'.out.ext hx (Nat.le_refl _)).at_ hlt
   have hbr:b < wr.heap.size:=Nat.lt_of_lt_of_le hb hx.size
   have hbr' : b' < wr.heap.size:=Nat.lt_of_lt_of_le hb' hx.size
   go_wp2_with fail
   (refine wp_region_onto prog_mixed (by kernel_rfl) ?_;(repeat (go_big_quiet_step ((go_at_call 126;exact onto_callX (laws_eqStay _ _ _ _)))));refine onto_end ?_;intro w1 hx1)
   go_wp2_with fail
   go_roundg (l.length - (j+1))
   case measure=>omega
   case rel=>exact ⟨j+1,by omega,by go_num,exts⟩
  ·obtain rfl:j=l.length:=by omega
   go_wp2_with fail
   go_ret
   exact ⟨rfl,exts⟩
set_option maxRecDepth 100000 in
set_option maxHeartbeats 2000000 in
theorem laws_szStringS (v:Value) (l:List ByteArray) (left:Int) (w:World) (hl:left ≤ 1048576) (h0:0 ≤ left) (h:Strs w 0 w.heap.size v l) (hz:∀ i,i < l.length → (strAt l i).size ≤ 9223372036854775807):Calls Tryz.prog 94 #[v,.int .i64 left] w (SzPost left ((l.length:Int) ≤ left∧∀ i,i < l.length → ((strAt l i).size:Int) ≤ left) w):=by
 obtain ⟨A,c,rfl,hn,hc⟩:=h.len
 have H:=qh h
 have Hz:=qh hz
 clear h hz
 have W0:IntKind.i64.wrap (left - (l.length:Int))=left - (l.length:Int):=IntWalk.i64_in _ (by omega)
 go_enter Tryz.func94,Tryz.ntmps94
 by_cases c0:left - (l.length:Int) < 0
 case pos =>
  have d0:decide (left - (l.length:Int) < 0)=true:=decide_eq_true c0
  go_wp2_with fail
  go_ret
  exact ⟨-1,rfl,exts,by omega,by omega,fun h=>absurd h (by omega)⟩
 have d0:decide (left - (l.length:Int) < 0)=false:=decide_eq_false c0
 go_wp2_with fail
 go_loopg [1,5] l.length (fun q t i wr=>∃ (j:Nat) (r:Int),j+q=l.length∧i=.int .i64 j∧t=.int .i64 r∧0 ≤ r∧r ≤ left - (l.length:Int)∧Ext w wr∧∀ i,i < j → ((strAt l i).size:Int) ≤ left)
 case atStart=>exact ⟨0,_,by omega,rfl,rfl,by omega,by omega,exts,fun i hi=>absurd hi (by omega)⟩
 case round =>
  obtain ⟨j,r,hj,rfl,rfl,hr0,hr1,hx,hok⟩:=hrel
  have Hok:=qh hok
  clear hok
  by_cases hlt:j < l.length
  ·obtain ⟨b,off,rfl,_,hb,h1⟩:=(H.out.ext hx (Nat.le_refl _)).at_ hlt
   have hbr:b < wr.heap.size:=Nat.lt_of_lt_of_le hb hx.size
   have hsz:=Hz.out j hlt
   have Wj:IntKind.i64.wrap (r - ((strAt l j).size:Int))=r - ((strAt l j).size:Int):=IntWalk.i64_in _ (by omega)
   by_cases cj:r - ((strAt l j).size:Int) < 0
   ·have dj:decide (r - ((strAt l j).size:Int) < 0)=true:=decide_eq_true cj
    go_wp2_with fail
    go_ret
    exact ⟨-1,rfl,exts,by omega,by omega,fun h=>absurd h (by omega)⟩
   ·have dj:decide (r - ((strAt l j).size:Int) < 0)=false:=decide_eq_false cj
    go_wp2_with fail
    go_roundg (l.length - (j+1))
    case measure=>omega
    case rel =>
     refine ⟨j+1,r - ((strAt l j).size:Int),by omega,by go_num,rfl,by omega,by omega,exts,fun i hi=>?_⟩
     by_cases e:i=j
     ·subst e;omega
     ·exact Hok.out i (by omega)
  ·obtain rfl:j=l.length:=by omega
   go_wp2_with fail
   go_ret
   exact ⟨r,rfl,exts,by omega,by omega,fun _=>⟨by omega,Hok.out⟩⟩
set_option maxHeartbeats 2000000 in
theorem laws_toStringS (v:Value) (l:List ByteArray) (lo hi:Nat) (w:World) (h:Strs w lo hi v l) (hh:hi ≤ w.heap.size) (hsm:l.length ≤ 1048576) :
  Calls Tryz.prog 108 #[v] w (NewRow 1 l.length (strCell l) w):=by
 obtain ⟨A,c,rfl,hn,hc⟩:=h.len
 have H:=qh h
 clear h
 go_enter Tryz.func108,Tryz.ntmps108
 go_wp2_with (at_make;refine wpList_make_blk _ rfl _ _ 29 rfl 9 1 16 Tryz.underlying29 (by kernel_rfl) l.length rfl rfl (by omega) (by unfold maxLen;omega) ?_;intro w0 f0 hx0 hb0)
 have Hb0:=qh hb0
 clear hb0
 go_wp2_with fail
 go_loopg [4] l.length (fun m i wr=>∃ (j:Nat) (f:Nat → Value),j+m=l.length∧i=.int .i64 j∧Ext w wr∧Blk wr w.heap.size (l.length * 1) f∧∀ i,i < j * 1 → f i=strCell l i)
 case atStart=>exact ⟨0,f0,by omega,rfl,exts,Hb0.out,fun i hi=>absurd hi (by omega)⟩
 case round =>
  obtain ⟨j,f,hj,rfl,hx,hbl,hok⟩:=hrel
  have Hok:=qh hok
  clear hok
  have hbgr:=hbl.1
  by_cases hlt:j < l.length
  ·obtain ⟨b,off,rfl,_,hb,h1⟩:=(H.out.ext hx hh).at_ hlt
   have hbw:b < wr.heap.size:=by have:=hx.size;omega
   have hc0:=hbl.2 j (by omega)
   have hc0a:=hc0.1
   have hc0b:=hc0.2
   have Hbl:=qh hbl
   clear hbl
   have hbg:=Hbl.out.1
   go_wp2_with fail
   go_roundg (l.length - (j+1))
   case measure=>omega
   case rel =>
    refine ⟨j+1,_,by omega,by go_num,exts,(Hbl.out.set j (.string (strAt l j)) (by omega)),fun i hi=>?_⟩
    by_cases e:i=j
    ·subst e;simp [strCell]
    ·rw [if_neg e];exact Hok.out i (by omega)
  ·obtain rfl:j=l.length:=by omega
   have Hbl:=qh hbl
   clear hbl
   go_wp2_with fail
   go_ret
   exact ⟨_,w.heap.size,rfl,exts,fun _=>Nat.le_refl _,Hbl.out.own (Nat.le_refl _) (by unfold maxLen;omega) (Nat.le_refl _) Hok.out⟩
set_option maxHeartbeats 2000000 in
theorem laws_eqStringS (v v' : Value) (l:List ByteArray) (w:World) (h:Strs w 0 w.heap.size v l) (h' : Strs w 0 w.heap.size v' l) :
  Calls Tryz.prog 124 #[v,v'] w (RetX (.bool true) w):=by
 obtain ⟨A,c,rfl,hn,hc⟩:=h.len
 obtain ⟨A', c', rfl,_,hc'⟩:=h'.len
 have H:=qh h
 have H' := qh h'
 clear h h'
 go_enter Tryz.func124,Tryz.ntmps124
 go_wp2_with fail
 go_loopg [5] l.length (fun k i wr=>∃ j:Nat,j+k=l.length∧i=.int .i64 j∧Ext w wr)
 case atStart=>exact ⟨0,by omega,rfl,exts⟩
 case round =>
  obtain ⟨j,hj,rfl,hx⟩:=hrel
  by_cases hlt:j < l.length
  ·obtain ⟨b,off,rfl,_,hb,h1⟩:=(H.out.ext hx (Nat.le_refl _)).at_ hlt
   obtain ⟨b', off', rfl,_,hb', h1'⟩:=(H'.out.ext hx (Nat.le_refl _)).at_ hlt
   have hbr:b < wr.heap.size:=Nat.lt_of_lt_of_le hb hx.size
   have hbr' : b' < wr.heap.size:=Nat.lt_of_lt_of_le hb' hx.size
   have hss:=str_same (strAt l j)
   go_wp2_with fail
   (refine wp_region_onto prog_mixed (by kernel_rfl) ?_;(repeat (go_big_quiet_step ((fail))));refine onto_end ?_;intro w1 hx1)
   go_wp2_with fail
   go_roundg (l.length - (j+1))
   case measure=>omega
   case rel=>exact ⟨j+1,by omega,by go_num,exts⟩
  ·obtain rfl:j=l.length:=by omega
   go_wp2_with fail
   go_ret
   exact ⟨rfl,exts⟩
set_option maxHeartbeats 1000000 in
theorem laws_toClause (ki:Int) (nu:Int) (mo:Int) (fe:Int) (re:Int) (wd:Int) (st:Int) (kg:ByteArray) (w:World):Calls Tryz.prog 164 #[.agg #[.int .i64 ki,.int .i64 nu,.int .i64 mo,.int .i64 fe,.int .i64 re,.int .i64 wd,.int .i64 st,.string kg]] w (RetX (.agg #[.int .i64 ki,.int .i64 nu,.int .i64 mo,.int .i64 fe,.int .i64 re,.int .i64 wd,.int .i64 st,.string kg]) w):=by
 go_enter Tryz.func164,Tryz.ntmps164
 go_wp2_with fail
 refine bodyPost_ret (v:=.agg #[.int .i64 ki,.int .i64 nu,.int .i64 mo,.int .i64 fe,.int .i64 re,.int .i64 wd,.int .i64 st,.string kg]) (by simp [results,Tryz.results164,go_sem]) rfl ⟨rfl,exts⟩
set_option maxHeartbeats 1000000 in
theorem laws_eqClause (ki:Int) (nu:Int) (mo:Int) (fe:Int) (re:Int) (wd:Int) (st:Int) (kg:ByteArray) (w:World):Calls Tryz.prog 180 #[.agg #[.int .i64 ki,.int .i64 nu,.int .i64 mo,.int .i64 fe,.int .i64 re,.int .i64 wd,.int .i64 st,.string kg],.agg #[.int .i64 ki,.int .i64 nu,.int .i64 mo,.int .i64 fe,.int .i64 re,.int .i64 wd,.int .i64 st,.string kg]] w (RetX (.bool true) w):=by
 have hs_kg:=str_same kg
 go_enter Tryz.func180,Tryz.ntmps180
 go_wp2_with fail
 go_ret
 exact ⟨rfl,exts⟩
set_option maxHeartbeats 1000000 in
theorem laws_szClause (ki:Int) (nu:Int) (mo:Int) (fe:Int) (re:Int) (wd:Int) (st:Int) (kg:ByteArray) (left:Int) (w:World) (hl:left ≤ 1048576) (h0:0 ≤ left) (hkg:kg.size ≤ 9223372036854775807):Calls Tryz.prog 152 #[.agg #[.int .i64 ki,.int .i64 nu,.int .i64 mo,.int .i64 fe,.int .i64 re,.int .i64 wd,.int .i64 st,.string kg],.int .i64 left] w (SzPost left ((kg.size:Int) ≤ left) w):=by
 have W0:IntKind.i64.wrap (left - (kg.size:Int))=left - (kg.size:Int):=IntWalk.i64_in _ (by omega)
 by_cases c0:left - (kg.size:Int) < 0
 case pos =>
  have d0:decide (left - (kg.size:Int) < 0)=true:=decide_eq_true c0
  go_enter Tryz.func152,Tryz.ntmps152
  go_wp2_with fail
  go_ret
  exact ⟨-1,rfl,exts,by omega,by omega,fun h=>absurd h (by omega)⟩
 have d0:decide (left - (kg.size:Int) < 0)=false:=decide_eq_false c0
 go_enter Tryz.func152,Tryz.ntmps152
 go_wp2_with fail
 go_ret
 exact ⟨left - (kg.size:Int),rfl,exts,by omega,by omega,fun _=>by omega⟩
set_option maxRecDepth 100000 in
set_option maxHeartbeats 2000000 in
theorem laws_szClauseS (v:Value) (l:List Cls) (left:Int) (w:World) (hl:left ≤ 1048576) (h0:0 ≤ left) (h:Clss w 0 w.heap.size v l) (hz:∀ i,i < l.length → (clsAt l i).kg.size ≤ 9223372036854775807):Calls Tryz.prog 97 #[v,.int .i64 left] w (SzPost left ((l.length:Int) ≤ left∧∀ i,i < l.length → ((clsAt l i).kg.size:Int) ≤ left) w):=by
 obtain ⟨A,c,rfl,hn,hc⟩:=h.len
 have H:=qh h
 have Hz:=qh hz
 clear h hz
 have W0:IntKind.i64.wrap (left - (l.length:Int))=left - (l.length:Int):=IntWalk.i64_in _ (by omega)
 go_enter Tryz.func97,Tryz.ntmps97
 by_cases c0:left - (l.length:Int) < 0
 case pos =>
  have d0:decide (left - (l.length:Int) < 0)=true:=decide_eq_true c0
  go_wp2_with fail
  go_ret
  exact ⟨-1,rfl,exts,by omega,by omega,fun h=>absurd h (by omega)⟩
 have d0:decide (left - (l.length:Int) < 0)=false:=decide_eq_false c0
 go_wp2_with fail
 go_loopg [1,5] l.length (fun q t i wr=>∃ (j:Nat) (r:Int),j+q=l.length∧i=.int .i64 j∧t=.int .i64 r∧0 ≤ r∧r ≤ left - (l.length:Int)∧Ext w wr∧∀ i,i < j → ((clsAt l i).kg.size:Int) ≤ left)
 case atStart=>exact ⟨0,_,by omega,rfl,rfl,by omega,by omega,exts,fun i hi=>absurd hi (by omega)⟩
 case round =>
  obtain ⟨j,r,hj,rfl,rfl,hr0,hr1,hx,hok⟩:=hrel
  have Hok:=qh hok
  clear hok
  by_cases hlt:j < l.length
  ·obtain ⟨b,off,rfl,_,hb,h1,h2,h3,h4,h5,h6,h7,h8⟩:=(H.out.ext hx (Nat.le_refl _)).at_ hlt
   have hbr:b < wr.heap.size:=Nat.lt_of_lt_of_le hb hx.size
   have hsz:=Hz.out j hlt
   go_wp2_with fail
   refine Calls.mono (laws_szClause _ _ _ _ _ _ _ _ r _ (by omega) hr0 hsz) ?_
   rintro e w1 ⟨r2,rfl,hx1,hra,hrb,hrc⟩
   have Hrc:=qh hrc
   clear hrc
   by_cases cj:r2 < 0
   ·have dj:decide (r2 < 0)=true:=decide_eq_true cj
    go_wp2_with fail
    go_ret
    exact ⟨-1,rfl,exts,by omega,by omega,fun h=>absurd h (by omega)⟩
   ·have dj:decide (r2 < 0)=false:=decide_eq_false cj
    go_wp2_with fail
    go_roundg (l.length - (j+1))
    case measure=>omega
    case rel =>
     refine ⟨j+1,r2,by omega,by go_num,rfl,by omega,by omega,exts,fun i hi=>?_⟩
     by_cases e:i=j
     ·subst e
      have:=Hrc.out (by omega)
      omega
     ·exact Hok.out i (by omega)
  ·obtain rfl:j=l.length:=by omega
   go_wp2_with fail
   go_ret
   exact ⟨r,rfl,exts,by omega,by omega,fun _=>⟨by omega,Hok.out⟩⟩
set_option maxRecDepth 100000 in
set_option maxHeartbeats 2000000 in
theorem laws_toClauseS (v:Value) (l:List Cls) (lo hi:Nat) (w:World) (h:Clss w lo hi v l) (hh:hi ≤ w.heap.size) (hsm:l.length ≤ 1048576) :
  Calls Tryz.prog 112 #[v] w (NewRow 8 l.length (clsCell l) w):=by
 obtain ⟨A,c,rfl,hn,hc⟩:=h.len
 have H:=qh h
 clear h
 go_enter Tryz.func112,Tryz.ntmps112
 go_wp2_with (at_make;refine wpList_make_blk _ rfl _ _ 98 rfl 191 8 72 Tryz.underlying98 (by kernel_rfl) l.length rfl rfl (by omega) (by unfold maxLen;omega) ?_;intro w0 f0 hx0 hb0)
 have Hb0:=qh hb0
 clear hb0
 go_wp2_with fail
 go_loopg [4] l.length (fun m i wr=>∃ (j:Nat) (f:Nat → Value),j+m=l.length∧i=.int .i64 j∧Ext w wr∧Blk wr w.heap.size (l.length * 8) f∧∀ i,i < j * 8 → f i=clsCell l i)
 case atStart=>exact ⟨0,f0,by omega,rfl,exts,Hb0.out,fun i hi=>absurd hi (by omega)⟩
 case round =>
  obtain ⟨j,f,hj,rfl,hx,hbl,hok⟩:=hrel
  have Hok:=qh hok
  clear hok
  have hbgr:=hbl.1
  by_cases hlt:j < l.length
  ·obtain ⟨b,off,rfl,_,hb,h1,h2,h3,h4,h5,h6,h7,h8⟩:=(H.out.ext hx hh).at_ hlt
   have hbw:b < wr.heap.size:=by have:=hx.size;omega
   go_wp2_with fail
   refine (laws_toClause _ _ _ _ _ _ _ _ wr).mono ?_
   rintro e w1 ⟨rfl,hx1⟩
   have hc0:=(hbl.ext hx1).2 (j * 8) (by omega)
   have hc0a:=hc0.1
   have hc0b:=hc0.2
   have hc1:=(hbl.ext hx1).2 (j * 8+1) (by omega)
   have hc1a:=hc1.1
   have hc1b:=hc1.2
   have hc2:=(hbl.ext hx1).2 (j * 8+2) (by omega)
   have hc2a:=hc2.1
   have hc2b:=hc2.2
   have hc3:=(hbl.ext hx1).2 (j * 8+3) (by omega)
   have hc3a:=hc3.1
   have hc3b:=hc3.2
   have hc4:=(hbl.ext hx1).2 (j * 8+4) (by omega)
   have hc4a:=hc4.1
   have hc4b:=hc4.2
   have hc5:=(hbl.ext hx1).2 (j * 8+5) (by omega)
   have hc5a:=hc5.1
   have hc5b:=hc5.2
   have hc6:=(hbl.ext hx1).2 (j * 8+6) (by omega)
   have hc6a:=hc6.1
   have hc6b:=hc6.2
   have hc7:=(hbl.ext hx1).2 (j * 8+7) (by omega)
   have hc7a:=hc7.1
   have hc7b:=hc7.2
   have Hbl:=qh (hbl.ext hx1)
   clear hbl
   have hbg:=Hbl.out.1
   go_wp2_with fail
   go_roundg (l.length - (j+1))
   case measure=>omega
   case rel =>
    refine ⟨j+1,_,by omega,by go_num,(by (repeat (with_reducible refine Ext.setCell ?_ (Nat.le_refl _) _));exact hx.trans hx1),((((((((Hbl.out.set (j * 8) (.int .i64 (clsAt l j).ki) (by omega)).set (j * 8+1) (.int .i64 (clsAt l j).nu) (by omega)).set (j * 8+2) (.int .i64 (clsAt l j).mo) (by omega)).set (j * 8+3) (.int .i64 (clsAt l j).fe) (by omega)).set (j * 8+4) (.int .i64 (clsAt l j).re) (by omega)).set (j * 8+5) (.int .i64 (clsAt l j).wd) (by omega)).set (j * 8+6) (.int .i64 (clsAt l j).st) (by omega)).set (j * 8+7) (.string (clsAt l j).kg) (by omega)),fun i hi=>?_⟩
    by_cases e7:i=j * 8+7
    ·subst e7;simp only [if_true];exact (clsCell_7 l j).symm
    rw [if_neg e7]
    by_cases e6:i=j * 8+6
    ·subst e6;simp only [if_true];exact (clsCell_6 l j).symm
    rw [if_neg e6]
    by_cases e5:i=j * 8+5
    ·subst e5;simp only [if_true];exact (clsCell_5 l j).symm
    rw [if_neg e5]
    by_cases e4:i=j * 8+4
    ·subst e4;simp only [if_true];exact (clsCell_4 l j).symm
    rw [if_neg e4]
    by_cases e3:i=j * 8+3
    ·subst e3;simp only [if_true];exact (clsCell_3 l j).symm
    rw [if_neg e3]
    by_cases e2:i=j * 8+2
    ·subst e2;simp only [if_true];exact (clsCell_2 l j).symm
    rw [if_neg e2]
    by_cases e1:i=j * 8+1
    ·subst e1;simp only [if_true];exact (clsCell_1 l j).symm
    rw [if_neg e1]
    by_cases e0:i=j * 8
    ·subst e0;simp only [if_true];exact (clsCell_0 l j).symm
    rw [if_neg e0]
    exact Hok.out i (by omega)
  ·obtain rfl:j=l.length:=by omega
   have Hbl:=qh hbl
   clear hbl
   go_wp2_with fail
   go_ret
   exact ⟨_,w.heap.size,rfl,exts,fun _=>Nat.le_refl _,Hbl.out.own (Nat.le_refl _) (by unfold maxLen;omega) (Nat.le_refl _) Hok.out⟩
set_option maxHeartbeats 2000000 in
theorem laws_eqClauseS (v v' : Value) (l:List Cls) (w:World) (h:Clss w 0 w.heap.size v l) (h' : Clss w 0 w.heap.size v' l) :
  Calls Tryz.prog 128 #[v,v'] w (RetX (.bool true) w):=by
 obtain ⟨A,c,rfl,hn,hc⟩:=h.len
 obtain ⟨A', c', rfl,_,hc'⟩:=h'.len
 have H:=qh h
 have H' := qh h'
 clear h h'
 go_enter Tryz.func128,Tryz.ntmps128
 go_wp2_with fail
 go_loopg [5] l.length (fun k i wr=>∃ j:Nat,j+k=l.length∧i=.int .i64 j∧Ext w wr)
 case atStart=>exact ⟨0,by omega,rfl,exts⟩
 case round =>
  obtain ⟨j,hj,rfl,hx⟩:=hrel
  by_cases hlt:j < l.length
  ·obtain ⟨b,off,rfl,_,hb,h1,h2,h3,h4,h5,h6,h7,h8⟩:=(H.out.ext hx (Nat.le_refl _)).at_ hlt
   obtain ⟨b', off', rfl,_,hb', h1', h2', h3', h4', h5', h6', h7', h8'⟩:=(H'.out.ext hx (Nat.le_refl _)).at_ hlt
   have hbr:b < wr.heap.size:=Nat.lt_of_lt_of_le hb hx.size
   have hbr' : b' < wr.heap.size:=Nat.lt_of_lt_of_le hb' hx.size
   go_wp2_with fail
   (refine wp_region_onto prog_mixed (by kernel_rfl) ?_;(repeat (go_big_quiet_step ((go_at_call 180;exact onto_callX (laws_eqClause _ _ _ _ _ _ _ _ _)))));refine onto_end ?_;intro w1 hx1)
   go_wp2_with fail
   go_roundg (l.length - (j+1))
   case measure=>omega
   case rel=>exact ⟨j+1,by omega,by go_num,exts⟩
  ·obtain rfl:j=l.length:=by omega
   go_wp2_with fail
   go_ret
   exact ⟨rfl,exts⟩
set_option maxHeartbeats 1000000 in
theorem laws_toWitness (pe:ByteArray) (of:ByteArray) (w:World):Calls Tryz.prog 165 #[.agg #[.string pe,.string of]] w (RetX (.agg #[.string pe,.string of]) w):=by
 go_enter Tryz.func165,Tryz.ntmps165
 go_wp2_with fail
 refine bodyPost_ret (v:=.agg #[.string pe,.string of]) (by simp [results,Tryz.results165,go_sem]) rfl ⟨rfl,exts⟩
set_option maxHeartbeats 1000000 in
theorem laws_eqWitness (pe:ByteArray) (of:ByteArray) (w:World):Calls Tryz.prog 181 #[.agg #[.string pe,.string of],.agg #[.string pe,.string of]] w (RetX (.bool true) w):=by
 have hs_pe:=str_same pe
 have hs_of:=str_same of
 go_enter Tryz.func181,Tryz.ntmps181
 go_wp2_with fail
 go_ret
 exact ⟨rfl,exts⟩
set_option maxHeartbeats 1000000 in
theorem laws_szWitness (pe:ByteArray) (of:ByteArray) (left:Int) (w:World) (hl:left ≤ 1048576) (h0:0 ≤ left) (hpe:pe.size ≤ 9223372036854775807) (hof:of.size ≤ 9223372036854775807):Calls Tryz.prog 153 #[.agg #[.string pe,.string of],.int .i64 left] w (SzPost left ((pe.size:Int) ≤ left∧(of.size:Int) ≤ left) w):=by
 have W0:IntKind.i64.wrap (left - (pe.size:Int))=left - (pe.size:Int):=IntWalk.i64_in _ (by omega)
 by_cases c0:left - (pe.size:Int) < 0
 case pos =>
  have d0:decide (left - (pe.size:Int) < 0)=true:=decide_eq_true c0
  go_enter Tryz.func153,Tryz.ntmps153
  go_wp2_with fail
  go_ret
  exact ⟨-1,rfl,exts,by omega,by omega,fun h=>absurd h (by omega)⟩
 have d0:decide (left - (pe.size:Int) < 0)=false:=decide_eq_false c0
 have W1:IntKind.i64.wrap (left - (pe.size:Int) - (of.size:Int))=left - (pe.size:Int) - (of.size:Int):=IntWalk.i64_in _ (by omega)
 by_cases c1:left - (pe.size:Int) - (of.size:Int) < 0
 case pos =>
  have d1:decide (left - (pe.size:Int) - (of.size:Int) < 0)=true:=decide_eq_true c1
  go_enter Tryz.func153,Tryz.ntmps153
  go_wp2_with fail
  go_ret
  exact ⟨-1,rfl,exts,by omega,by omega,fun h=>absurd h (by omega)⟩
 have d1:decide (left - (pe.size:Int) - (of.size:Int) < 0)=false:=decide_eq_false c1
 go_enter Tryz.func153,Tryz.ntmps153
 go_wp2_with fail
 go_ret
 exact ⟨left - (pe.size:Int) - (of.size:Int),rfl,exts,by omega,by omega,fun _=>by omega⟩
set_option maxRecDepth 100000 in
set_option maxHeartbeats 2000000 in
theorem laws_szWitnessS (v:Value) (l:List Wit) (left:Int) (w:World) (hl:left ≤ 1048576) (h0:0 ≤ left) (h:Wits w 0 w.heap.size v l) (hz:∀ i,i < l.length → (witAt l i).pe.size ≤ 9223372036854775807∧(witAt l i).of.size ≤ 9223372036854775807):Calls Tryz.prog 98 #[v,.int .i64 left] w (SzPost left ((l.length:Int) ≤ left∧∀ i,i < l.length → ((witAt l i).pe.size:Int) ≤ left∧((witAt l i).of.size:Int) ≤ left) w):=by
 obtain ⟨A,c,rfl,hn,hc⟩:=h.len
 have H:=qh h
 have Hz:=qh hz
 clear h hz
 have W0:IntKind.i64.wrap (left - (l.length:Int))=left - (l.length:Int):=IntWalk.i64_in _ (by omega)
 go_enter Tryz.func98,Tryz.ntmps98
 by_cases c0:left - (l.length:Int) < 0
 case pos =>
  have d0:decide (left - (l.length:Int) < 0)=true:=decide_eq_true c0
  go_wp2_with fail
  go_ret
  exact ⟨-1,rfl,exts,by omega,by omega,fun h=>absurd h (by omega)⟩
 have d0:decide (left - (l.length:Int) < 0)=false:=decide_eq_false c0
 go_wp2_with fail
 go_loopg [1,5] l.length (fun q t i wr=>∃ (j:Nat) (r:Int),j+q=l.length∧i=.int .i64 j∧t=.int .i64 r∧0 ≤ r∧r ≤ left - (l.length:Int)∧Ext w wr∧∀ i,i < j → ((witAt l i).pe.size:Int) ≤ left∧((witAt l i).of.size:Int) ≤ left)
 case atStart=>exact ⟨0,_,by omega,rfl,rfl,by omega,by omega,exts,fun i hi=>absurd hi (by omega)⟩
 case round =>
  obtain ⟨j,r,hj,rfl,rfl,hr0,hr1,hx,hok⟩:=hrel
  have Hok:=qh hok
  clear hok
  by_cases hlt:j < l.length
  ·obtain ⟨b,off,rfl,_,hb,h1,h2⟩:=(H.out.ext hx (Nat.le_refl _)).at_ hlt
   have hbr:b < wr.heap.size:=Nat.lt_of_lt_of_le hb hx.size
   have hsz:=Hz.out j hlt
   go_wp2_with fail
   refine Calls.mono (laws_szWitness _ _ r _ (by omega) hr0 hsz.1 hsz.2) ?_
   rintro e w1 ⟨r2,rfl,hx1,hra,hrb,hrc⟩
   have Hrc:=qh hrc
   clear hrc
   by_cases cj:r2 < 0
   ·have dj:decide (r2 < 0)=true:=decide_eq_true cj
    go_wp2_with fail
    go_ret
    exact ⟨-1,rfl,exts,by omega,by omega,fun h=>absurd h (by omega)⟩
   ·have dj:decide (r2 < 0)=false:=decide_eq_false cj
    go_wp2_with fail
    go_roundg (l.length - (j+1))
    case measure=>omega
    case rel =>
     refine ⟨j+1,r2,by omega,by go_num,rfl,by omega,by omega,exts,fun i hi=>?_⟩
     by_cases e:i=j
     ·subst e
      have:=Hrc.out (by omega)
      omega
     ·exact Hok.out i (by omega)
  ·obtain rfl:j=l.length:=by omega
   go_wp2_with fail
   go_ret
   exact ⟨r,rfl,exts,by omega,by omega,fun _=>⟨by omega,Hok.out⟩⟩
set_option maxRecDepth 100000 in
set_option maxHeartbeats 2000000 in
theorem laws_toWitnessS (v:Value) (l:List Wit) (lo hi:Nat) (w:World) (h:Wits w lo hi v l) (hh:hi ≤ w.heap.size) (hsm:l.length ≤ 1048576) :
  Calls Tryz.prog 113 #[v] w (NewRow 2 l.length (witCell l) w):=by
 obtain ⟨A,c,rfl,hn,hc⟩:=h.len
 have H:=qh h
 clear h
 go_enter Tryz.func113,Tryz.ntmps113
 go_wp2_with (at_make;refine wpList_make_blk _ rfl _ _ 99 rfl 170 2 32 Tryz.underlying99 (by kernel_rfl) l.length rfl rfl (by omega) (by unfold maxLen;omega) ?_;intro w0 f0 hx0 hb0)
 have Hb0:=qh hb0
 clear hb0
 go_wp2_with fail
 go_loopg [4] l.length (fun m i wr=>∃ (j:Nat) (f:Nat → Value),j+m=l.length∧i=.int .i64 j∧Ext w wr∧Blk wr w.heap.size (l.length * 2) f∧∀ i,i < j * 2 → f i=witCell l i)
 case atStart=>exact ⟨0,f0,by omega,rfl,exts,Hb0.out,fun i hi=>absurd hi (by omega)⟩
 case round =>
  obtain ⟨j,f,hj,rfl,hx,hbl,hok⟩:=hrel
  have Hok:=qh hok
  clear hok
  have hbgr:=hbl.1
  by_cases hlt:j < l.length
  ·obtain ⟨b,off,rfl,_,hb,h1,h2⟩:=(H.out.ext hx hh).at_ hlt
   have hbw:b < wr.heap.size:=by have:=hx.size;omega
   go_wp2_with fail
   refine (laws_toWitness _ _ wr).mono ?_
   rintro e w1 ⟨rfl,hx1⟩
   have hc0:=(hbl.ext hx1).2 (j * 2) (by omega)
   have hc0a:=hc0.1
   have hc0b:=hc0.2
   have hc1:=(hbl.ext hx1).2 (j * 2+1) (by omega)
   have hc1a:=hc1.1
   have hc1b:=hc1.2
   have Hbl:=qh (hbl.ext hx1)
   clear hbl
   have hbg:=Hbl.out.1
   go_wp2_with fail
   go_roundg (l.length - (j+1))
   case measure=>omega
   case rel =>
    refine ⟨j+1,_,by omega,by go_num,exts,((Hbl.out.set (j * 2) (.string (witAt l j).pe) (by omega)).set (j * 2+1) (.string (witAt l j).of) (by omega)),fun i hi=>?_⟩
    by_cases e1:i=j * 2+1
    ·subst e1;simp only [if_true];exact (witCell_1 l j).symm
    rw [if_neg e1]
    by_cases e0:i=j * 2
    ·subst e0;simp only [if_true];exact (witCell_0 l j).symm
    rw [if_neg e0]
    exact Hok.out i (by omega)
  ·obtain rfl:j=l.length:=by omega
   have Hbl:=qh hbl
   clear hbl
   go_wp2_with fail
   go_ret
   exact ⟨_,w.heap.size,rfl,exts,fun _=>Nat.le_refl _,Hbl.out.own (Nat.le_refl _) (by unfold maxLen;omega) (Nat.le_refl _) Hok.out⟩
set_option maxHeartbeats 2000000 in
theorem laws_eqWitnessS (v v' : Value) (l:List Wit) (w:World) (h:Wits w 0 w.heap.size v l) (h' : Wits w 0 w.heap.size v' l) :
  Calls Tryz.prog 129 #[v,v'] w (RetX (.bool true) w):=by
 obtain ⟨A,c,rfl,hn,hc⟩:=h.len
 obtain ⟨A', c', rfl,_,hc'⟩:=h'.len
 have H:=qh h
 have H' := qh h'
 clear h h'
 go_enter Tryz.func129,Tryz.ntmps129
 go_wp2_with fail
 go_loopg [5] l.length (fun k i wr=>∃ j:Nat,j+k=l.length∧i=.int .i64 j∧Ext w wr)
 case atStart=>exact ⟨0,by omega,rfl,exts⟩
 case round =>
  obtain ⟨j,hj,rfl,hx⟩:=hrel
  by_cases hlt:j < l.length
  ·obtain ⟨b,off,rfl,_,hb,h1,h2⟩:=(H.out.ext hx (Nat.le_refl _)).at_ hlt
   obtain ⟨b', off', rfl,_,hb', h1', h2'⟩:=(H'.out.ext hx (Nat.le_refl _)).at_ hlt
   have hbr:b < wr.heap.size:=Nat.lt_of_lt_of_le hb hx.size
   have hbr' : b' < wr.heap.size:=Nat.lt_of_lt_of_le hb' hx.size
   go_wp2_with fail
   (refine wp_region_onto prog_mixed (by kernel_rfl) ?_;(repeat (go_big_quiet_step ((go_at_call 181;exact onto_callX (laws_eqWitness _ _ _)))));refine onto_end ?_;intro w1 hx1)
   go_wp2_with fail
   go_roundg (l.length - (j+1))
   case measure=>omega
   case rel=>exact ⟨j+1,by omega,by go_num,exts⟩
  ·obtain rfl:j=l.length:=by omega
   go_wp2_with fail
   go_ret
   exact ⟨rfl,exts⟩
end Go.Proofs.YtechbeegbhlppaaGreatDoor
