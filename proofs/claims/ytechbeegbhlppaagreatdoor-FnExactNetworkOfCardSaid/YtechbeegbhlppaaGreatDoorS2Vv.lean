/- Texts merged (a claim holds at most sixty files): Vv, Vw, Vy, Wc. -/
import Derived.Test.YtechbeegbhlppaaGreatDoorS2Vj
import Derived.Test.YtechbeegbhlppaaGreatDoorS2Ka
import Derived.Test.YtechbeegbhlppaaGreatDoorS2Lib
import Derived.Test.YtechbeegbhlppaaGreatDoorS2Mk
import Derived.Test.YtechbeegbhlppaaGreatDoorS2Wa
namespace Go.Proofs.YtechbeegbhlppaaGreatDoor
set_option linter.unusedVariables false
set_option linter.unusedSimpArgs false
open Go.RowKit
attribute [local go_sem] cell_onto
theorem spec_l11Holds_q {v:Value} {l:List Nsp} {c:Cls} {n:Int} {b:Bool} (hb:B (Hold l c n)=b) (hc:ClsOk c) (h:0 ≤ n∧n ≤ 730499) (w:World) (hv:Nsps w 0 w.heap.size v l) (hr:∀ i,i < l.length → 0 ≤ (nspAt l i).fr∧(nspAt l i).fr ≤ 730499) :
  Calls Tryz.prog 204 #[v,.agg #[.int .i64 c.ki,.int .i64 c.nu,.int .i64 c.mo,.int .i64 c.fe,.int .i64 c.re,.int .i64 c.wd,.int .i64 c.st,.string c.kg],.int .i64 n] w (RetX (.bool b) w):=by
 subst hb;exact spec_l11Holds v l c n hc h w hv hr
set_option maxRecDepth 100000 in
set_option maxHeartbeats 4000000 in
theorem spec_l12Fits (v u:Value) (l:List Nsp) (cs:List Cls) (fr t n:Int) (hcs:∀ i,i < cs.length → ClsOk (clsAt cs i)) (h:0 ≤ n∧n ≤ 730499) (w:World) (hv:Nsps w 0 w.heap.size v l) (hu:Clss w 0 w.heap.size u cs) (hr:∀ i,i < l.length → 0 ≤ (nspAt l i).fr∧(nspAt l i).fr ≤ 730499) :
  Calls Tryz.prog 154 #[.agg #[v,.int .i64 fr,.int .i64 t],u,.int .i64 n] w (RetX (.bool (B (Fits l cs n))) w):=by
 obtain ⟨A,c,rfl,hnl,hcl⟩:=hv.len
 obtain ⟨A2,c2,rfl,hnl2,hcl2⟩:=hu.len
 have Hn:=qh h
 have Hv:=qh hv
 have Hu:=qh hu
 have Hr:=qh hr
 have Hcs:=qh hcs
 have Hb:=qh (Boxed.new w [.slice A l.length c,.int .i64 fr,.int .i64 t] 45)
 clear h hv hu hr hcs
 go_enter Tryz.func154,Tryz.ntmps154
 go_wp2_with fail
 go_loopg [7] cs.length (fun k a wr=>∃ j:Nat,j+k=cs.length∧a=.int .i64 j∧(∀ z,z < j → Hold l (clsAt cs z) n)∧Ext w wr∧Boxed wr w.heap.size [.slice A l.length c,.int .i64 fr,.int .i64 t])
 case atStart=>exact ⟨0,by omega,rfl,fun z hz=>absurd hz (by omega),exts,Hb.out⟩
 case round =>
  obtain ⟨j,hj,rfl,hno,hx,hb1⟩:=hrel
  have Hno:=qh hno
  have Hb1:=qh hb1
  have k0:=hb1.at0
  have z1:=hb1.1
  have hj0:(0:Int) ≤ (j:Int):=by omega
  clear hno hb1
  by_cases hlt:j < cs.length
  ·have hji:(j:Int) < (cs.length:Int):=by omega
   obtain ⟨b,off,rfl,_,hb,h0,h1,h2,h3,h4,h5,h6,h7⟩:=(Hu.out.ext hx (Nat.le_refl _)).at_ hlt
   have hbr:b < wr.heap.size:=Nat.lt_of_lt_of_le hb hx.size
   obtain ⟨q,eq⟩:∃ q,B (Hold l (clsAt cs j) n)=q:=⟨_,rfl⟩
   have Q:=qh eq
   clear eq
   cases q
   ·have R:=qh (B_false (fun (hh:Fits l cs n)=>B_not.1 Q.out (hh j hlt)))
    go_wp2_with fail
    (refine wp_region_onto prog_mixed (by kernel_rfl) ?_;(repeat (go_big_quiet_step (((go_at_call 204;with_reducible exact onto_callX (spec_l11Holds_q Q.out (Hcs.out j hlt) Hn.out _ (Hv.out.up (hx.trans (onto_ext _ _))) Hr.out))))));refine onto_end ?_;intro w2 hx2)
    go_wp2_with fail
    go_ret
    exact ⟨ret_bool (by rw [R.out]),exts⟩
   ·go_wp2_with fail
    (refine wp_region_onto prog_mixed (by kernel_rfl) ?_;(repeat (go_big_quiet_step (((go_at_call 204;with_reducible exact onto_callX (spec_l11Holds_q Q.out (Hcs.out j hlt) Hn.out _ (Hv.out.up (hx.trans (onto_ext _ _))) Hr.out))))));refine onto_end ?_;intro w2 hx2)
    go_wp2_with fail
    go_roundg (cs.length - (j+1))
    case measure=>omega
    case rel =>
     refine ⟨j+1,by omega,by go_num,fun z hz=>?_,hx.trans hx2,Hb1.out.ext hx2⟩
     by_cases e:z=j
     ·rw [e];exact B_iff.1 Q.out
     ·exact Hno.out z (by omega)
  ·have hji:¬ (j:Int) < (cs.length:Int):=by omega
   have R:=qh (B_true (show Fits l cs n from fun z hz=>Hno.out z (by omega)))
   go_wp2_with fail
   go_ret
   exact ⟨ret_bool (by rw [R.out]),exts⟩
set_option maxRecDepth 100000 in
set_option maxHeartbeats 2000000 in
theorem impl_fitting_c (v:Value) (l:List Nsp) (c:Cls) (n:Int) (hc:ClsOk c) (h:0 ≤ n∧n ≤ 730499) (g1 g2:Nat) (w:World) (hv:Nsps w 0 w.heap.size v l) (hr:∀ i,i < l.length → 0 ≤ (nspAt l i).fr∧(nspAt l i).fr ≤ 730499)
  (h1:g1 < w.heap.size) (h2:g2 < w.heap.size) (c1:w.cell? ⟨g1,0,none⟩=some v) (c2:w.cell? ⟨g2,0,none⟩=some (.int .i64 n)) :
  Calls Tryz.prog 169 #[.agg #[.int .i64 c.ki,.int .i64 c.nu,.int .i64 c.mo,.int .i64 c.fe,.int .i64 c.re,.int .i64 c.wd,.int .i64 c.st,.string c.kg],.pointer (some ⟨g1,0,none⟩),.pointer (some ⟨g2,0,none⟩)] w (RetX (.bool (B (¬ Hold l c n))) w):=by
 obtain ⟨A,cc,rfl,hnl,hcl⟩:=hv.len
 obtain ⟨q,eq⟩:∃ q,B (Hold l c n)=q:=⟨_,rfl⟩
 have E:Hid (B (¬ Hold l c n)=!q):=qh (by cases q with | true=>exact B_false (fun hh=>hh (B_iff.1 eq)) | false=>exact B_true (B_not.1 eq))
 have Q:=qh eq
 have Hv:=qh hv
 have Hr:=qh hr
 have Hn:=qh h
 have Hc:=qh hc
 have hs1:g1 < w.heap.size+1:=by omega
 have hs2:g2 < w.heap.size+1:=by omega
 rw [E.out]
 clear eq hv hr h hc
 cases q
 all_goals
  go_enter Tryz.func169,Tryz.ntmps169
  go_wp2_with fail
  refine Calls.mono (impl_holds _ l c n Hc.out Hn.out _ (Hv.out.up exts) Hr.out) ?_
  rintro e w1 ⟨rfl,hx1⟩
  rw [Q.out]
  go_wp2_with fail
  go_ret
  exact ⟨rfl,exts⟩
set_option maxRecDepth 100000 in
set_option maxHeartbeats 2000000 in
theorem impl_fitting_f (v u:Value) (l:List Nsp) (cs:List Cls) (n:Int) (hcs:∀ i,i < cs.length → ClsOk (clsAt cs i)) (h:0 ≤ n∧n ≤ 730499) (g1 g3:Nat) (w:World) (hv:Nsps w 0 w.heap.size v l) (hu:Clss w 0 w.heap.size u cs) (hr:∀ i,i < l.length → 0 ≤ (nspAt l i).fr∧(nspAt l i).fr ≤ 730499)
  (h1:g1 < w.heap.size) (h3:g3 < w.heap.size) (c1:w.cell? ⟨g1,0,none⟩=some v) (c3:w.cell? ⟨g3,0,none⟩=some u) :
  Calls Tryz.prog 167 #[.int .i64 n,.pointer (some ⟨g3,0,none⟩),.pointer (some ⟨g1,0,none⟩)] w (RetX (.bool (B (Fits l cs n))) w):=by
 obtain ⟨A2,c2,rfl,hnl2,hcl2⟩:=hu.len
 obtain ⟨q,eq⟩:∃ q,B (0 ≤ fstIx (fun i=>¬ Hold l (clsAt cs i) n) cs.length)=q:=⟨_,rfl⟩
 have E:Hid (B (Fits l cs n)=!q):=qh (by
  cases q with
  | true =>
   obtain ⟨i,hi,hp⟩:=(fst_ex _ _).1 (B_iff.1 eq)
   exact B_false (fun hh=>hp (hh i hi))
  | false=>exact B_true (fun i hi=>Classical.byContradiction (fun hp=>B_not.1 eq ((fst_ex _ _).2 ⟨i,hi,hp⟩))))
 have Q:=qh eq
 have Hv:=qh hv
 have Hu:=qh hu
 have Hn:=qh h
 have hs1:g1 < w.heap.size+1:=by omega
 have hs3:g3 < w.heap.size+1:=by omega
 have HX:=qh (fun (i:Nat) (hi:i < cs.length) (w' : World) (hx:Ext (w.alloc (.cells #[.int .i64 n] 2)) w')=>show Calls Tryz.prog 169 (#[.agg #[.int .i64 (clsAt cs i).ki,.int .i64 (clsAt cs i).nu,.int .i64 (clsAt cs i).mo,.int .i64 (clsAt cs i).fe,.int .i64 (clsAt cs i).re,.int .i64 (clsAt cs i).wd,.int .i64 (clsAt cs i).st,.string (clsAt cs i).kg]] ++ #[.pointer (some ⟨g1,0,none⟩),.pointer (some ⟨w.heap.size,0,none⟩)]) w' (RetX (.bool (B (¬ Hold l (clsAt cs i) n))) w') from by
  have hx0:Ext w w' := Ext.trans exts hx
  have hb:=(Boxed.new w [.int .i64 n] 2).ext hx
  exact impl_fitting_c v l (clsAt cs i) n (hcs i hi) h g1 w.heap.size w' (hv.up hx0) hr (Nat.lt_of_lt_of_le h1 hx0.size) hb.1 ((hx0.cell (p:=⟨g1,0,none⟩) h1).trans c1) hb.at0)
 rw [E.out]
 clear eq hv hu h hr hcs
 cases q
 all_goals
  go_enter Tryz.func167,Tryz.ntmps167
  go_wp2_with fail
  refine Calls.mono (containsFunc_clauses _ cs 169 _ (fun i=>¬ Hold l (clsAt cs i) n) _ (Hu.out.up exts) Tryz.call169 (fun i w' hi hx=>HX.out i hi w' hx)) ?_
  rintro e w1 ⟨rfl,hx1⟩
  rw [Q.out]
  go_wp2_with fail
  go_ret
  exact ⟨rfl,exts⟩
theorem rowSp0 (w:World) (T:TypeId):RowSp (w.alloc (.cells #[] T)) w.heap.size T (.slice (some ⟨w.heap.size,0,none⟩) 0 0) []:=by
 have:=World.ownsRow_made (base:=w.heap.size) (e:=T) (size:=2) w #[] 0 (by simp) (Nat.zero_le _) rfl
 unfold RowSp
 simpa [cellsOf] using this
theorem rowSp1 (w:World) (T:TypeId) (a b:Int):RowSp (w.alloc (.cells #[.int .i64 a,.int .i64 b] T)) w.heap.size T (.slice (some ⟨w.heap.size,0,none⟩) 1 1) (oneS a b) :=
 ⟨rfl,.inr ⟨w.heap.size,1,#[.int .i64 a,.int .i64 b],rfl,Nat.le_refl _,heap_alloc_new w _,Nat.le_refl _,by decide,rfl,by simp [cellsOf,oneS,spanCell,spAt,List.range_succ]⟩⟩
theorem RowSp.read {w:World} {base:Nat} {T:TypeId} {v:Value} {l:List Sp} (h:RowSp w base T v l):Spans w 0 w.heap.size v l:=by
 obtain ⟨g,h1,h2⟩:=Own.of_owned h
 exact h2.row (fun h0=>⟨Nat.zero_le _,h2.lt h0⟩)
theorem dsTo_bd (p:Int → Prop) (fr:Int) (j:Nat):∀ i,i < (dsTo p fr j).length → fr ≤ (spAt (dsTo p fr j) i).fr∧(spAt (dsTo p fr j) i).to < fr+j:=fun i hi=>by
 obtain ⟨h1,h2⟩:=dsTo_ok p fr j
 have h3:=(h1 i hi).1
 have a:=(h2 _).1 ⟨i,hi,Int.le_refl _,h3⟩
 have b:=(h2 _).1 ⟨i,hi,h3,Int.le_refl _⟩
 exact ⟨a.1,b.2.1⟩
theorem ds_succ (p:Int → Prop) (fr:Int) (j:Nat):dsTo p fr (j+1)=dsAdd p (dsTo p fr j) (fr+j):=rfl
theorem spec_l12Fits_q {l:List Nsp} {cs:List Cls} {n:Int} {b:Bool} (hb:B (Fits l cs n)=b) (v u:Value) (fr t:Int) (hcs:∀ i,i < cs.length → ClsOk (clsAt cs i)) (h:0 ≤ n∧n ≤ 730499) (w:World) (hv:Nsps w 0 w.heap.size v l) (hu:Clss w 0 w.heap.size u cs) (hr:∀ i,i < l.length → 0 ≤ (nspAt l i).fr∧(nspAt l i).fr ≤ 730499) :
  Calls Tryz.prog 154 #[.agg #[v,.int .i64 fr,.int .i64 t],u,.int .i64 n] w (RetX (.bool b) w):=by
 subst hb;exact spec_l12Fits v u l cs fr t n hcs h w hv hu hr
set_option maxRecDepth 100000 in
set_option maxHeartbeats 8000000 in
theorem spec_l12Set (v u:Value) (l:List Nsp) (cs:List Cls) (fr to:Int) (hcs:∀ i,i < cs.length → ClsOk (clsAt cs i)) (hf:0 ≤ fr) (ht:to ≤ 730499) (hft:fr ≤ to) (w:World) (hv:Nsps w 0 w.heap.size v l) (hu:Clss w 0 w.heap.size u cs) (hr:∀ i,i < l.length → 0 ≤ (nspAt l i).fr∧(nspAt l i).fr ≤ 730499) :
  Calls Tryz.prog 99 #[.agg #[v,.int .i64 fr,.int .i64 to],u] w (NewOwn 111 2 (dsTo (Fits l cs) fr ((to - fr).toNat+1)).length (spanCell (dsTo (Fits l cs) fr ((to - fr).toNat+1))) w):=by
 obtain ⟨A,c,rfl,hnl,hcl⟩:=hv.len
 obtain ⟨A2,c2,rfl,hnl2,hcl2⟩:=hu.len
 obtain ⟨N,hN⟩:∃ N,(to - fr).toNat+1=N:=⟨_,rfl⟩
 have Hv:=qh hv
 have Hu:=qh hu
 have Hr:=qh hr
 have Hcs:=qh hcs
 have hto1:to < fr+N:=by omega
 have hto2:fr+N ≤ to+1:=by omega
 have Hb:=qh (Boxed.new w [.slice A l.length c,.int .i64 fr,.int .i64 to] 45)
 rw [hN]
 clear hv hu hr hcs hN
 obtain ⟨p,hp⟩:∃ p,p=Fits l cs:=⟨_,rfl⟩
 have Hp:=qh hp
 rw [← hp]
 clear hp
 go_enter Tryz.func99,Tryz.ntmps99
 go_wp2_with fail
 go_loopg [5,6,7] N (fun q u5 u6 u7 wq=>∃ (j n:Nat),j+q=N∧u6=.int .i64 (fr+j)∧Ext (w.alloc (.cells #[.slice A l.length c,.int .i64 fr,.int .i64 to] 45)) wq∧Hid (RowSp wq (w.heap.size+1) 111 u5 (dsTo p fr j))∧Hid ((dsTo p fr j).length=n)∧∃ A c,u5=.slice A n c)
 case atStart =>
  refine ⟨0,0,by omega,by simp,(Ext.refl _).alloc _,qh ?_,qh rfl,_,_,rfl⟩
  have:=rowSp0 (w.alloc (.cells #[.slice A l.length c,.int .i64 fr,.int .i64 to] 45)) 111
  rw [World.size_alloc] at this
  exact this
 case round =>
  obtain ⟨j,n,hj,rfl,hx,HrO,HOl,A5,c5,rfl⟩:=hrel
  have hnj:n ≤ j:=by rw [← HOl.out];exact dsTo_len p fr j
  have Hstep:=qh (ds_succ p fr j)
  have Hbd:=qh (dsTo_bd p fr j)
  have hb1:=Hb.out.ext hx
  have k0:=hb1.at0
  have k1:=hb1.at1
  have k2:=hb1.at2
  have hbg:=hb1.1
  have hsz:=hx.size
  rw [World.size_alloc] at hsz
  clear hb1
  obtain ⟨d,hd⟩:∃ d,fr+(j:Int)=d:=⟨_,rfl⟩
  rw [hd] at Hstep ⊢
  have Hd:=qh hd
  have HX:=qh (show Ext w wr from exts)
  have Hx:=qh hx
  clear hx
  by_cases hlt:j < N
  ·have hdi:d ≤ to:=by omega
   have hd0:0 ≤ d:=by omega
   have T0:decide (d ≤ to)=true:=decide_eq_true hdi
   obtain ⟨q,eq⟩:∃ q,B (p d)=q:=⟨_,rfl⟩
   have Q:=qh eq
   have Qf:=qh (show B (Fits l cs d)=q from by rw [← Hp.out];exact eq)
   clear eq
   cases q
   ·have Hj:Hid (dsTo p fr (j+1)=dsTo p fr j):=qh (by rw [Hstep.out];exact dsAdd_no (B_not.1 Q.out))
    go_wp2_with fail
    refine Calls.mono (spec_l12Fits_q Qf.out _ _ fr to Hcs.out ⟨hd0,by omega⟩ _ (Hv.out.up HX.out) (Hu.out.up HX.out) Hr.out) ?_
    rintro e w1 ⟨rfl,hx1⟩
    go_wp2_with fail
    go_roundg (N - (j+1))
    case measure=>omega
    case rel =>
     have hx2:Ext wr w1:=exts
     exact ⟨j+1,n,by omega,by rw [← Hd.out];go_num,Hx.out.trans hx2,by rw [Hj.out];exact qh (HrO.out.ext hx2),by rw [Hj.out];exact HOl,_,_,rfl⟩
   ·go_wp2_with fail
    refine Calls.mono (spec_l12Fits_q Qf.out _ _ fr to Hcs.out ⟨hd0,by omega⟩ _ (Hv.out.up HX.out) (Hu.out.up HX.out) Hr.out) ?_
    rintro e w1 ⟨rfl,hx1⟩
    have hx2:Ext wr w1:=exts
    have HrO1:=qh (HrO.out.ext hx2)
    have Hx1:=qh (Hx.out.trans hx2)
    have hsz1:=hx2.size
    clear HrO hx1
    by_cases hc:0 < n∧(spAt (dsTo p fr j) (n - 1)).to=d - 1
    ·obtain ⟨hpos,hto1⟩:=hc
     have Hj:Hid (dsTo p fr (j+1)=(dsTo p fr j).set (n - 1) ⟨(spAt (dsTo p fr j) (n - 1)).fr,d⟩):=qh (by
      rw [Hstep.out,dsAdd_on (B_iff.1 Q.out) (by rw [HOl.out];exact hpos) (by rw [HOl.out];exact hto1),HOl.out])
     obtain ⟨g7,cap7,e,hg7,hg7z,hcap7,hcO⟩:=HrO1.out.cells (by rw [HOl.out];exact hpos)
     rw [HOl.out] at e hcO
     injection e with e1 e2 e3
     subst e1 e3
     obtain ⟨o1,o2,o3,o4⟩:=hcO (n - 1) (by omega)
     rw [hto1] at o2
     have Hset:Hid (RowSp (w1.setCell ⟨g7,(n - 1) * 2+1,none⟩ (.int .i64 d)) (w.heap.size+1) 111 (.slice (some ⟨g7,0,none⟩) n c5) (dsTo p fr (j+1))):=qh (by
      have hr:=HrO1.out
      rw [← HOl.out] at hr
      have:=RowSp.setTo hr (k:=(dsTo p fr j).length - 1) (by rw [HOl.out];omega) d
      rw [List.length_set,HOl.out] at this
      rw [Hj.out];exact this)
     have HOl2:Hid ((dsTo p fr (j+1)).length=n):=qh (by rw [Hj.out,List.length_set];exact HOl.out)
     clear hcO hto1
     have T1:decide ((0:Int) ≤ (n:Int) - 1)=true:=decide_eq_true (by omega)
     have T1a:decide ((1:Int) ≤ (n:Int))=true:=decide_eq_true (by omega)
     have T1b:decide (1 ≤ n)=true:=decide_eq_true (by omega)
     have T1c:decide (0 < n)=true:=decide_eq_true (by omega)
     have T1d:decide ((0:Int) < (n:Int))=true:=decide_eq_true (by omega)
     have h1n:1 ≤ n:=hpos
     have i1:(0:Int) ≤ (n:Int) - 1:=by omega
     have i2:(n:Int) - 1 < (n:Int):=by omega
     have i3:((n:Int) - 1).toNat=n - 1:=by omega
     go_wp2_with fail
     go_roundg (N - (j+1))
     case measure=>omega
     case rel=>exact ⟨j+1,n,by omega,by rw [← Hd.out];go_num,Hx1.out.setCell (by rw [World.size_alloc];exact hg7) _,Hset,HOl2,_,_,rfl⟩
    ·have Hj:Hid (dsTo p fr (j+1)=dsTo p fr j ++ [⟨d,d⟩]):=qh (by
      rw [Hstep.out,dsAdd_new (B_iff.1 Q.out) (by rw [HOl.out];exact hc)])
     have HOl2:Hid ((dsTo p fr (j+1)).length=n+1):=qh (by rw [Hj.out,List.length_append,HOl.out];rfl)
     have Hsrc:Hid (Row (w1.alloc (.cells #[.int .i64 d,.int .i64 d] 111)) 0 (w1.alloc (.cells #[.int .i64 d,.int .i64 d] 111)).heap.size 2 (.slice (some ⟨w1.heap.size,0,none⟩) 1 1) 1 (spanCell [⟨d,d⟩])):=qh ((Boxed.new w1 [.int .i64 d,.int .i64 d] 111).row rfl (span_cells _ _))
     have hsl:=HOl.out
     have Hsz:=qh (show w.heap.size+1 ≤ w1.heap.size by omega)
     by_cases hpos:0 < n
     case' pos =>
      have hne:(spAt (dsTo p fr j) (n - 1)).to ≠ d - 1:=fun hh=>hc ⟨hpos,hh⟩
      obtain ⟨g7,cap7,e,hg7,hg7z,hcap7,hcO⟩:=HrO1.out.cells (by rw [HOl.out];exact hpos)
      rw [HOl.out] at e hcO
      injection e with e1 e2 e3
      subst e1 e3
      obtain ⟨o1,o2, -, -⟩:=hcO (n - 1) (by omega)
      have T1:decide ((0:Int) ≤ (n:Int) - 1)=true:=decide_eq_true (by omega)
      have T1a:decide ((1:Int) ≤ (n:Int))=true:=decide_eq_true (by omega)
      have T1b:decide (1 ≤ n)=true:=decide_eq_true (by omega)
      have T1c:decide (0 < n)=true:=decide_eq_true (by omega)
      have T1d:decide ((0:Int) < (n:Int))=true:=decide_eq_true (by omega)
      have h1n:1 ≤ n:=hpos
      have i1:(0:Int) ≤ (n:Int) - 1:=by omega
      have i2:(n:Int) - 1 < (n:Int):=by omega
      have i3:((n:Int) - 1).toNat=n - 1:=by omega
      have T3:decide ((spAt (dsTo p fr j) (n - 1)).to=d - 1)=false:=decide_eq_false hne
      have T3b:((spAt (dsTo p fr j) (n - 1)).to == d - 1)=false:=beq_eq_false_iff_ne.2 hne
      clear hcO hne e2
     case' neg =>
      obtain rfl:n=0:=by omega
      clear hpos
     all_goals
      clear hc
      generalize dsTo p fr j=O at *
      go_wp2_with (at_builtin;refine wpList_append_row _ rfl _ _ 40 rfl (w.heap.size+1) 111 2 16 Tryz.underlying40 (by kernel_rfl) (by omega) _ O.length 1 _ rfl (.inl (row_ext HrO1.out exts)) (.inr (by omega)) 0 _ _ (spanCell [⟨d,d⟩]) rfl Hsrc.out (fun i _=>spanCell_one _ i) (by rw [hsl];unfold maxLen;omega) (by rw [hsl];omega) (by have:=Hsz.out;simp;omega) ?_;intro v5 w5 hown5 hput5;have Hrow5:=qh (RowSp.push hown5);have Hx5:=qh (hput5.ext (show Ext (w.alloc (.cells #[.slice A l.length c,.int .i64 fr,.int .i64 to] 45)) (w1.alloc (.cells #[.int .i64 d,.int .i64 d] 111)) from Hx1.out.trans exts) (by rw [World.size_alloc];omega));obtain ⟨A6,c6,rfl⟩:=ownsRow_len hown5;clear hown5 hput5)
      rw [hsl] at Hrow5
      go_roundg (N - (j+1))
      case measure=>omega
      case rel=>exact ⟨j+1,_,by omega,by rw [← Hd.out];go_num,Hx5.out,qh (by rw [Hj.out];exact Hrow5.out),HOl2,_,_,rfl⟩
  ·have hdi:¬ d ≤ to:=by omega
   have T0:decide (d ≤ to)=false:=decide_eq_false hdi
   obtain rfl:j=N:=by omega
   go_wp2_with fail
   go_ret
   refine ⟨_,rfl,HX.out,?_⟩
   rw [HOl.out]
   have h:=ownsRow_mono HrO.out (Nat.le_succ w.heap.size)
   rwa [HOl.out] at h
set_option maxRecDepth 100000 in
set_option maxHeartbeats 8000000 in
theorem impl_daysFor (fr to:Int) (g:Nat) (caps:Array Value) (p:Int → Prop) (w:World) (hf:0 ≤ fr) (ht:to ≤ 730499) (hft:fr ≤ to)
  (hg:∀ (args:Array Value) (w:World),(callFunc g args).run Tryz.prog w=.ok (.enter g args) w)
  (hc:∀ (n:Int) (w' : World),0 ≤ n∧n ≤ 730499 → Ext w w' → Calls Tryz.prog g (#[.int .i64 n] ++ caps) w' (RetX (.bool (B (p n))) w')) :
  Calls Tryz.prog 166 #[.int .i64 fr,.int .i64 to,.func (.func g) #[] caps] w (NewOwn 111 2 (dsTo p fr ((to - fr).toNat+1)).length (spanCell (dsTo p fr ((to - fr).toNat+1))) w):=by
 obtain ⟨N,hN⟩:∃ N,(to - fr).toNat+1=N:=⟨_,rfl⟩
 have Hc:=qh hc
 have hto1:to < fr+N:=by omega
 have hto2:fr+N ≤ to+1:=by omega
 rw [hN]
 clear hc hN
 go_enter Tryz.func166,Tryz.ntmps166
 go_wp2_with fail
 go_loopg [7,8,9] N (fun q u5 u6 u7 wq=>∃ (j n:Nat),j+q=N∧u6=.int .i64 (fr+j)∧Ext w wq∧Hid (RowSp wq w.heap.size 111 u5 (dsTo p fr j))∧Hid ((dsTo p fr j).length=n)∧∃ A c,u5=.slice A n c)
 case atStart =>
  refine ⟨0,0,by omega,by simp,exts,qh ?_,qh rfl,_,_,rfl⟩
  exact rowSp0 w 111
 case round =>
  obtain ⟨j,n,hj,rfl,hx,HrO,HOl,A5,c5,rfl⟩:=hrel
  have hnj:n ≤ j:=by rw [← HOl.out];exact dsTo_len p fr j
  have Hstep:=qh (ds_succ p fr j)
  have Hbd:=qh (dsTo_bd p fr j)
  have hsz:=hx.size
  obtain ⟨d,hd⟩:∃ d,fr+(j:Int)=d:=⟨_,rfl⟩
  rw [hd] at Hstep ⊢
  have Hd:=qh hd
  have HX:=qh hx
  have Hx:=qh hx
  clear hx
  by_cases hlt:j < N
  ·have hdi:d ≤ to:=by omega
   have hd0:0 ≤ d:=by omega
   have T0:decide (d ≤ to)=true:=decide_eq_true hdi
   obtain ⟨q,eq⟩:∃ q,B (p d)=q:=⟨_,rfl⟩
   have Q:=qh eq
   clear eq
   cases q
   ·have Hj:Hid (dsTo p fr (j+1)=dsTo p fr j):=qh (by rw [Hstep.out];exact dsAdd_no (B_not.1 Q.out))
    go_wp2_with fail
    refine (Hc.out d wr ⟨hd0,by omega⟩ HX.out).mono ?_
    rintro e w1 ⟨rfl,hx1⟩
    rw [Q.out]
    go_wp2_with fail
    go_roundg (N - (j+1))
    case measure=>omega
    case rel =>
     have hx2:Ext wr w1:=exts
     exact ⟨j+1,n,by omega,by rw [← Hd.out];go_num,Hx.out.trans hx2,by rw [Hj.out];exact qh (HrO.out.ext hx2),by rw [Hj.out];exact HOl,_,_,rfl⟩
   ·go_wp2_with fail
    refine (Hc.out d wr ⟨hd0,by omega⟩ HX.out).mono ?_
    rintro e w1 ⟨rfl,hx1⟩
    rw [Q.out]
    have hx2:Ext wr w1:=exts
    have HrO1:=qh (HrO.out.ext hx2)
    have Hx1:=qh (Hx.out.trans hx2)
    have hsz1:=hx2.size
    clear HrO hx1
    by_cases hc:0 < n∧(spAt (dsTo p fr j) (n - 1)).to=d - 1
    ·obtain ⟨hpos,hto1⟩:=hc
     have Hj:Hid (dsTo p fr (j+1)=(dsTo p fr j).set (n - 1) ⟨(spAt (dsTo p fr j) (n - 1)).fr,d⟩):=qh (by
      rw [Hstep.out,dsAdd_on (B_iff.1 Q.out) (by rw [HOl.out];exact hpos) (by rw [HOl.out];exact hto1),HOl.out])
     obtain ⟨g7,cap7,e,hg7,hg7z,hcap7,hcO⟩:=HrO1.out.cells (by rw [HOl.out];exact hpos)
     rw [HOl.out] at e hcO
     injection e with e1 e2 e3
     subst e1 e3
     obtain ⟨o1,o2,o3,o4⟩:=hcO (n - 1) (by omega)
     rw [hto1] at o2
     have Hset:Hid (RowSp (w1.setCell ⟨g7,(n - 1) * 2+1,none⟩ (.int .i64 d)) w.heap.size 111 (.slice (some ⟨g7,0,none⟩) n c5) (dsTo p fr (j+1))):=qh (by
      have hr:=HrO1.out
      rw [← HOl.out] at hr
      have:=RowSp.setTo hr (k:=(dsTo p fr j).length - 1) (by rw [HOl.out];omega) d
      rw [List.length_set,HOl.out] at this
      rw [Hj.out];exact this)
     have HOl2:Hid ((dsTo p fr (j+1)).length=n):=qh (by rw [Hj.out,List.length_set];exact HOl.out)
     clear hcO hto1
     have T1:decide ((0:Int) ≤ (n:Int) - 1)=true:=decide_eq_true (by omega)
     have T1a:decide ((1:Int) ≤ (n:Int))=true:=decide_eq_true (by omega)
     have T1b:decide (1 ≤ n)=true:=decide_eq_true (by omega)
     have T1c:decide (0 < n)=true:=decide_eq_true (by omega)
     have T1d:decide ((0:Int) < (n:Int))=true:=decide_eq_true (by omega)
     have h1n:1 ≤ n:=hpos
     have i1:(0:Int) ≤ (n:Int) - 1:=by omega
     have i2:(n:Int) - 1 < (n:Int):=by omega
     have i3:((n:Int) - 1).toNat=n - 1:=by omega
     go_wp2_with fail
     go_roundg (N - (j+1))
     case measure=>omega
     case rel=>exact ⟨j+1,n,by omega,by rw [← Hd.out];go_num,Hx1.out.setCell hg7 _,Hset,HOl2,_,_,rfl⟩
    ·have Hj:Hid (dsTo p fr (j+1)=dsTo p fr j ++ [⟨d,d⟩]):=qh (by
      rw [Hstep.out,dsAdd_new (B_iff.1 Q.out) (by rw [HOl.out];exact hc)])
     have HOl2:Hid ((dsTo p fr (j+1)).length=n+1):=qh (by rw [Hj.out,List.length_append,HOl.out];rfl)
     have Hsrc:Hid (Row (w1.alloc (.cells #[.int .i64 d,.int .i64 d] 111)) 0 (w1.alloc (.cells #[.int .i64 d,.int .i64 d] 111)).heap.size 2 (.slice (some ⟨w1.heap.size,0,none⟩) 1 1) 1 (spanCell [⟨d,d⟩])):=qh ((Boxed.new w1 [.int .i64 d,.int .i64 d] 111).row rfl (span_cells _ _))
     have hsl:=HOl.out
     have Hsz:=qh (show w.heap.size ≤ w1.heap.size by omega)
     by_cases hpos:0 < n
     case' pos =>
      have hne:(spAt (dsTo p fr j) (n - 1)).to ≠ d - 1:=fun hh=>hc ⟨hpos,hh⟩
      obtain ⟨g7,cap7,e,hg7,hg7z,hcap7,hcO⟩:=HrO1.out.cells (by rw [HOl.out];exact hpos)
      rw [HOl.out] at e hcO
      injection e with e1 e2 e3
      subst e1 e3
      obtain ⟨o1,o2, -, -⟩:=hcO (n - 1) (by omega)
      have T1:decide ((0:Int) ≤ (n:Int) - 1)=true:=decide_eq_true (by omega)
      have T1a:decide ((1:Int) ≤ (n:Int))=true:=decide_eq_true (by omega)
      have T1b:decide (1 ≤ n)=true:=decide_eq_true (by omega)
      have T1c:decide (0 < n)=true:=decide_eq_true (by omega)
      have T1d:decide ((0:Int) < (n:Int))=true:=decide_eq_true (by omega)
      have h1n:1 ≤ n:=hpos
      have i1:(0:Int) ≤ (n:Int) - 1:=by omega
      have i2:(n:Int) - 1 < (n:Int):=by omega
      have i3:((n:Int) - 1).toNat=n - 1:=by omega
      have T3:decide ((spAt (dsTo p fr j) (n - 1)).to=d - 1)=false:=decide_eq_false hne
      have T3b:((spAt (dsTo p fr j) (n - 1)).to == d - 1)=false:=beq_eq_false_iff_ne.2 hne
      clear hcO hne e2
     case' neg =>
      obtain rfl:n=0:=by omega
      clear hpos
     all_goals
      clear hc
      generalize dsTo p fr j=O at *
      go_wp2_with (at_builtin;refine wpList_append_row _ rfl _ _ 40 rfl w.heap.size 111 2 16 Tryz.underlying40 (by kernel_rfl) (by omega) _ O.length 1 _ rfl (.inl (row_ext HrO1.out exts)) (.inr (by omega)) 0 _ _ (spanCell [⟨d,d⟩]) rfl Hsrc.out (fun i _=>spanCell_one _ i) (by rw [hsl];unfold maxLen;omega) (by rw [hsl];omega) (by have:=Hsz.out;simp;omega) ?_;intro v5 w5 hown5 hput5;have Hrow5:=qh (RowSp.push hown5);have Hx5:=qh (hput5.ext (show Ext w (w1.alloc (.cells #[.int .i64 d,.int .i64 d] 111)) from Hx1.out.trans exts) (Nat.le_refl _));obtain ⟨A6,c6,rfl⟩:=ownsRow_len hown5;clear hown5 hput5)
      rw [hsl] at Hrow5
      go_roundg (N - (j+1))
      case measure=>omega
      case rel=>exact ⟨j+1,_,by omega,by rw [← Hd.out];go_num,Hx5.out,qh (by rw [Hj.out];exact Hrow5.out),HOl2,_,_,rfl⟩
  ·have hdi:¬ d ≤ to:=by omega
   have T0:decide (d ≤ to)=false:=decide_eq_false hdi
   obtain rfl:j=N:=by omega
   go_wp2_with fail
   go_ret
   refine ⟨_,rfl,HX.out,?_⟩
   rw [HOl.out]
   have h:=HrO.out
   unfold RowSp at h
   rwa [HOl.out] at h
set_option maxRecDepth 100000 in
set_option maxHeartbeats 4000000 in
theorem impl_fittingDays (v u:Value) (l:List Nsp) (cs:List Cls) (fr to:Int) (hcs:∀ i,i < cs.length → ClsOk (clsAt cs i)) (hf:0 ≤ fr) (ht:to ≤ 730499) (hft:fr ≤ to) (w:World) (hv:Nsps w 0 w.heap.size v l) (hu:Clss w 0 w.heap.size u cs) (hr:∀ i,i < l.length → 0 ≤ (nspAt l i).fr∧(nspAt l i).fr ≤ 730499) :
  Calls Tryz.prog 114 #[.agg #[v,.int .i64 fr,.int .i64 to],u] w (NewOwn 111 2 (dsTo (Fits l cs) fr ((to - fr).toNat+1)).length (spanCell (dsTo (Fits l cs) fr ((to - fr).toNat+1))) w):=by
 obtain ⟨A,c,rfl,hnl,hcl⟩:=hv.len
 obtain ⟨A2,c2,rfl,hnl2,hcl2⟩:=hu.len
 have H:=qh (show Calls Tryz.prog 166 #[.int .i64 fr,.int .i64 to,.func (.func 167) #[] #[.pointer (some ⟨w.heap.size+1,0,none⟩),.pointer (some ⟨w.heap.size,0,none⟩)]] ((w.alloc (.cells #[.slice A l.length c,.int .i64 fr,.int .i64 to] 45)).alloc (.cells #[.slice A2 cs.length c2] 98)) (NewOwn 111 2 (dsTo (Fits l cs) fr ((to - fr).toNat+1)).length (spanCell (dsTo (Fits l cs) fr ((to - fr).toNat+1))) ((w.alloc (.cells #[.slice A l.length c,.int .i64 fr,.int .i64 to] 45)).alloc (.cells #[.slice A2 cs.length c2] 98))) from by
  refine impl_daysFor fr to 167 _ (Fits l cs) _ hf ht hft Tryz.call167 (fun n w' hn hx=>?_)
  have hb1:=((Boxed.new w [.slice A l.length c,.int .i64 fr,.int .i64 to] 45).ext ((Ext.refl _).alloc (.cells #[.slice A2 cs.length c2] 98))).ext hx
  have hb2:=(Boxed.new (w.alloc (.cells #[.slice A l.length c,.int .i64 fr,.int .i64 to] 45)) [.slice A2 cs.length c2] 98).ext hx
  rw [World.size_alloc] at hb2
  have hxw:Ext w w' := Ext.trans exts hx
  exact impl_fitting_f _ _ l cs n hcs hn w.heap.size (w.heap.size+1) w' (hv.up hxw) (hu.up hxw) hr hb1.1 hb2.1 hb1.at0 hb2.at0)
 clear hv hu hr hcs
 go_enter Tryz.func114,Tryz.ntmps114
 go_wp2_with fail
 refine H.out.mono ?_
 rintro e w1 ⟨x,rfl,hx1,ho⟩
 obtain ⟨A6,c6,rfl⟩:=ownsRow_len ho
 have Ho:=qh ho
 clear ho
 go_wp2_with fail
 go_ret
 exact ⟨_,rfl,exts,ownsRow_mono Ho.out (by simp;omega)⟩
end Go.Proofs.YtechbeegbhlppaaGreatDoor
