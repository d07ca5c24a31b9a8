/- Contracts: SourcesAgainst, both sides. (Printed by genWo.py.) -/
import Derived.Test.YtechbeegbhlppaaGreatDoorS1Wm
import Derived.Test.YtechbeegbhlppaaGreatDoorS1G
namespace Go.Proofs.YtechbeegbhlppaaGreatDoor
set_option linter.unusedVariables false
set_option linter.unusedSimpArgs false
open Go.RowKit
attribute [local go_sem] cell_onto
def RowIn (w:World) (b:Nat) (T:TypeId) (v:Value) (l:List Int):Prop:=Dst w b T 1 v l.length (cellsOf (l.length * 1) (intCell l))
theorem RowIn.ext {w w' : World} {b:Nat} {T:TypeId} {v:Value} {l:List Int} (h:RowIn w b T v l) (hx:Ext w w'):RowIn w' b T v l:=Dst.off h (S:=fun _=>False) (Off.of_ext hx) (fun _ _ h=>h)
theorem RowIn.new (w:World) (b:Nat) (T:TypeId):RowIn (w.alloc (.cells #[] T)) b T (.slice (some ⟨w.heap.size,0,none⟩) 0 0) [] :=
 .inr ⟨rfl,rfl,⟨_,rfl⟩,fun g hg=>by
  have hg:some w.heap.size=some g:=hg
  injection hg with hg
  subst hg
  simp⟩
theorem RowIn.empty {w:World} {b g:Nat} {T:TypeId} (h:g < w.heap.size):RowIn w b T (.slice (some ⟨g,0,none⟩) 0 0) [] :=
 .inr ⟨rfl,rfl,⟨_,rfl⟩,fun g' hg=>by
  have hg:some g=some g' := hg
  injection hg with hg
  omega⟩
theorem inCells_push (l:List Int) (x:Int):cellsOf (l.length * 1) (intCell l) ++ cellsOf (1 * 1) (fun _=>.int .i64 x)=cellsOf ((l ++ [x]).length * 1) (intCell (l ++ [x])):=by
 rw [cellsOf_append,List.length_append]
 have e:l.length * 1+1 * 1=(l.length+[x].length) * 1:=by simp
 rw [e]
 refine cellsOf_congr (fun i hi=>?_)
 have hl:[x].length=1:=rfl
 rw [hl] at hi
 show (if i < l.length * 1 then intCell l i else .int .i64 x)=intCell (l ++ [x]) i
 unfold intCell inAt
 rw [List.getD_eq_getElem?_getD,List.getD_eq_getElem?_getD]
 by_cases h:i < l.length * 1
 ·rw [if_pos h,List.getElem?_append_left (by omega)]
 ·rw [if_neg h]
  have e:i=l.length:=by omega
  subst e
  simp
theorem RowIn.push {w:World} {b:Nat} {T:TypeId} {v:Value} {l:List Int} {x:Int} (h:w.ownsRow b T 1 v (l.length+1) (cellsOf (l.length * 1) (intCell l) ++ cellsOf (1 * 1) (fun _=>.int .i64 x))):RowIn w b T v (l ++ [x]):=by
 rw [inCells_push] at h
 refine .inl ?_
 rw [show (l ++ [x]).length=l.length+1 by simp] at h ⊢
 exact h
theorem RowIn.post {w w' : World} {b:Nat} {T:TypeId} {v:Value} {l:List Int} {e0:Int} (h:RowIn w' b T v l) (hx:Ext w w') (hb:w.heap.size ≤ b):NewInts2 l e0 w (.returned (.tuple #[v,.int .i64 e0])) w' := by
 rcases h with h | ⟨h1,_,⟨A,e⟩,_⟩
 ·obtain ⟨g,hg,ho⟩:=Own.of_owned h
  exact ⟨v,g,rfl,hx,fun h0=>Nat.le_trans hb (hg h0).2,ho⟩
 ·subst e
  refine ⟨_,0,rfl,hx,fun h0=>by omega,?_⟩
  rw [h1]
  exact ⟨Nat.zero_le _,A,0,rfl,Nat.le_refl _,fun h=>absurd h (by omega)⟩
theorem sa_no {W:Wrl} {l:List Ded} {i n:Int} (h:dcE W l i (InR n W.ch.fr W.ch.to) ≠ 0):saE W l i n=dcE W l i (InR n W.ch.fr W.ch.to)∧saL W l i n=[]:=⟨rfl,if_neg h⟩
theorem sa_ok {W:Wrl} {l:List Ded} {i n:Int} (h:dcE W l i (InR n W.ch.fr W.ch.to)=0):saE W l i n=0∧saL W l i n=saTo W (dedAt l i.toNat) n 5:=⟨h,if_pos h⟩
set_option maxRecDepth 100000 in
set_option maxHeartbeats 8000000 in
theorem impl_SourcesAgainst (vr vp vt vl vw vs vse vha v:Value) (W:Wrl) (l:List Ded) (i:Int) (n:Int) (w:World) (h:WrlAt w 0 w.heap.size vr vp vt vl vw vs vse vha W) (hd:Deds w 0 w.heap.size v l) :
  Calls Tryz.prog 22 #[.agg #[vr,.int .i64 W.ch.fr,.int .i64 W.ch.to,vp,vt,vl,vw,vs,vse,vha],v,.int .i64 i,.int .i64 n] w (NewInts2 (saL W l i n) (saE W l i n) w):=by
 obtain ⟨A,c,rfl,hn,hc⟩:=hd.len
 have H:=qh h
 have Hd:=qh hd
 have HB:=qh (Boxed.new w [vr,.int .i64 W.ch.fr,.int .i64 W.ch.to,vp,vt,vl,vw,vs,vse,vha] 56)
 clear h hd
 go_enter Tryz.func22,Tryz.ntmps22
 go_wp2_with fail
 refine Calls.mono (impl_checkDeed vr vp vt vl vw vs vse vha _ W l i _ (H.out.up exts) (Hd.out.up exts)) ?_
 rintro e w1 ⟨rfl,hx1⟩
 have hx:Ext w w1:=exts
 have b0:=(HB.out.ext hx1).cell 0 rfl
 have b1:=(HB.out.ext hx1).cell 1 rfl
 have b2:=(HB.out.ext hx1).cell 2 rfl
 have b3:=(HB.out.ext hx1).cell 3 rfl
 have b4:=(HB.out.ext hx1).cell 4 rfl
 have b5:=(HB.out.ext hx1).cell 5 rfl
 have b6:=(HB.out.ext hx1).cell 6 rfl
 have b7:=(HB.out.ext hx1).cell 7 rfl
 have b8:=(HB.out.ext hx1).cell 8 rfl
 have b9:=(HB.out.ext hx1).cell 9 rfl
 have bg:=(HB.out.ext hx1).1
 by_cases h0:ddE W l i=0
 case neg =>
  have Hv:=qh (sa_no (W:=W) (l:=l) (i:=i) (n:=n) (by rw [dcE_bad h0];exact h0))
  have Hc:=qh (show dcE W l i (InR n W.ch.fr W.ch.to)=ddE W l i from dcE_bad h0)
  generalize ddE W l i=r at *
  have n1:(r == 0)=false:=by simpa using h0
  have n2:decide (r=0)=false:=decide_eq_false h0
  go_wp2_with fail
  go_ret2
  rw [Hv.out.1,Hv.out.2,Hc.out]
  exact NewInts2.nil _ hx
 obtain ⟨q,eq⟩:∃ q,B (InR n W.ch.fr W.ch.to)=q:=⟨_,rfl⟩
 have Hq:=qh eq
 have Hw:=qh (fun W0=>impl_within_q (n:=n) (lo:=W.ch.fr) (hi:=W.ch.to) (b:=q) eq W0)
 clear eq
 cases q
 case false =>
  have Hc:=qh (dcE_rng (ok:=InR n W.ch.fr W.ch.to) h0 (B_not.1 Hq.out))
  have Hv:=qh (sa_no (W:=W) (l:=l) (i:=i) (n:=n) (by rw [Hc.out];omega))
  rw [h0]
  clear h0
  go_wp2_with fail
  refine Calls.mono (Hw.out _) ?_
  rintro e w2 ⟨rfl,rfl⟩
  go_wp2_with fail
  go_ret2
  rw [Hv.out.1,Hv.out.2,Hc.out]
  exact NewInts2.nil _ hx
 have Hv:=qh (sa_ok (W:=W) (l:=l) (i:=i) (n:=n) (dcE_ok h0 (B_iff.1 Hq.out)))
 rw [h0]
 obtain ⟨hok,hi0,hk0,hik⟩:=ddE_zero h0
 obtain ⟨k,rfl⟩:∃ k:Nat,i=(k:Int):=⟨i.toNat,by omega⟩
 have hk:k < l.length:=by omega
 have hki:(k:Int) < (l.length:Int):=by omega
 have HSI:=qh (fun (vd vwi:Value) (w' : World) (hX:Ext w w') (h1:Clss w' 0 w'.heap.size vd (dedAt l k).dt) (h2:Wits w' 0 w'.heap.size vwi (dedAt l k).wi)=>src_in (H.out.up hX) hok hk h1 h2)
 clear hok hk0 hik
 clear h0
 obtain ⟨kb,ko,vd,vwi,vci,eA,_,kg,d0,d1,d2,d3,d4,d5,d6,kd,kw,kc⟩:=(Hd.out.up hx).at_ hk
 obtain ⟨Ac,cc,rfl,hcn,hcc⟩:=kc.len
 subst eA
 have Kd:=qh kd
 have Kw:=qh kw
 clear kd kw kc
 go_wp2_with fail
 refine Calls.mono (Hw.out _) ?_
 rintro e w2 ⟨rfl,rfl⟩
 have HU:=qh (HSI.out _ _ w1 hx Kd.out Kw.out)
 obtain ⟨L,eL⟩:∃ L,srcTo W (dedAt l k) 5=L:=⟨_,rfl⟩
 have HL5:=qh (show L.length=5 from by rw [← eL];exact srcTo_len W (dedAt l k) 5)
 have HLa:=qh (show ∀ z,z < 5 → setAt L z=srcL W (dedAt l k) z from fun z hz=>by rw [← eL];exact srcTo_at W (dedAt l k) 5 z hz)
 have HAll:=qh (fun (vci' : Value) (w' : World) (hX:Ext w1 w')=>show Calls Tryz.prog 72 #[.agg #[vr,.int .i64 W.ch.fr,.int .i64 W.ch.to,vp,vt,vl,vw,vs,vse,vha],.agg #[.string (dedAt l k).nm,vd,vwi,.string (dedAt l k).pl,.string (dedAt l k).se,.string (dedAt l k).ha,vci']] w' (NewSetsBy 40 L w') from by rw [← eL];exact impl_allSources vr vp vt vl vw vs vse vha _ _ _ W l (dedAt l k) _ (HU.out.up hX))
 clear eL
 go_wp2_with fail
 go_region_held3 (fun w' => w'.cell? ⟨w.heap.size,0,none⟩=some (vr)∧w'.cell? ⟨w.heap.size,1,none⟩=some (.int .i64 W.ch.fr)∧w'.cell? ⟨w.heap.size,2,none⟩=some (.int .i64 W.ch.to)∧w'.cell? ⟨w.heap.size,3,none⟩=some (vp)∧w'.cell? ⟨w.heap.size,4,none⟩=some (vt)∧w'.cell? ⟨w.heap.size,5,none⟩=some (vl)∧w'.cell? ⟨w.heap.size,6,none⟩=some (vw)∧w'.cell? ⟨w.heap.size,7,none⟩=some (vs)∧w'.cell? ⟨w.heap.size,8,none⟩=some (vse)∧w'.cell? ⟨w.heap.size,9,none⟩=some (vha)∧w'.cell? ⟨kb,ko+k * 7,none⟩=some (.string (dedAt l k).nm)∧w'.cell? ⟨kb,ko+k * 7+1,none⟩=some (vd)∧w'.cell? ⟨kb,ko+k * 7+2,none⟩=some (vwi)∧w'.cell? ⟨kb,ko+k * 7+3,none⟩=some (.string (dedAt l k).pl)∧w'.cell? ⟨kb,ko+k * 7+4,none⟩=some (.string (dedAt l k).se)∧w'.cell? ⟨kb,ko+k * 7+5,none⟩=some (.string (dedAt l k).ha)∧w'.cell? ⟨kb,ko+k * 7+6,none⟩=some (.slice Ac (dedAt l k).ci.length cc)∧Ext w1 w')
  (exact Ext.and_cell bg b0 exts (Ext.and_cell bg b1 exts (Ext.and_cell bg b2 exts (Ext.and_cell bg b3 exts (Ext.and_cell bg b4 exts (Ext.and_cell bg b5 exts (Ext.and_cell bg b6 exts (Ext.and_cell bg b7 exts (Ext.and_cell bg b8 exts (Ext.and_cell bg b9 exts (Ext.and_cell kg d0 exts (Ext.and_cell kg d1 exts (Ext.and_cell kg d2 exts (Ext.and_cell kg d3 exts (Ext.and_cell kg d4 exts (Ext.and_cell kg d5 exts (Ext.and_cell kg d6 exts exts)))))))))))))))))
  (first
   | (go_at_call 72;refine Calls.mono (HAll.out _ _ exts) ?_;rintro e wa ⟨ua,lo,rfl,hxa,hlo,hsa⟩;obtain ⟨Aa,ca,rfl,_,_⟩:=hsa.read.len;have Hsa:=qh hsa;clear hsa;rw [HL5.out];rw [HL5.out] at Hsa))
 clear b0 b1 b2 b3 b4 b5 b6 b7 b8 b9 bg
 clear d0 d1 d2 d3 d4 d5 d6
 have hxa1:Ext w1 wa:=exts
 have hr0:w1.heap.size < wa.heap.size:=by have h9:=hxa.size;simp at h9;omega
 have HXa:=qh (hx.trans hxa1)
 have Hr0:=qh (RowIn.empty (b:=wa.heap.size) (T:=2) hr0)
 clear hxa1 hr0 hxa
 go_wp2_with fail
 go_loopg [11,12,13,38] 5 (fun q u11 u12 u13 i wr=>∃ j:Nat,j+q=5∧i=.int .i64 j∧Ext wa wr∧Hid (RowIn wr wa.heap.size 2 u11 (saTo W (dedAt l k) n j)))
 case atStart=>exact ⟨0,rfl,rfl,Ext.refl _,Hr0⟩
 clear Hr0
 case round =>
  obtain ⟨j,hj,rfl,hxr,Hr⟩:=hrel
  have Hxr:=qh hxr
  have hzr:=hxr.size
  have hlen:=saTo_len W (dedAt l k) n j
  by_cases hlt:j < 5
  ·obtain ⟨b,off,u,rfl,_,hb,h1,h2⟩:=(Hsa.out.read.ext hxr (Nat.le_refl _)).at_ (show j < L.length by rw [HL5.out];exact hlt)
   rw [HLa.out j hlt] at h2
   have H2:=qh (h2.mono (Nat.le_refl _) hxr.size)
   have hbr:b < wr.heap.size:=Nat.lt_of_lt_of_le hb hxr.size
   have hji:(j:Int) < 5:=by omega
   clear h2 hxr
   obtain ⟨q,eq⟩:∃ q,B (HasDay (srcL W (dedAt l k) j) n)=q:=⟨_,rfl⟩
   have Hq:=qh eq
   clear eq
   go_wp2_with fail
   refine Calls.mono (impl_hasDay _ (srcL W (dedAt l k) j) n _ (H2.out.up exts)) ?_
   rintro e w2 ⟨rfl,hx2⟩
   rw [Hq.out]
   have Hx2:=qh (show Ext wr w2 from exts)
   have hz2:=Hx2.out.size
   have Hr2:=qh (Hr.out.ext Hx2.out)
   obtain ⟨X,eX⟩:∃ X,saTo W (dedAt l k) n j=X:=⟨_,rfl⟩
   rw [eX] at Hr2 hlen
   have HX:=qh eX
   clear hx2 eX h1
   cases q
   ·have Hm:=qh (saTo_not (W:=W) (d:=dedAt l k) (n:=n) (k:=j) (B_not.1 Hq.out))
    go_wp2_with (at_builtin;refine wpList_append_row _ rfl _ _ 67 rfl wa.heap.size 2 1 8 Tryz.underlying67 (by kernel_rfl) (by omega) _ X.length 1 _ rfl (Hr2.out.ext ((Ext.refl _).alloc _)) (.inr (by omega)) 0 _ _ (fun _=>.int .i64 j) rfl (Boxed.new w2 [.int .i64 j] 2).row1 (fun _ _=>rfl) (by unfold maxLen;omega) (by omega) (by simp;omega) ?_;intro v5 w5 hown5 hput5;have Hr5:=qh (RowIn.push hown5);have Hx5:=qh (hput5.ext (show Ext wa _ from (Hxr.out.trans Hx2.out).trans exts) (Nat.le_refl _));clear hown5 hput5)
    go_roundg (5 - (j+1))
    case measure=>omega
    case rel=>exact ⟨j+1,by omega,by go_num,Hx5.out,qh (by rw [Hm.out,HX.out];exact Hr5.out)⟩
   ·have Hm:=qh (saTo_has (W:=W) (d:=dedAt l k) (n:=n) (k:=j) (B_iff.1 Hq.out))
    go_wp2_with fail
    go_roundg (5 - (j+1))
    case measure=>omega
    case rel=>exact ⟨j+1,by omega,by go_num,Hxr.out.trans Hx2.out,qh (by rw [Hm.out,HX.out];exact Hr2.out)⟩
  ·obtain rfl:j=5:=by omega
   go_wp2_with fail
   go_ret2
   rw [Hv.out.1,Hv.out.2,Int.toNat_natCast]
   exact RowIn.post Hr.out (HXa.out.trans Hxr.out) HXa.out.size
set_option maxRecDepth 100000 in
set_option maxHeartbeats 8000000 in
theorem spec_SourcesAgainst (vr vp vt vl vw vs vse vha v:Value) (W:Wrl) (l:List Ded) (i:Int) (n:Int) (w:World) (h:WrlAt w 0 w.heap.size vr vp vt vl vw vs vse vha W) (hd:Deds w 0 w.heap.size v l) (hsm:WSm W) (hnm:DsNm l) :
  Calls Tryz.prog 21 #[.agg #[vr,.int .i64 W.ch.fr,.int .i64 W.ch.to,vp,vt,vl,vw,vs,vse,vha],v,.int .i64 i,.int .i64 n] w (NewInts2 (saL W l i n) (saE W l i n) w):=by
 obtain ⟨A,c,rfl,hn,hc⟩:=hd.len
 have H:=qh h
 have Hd:=qh hd
 have HB:=qh (Boxed.new w [vr,.int .i64 W.ch.fr,.int .i64 W.ch.to,vp,vt,vl,vw,vs,vse,vha] 56)
 clear h hd
 go_enter Tryz.func21,Tryz.ntmps21
 go_wp2_with fail
 obtain ⟨q,eq⟩:∃ q,B (InR n W.ch.fr W.ch.to)=q:=⟨_,rfl⟩
 have Hw:=qh (fun W0=>spec_l01In_q (n:=n) (lo:=W.ch.fr) (hi:=W.ch.to) (b:=q) eq W0)
 have HE:=qh (dcQ_is (W:=W) (ds:=l) (i:=i) eq)
 clear eq
 have b0:=(HB.out.ext (Ext.refl _)).cell 0 rfl
 have b1:=(HB.out.ext (Ext.refl _)).cell 1 rfl
 have b2:=(HB.out.ext (Ext.refl _)).cell 2 rfl
 have b3:=(HB.out.ext (Ext.refl _)).cell 3 rfl
 have b4:=(HB.out.ext (Ext.refl _)).cell 4 rfl
 have b5:=(HB.out.ext (Ext.refl _)).cell 5 rfl
 have b6:=(HB.out.ext (Ext.refl _)).cell 6 rfl
 have b7:=(HB.out.ext (Ext.refl _)).cell 7 rfl
 have b8:=(HB.out.ext (Ext.refl _)).cell 8 rfl
 have b9:=(HB.out.ext (Ext.refl _)).cell 9 rfl
 have bg:=(HB.out.ext (Ext.refl _)).1
 (refine wp_region_onto prog_mixed (by kernel_rfl) ?_;(repeat (go_big_quiet_step ((first | (go_at_call 42;with_reducible exact onto_callS (Hw.out _)) | (go_at_call 41;with_reducible exact onto_callX (spec_l17Code_q vr vp vt vl vw vs vse vha _ W l i q _ (H.out.up (((Ext.refl w).alloc _).trans (onto_ext _ _))) (Hd.out.up (((Ext.refl w).alloc _).trans (onto_ext _ _))) hsm hnm))))));refine onto_end ?_;intro w1 hx1)
 have hx:Ext w w1:=exts
 clear b0 b1 b2 b3 b4 b5 b6 b7 b8 b9 bg
 rw [HE.out]
 by_cases h0:dcE W l i (InR n W.ch.fr W.ch.to)=0
 case neg =>
  have Hv:=qh (sa_no (W:=W) (l:=l) (i:=i) (n:=n) h0)
  clear HE
  generalize dcE W l i (InR n W.ch.fr W.ch.to)=r at *
  have n1:(r == 0)=false:=by simpa using h0
  have n2:decide (r=0)=false:=decide_eq_false h0
  go_wp2_with fail
  go_ret2
  rw [Hv.out.1,Hv.out.2]
  exact NewInts2.nil _ hx
 have Hv:=qh (sa_ok (W:=W) (l:=l) (i:=i) (n:=n) h0)
 have h00:=(dcE_zero h0).1
 rw [h0]
 clear HE h0
 obtain ⟨hok,hi0,hk0,hik⟩:=ddE_zero h00
 obtain ⟨k,rfl⟩:∃ k:Nat,i=(k:Int):=⟨i.toNat,by omega⟩
 have hk:k < l.length:=by omega
 have hki:(k:Int) < (l.length:Int):=by omega
 have HSI:=qh (fun (vd vwi:Value) (w' : World) (hX:Ext w w') (h1:Clss w' 0 w'.heap.size vd (dedAt l k).dt) (h2:Wits w' 0 w'.heap.size vwi (dedAt l k).wi)=>src_in (H.out.up hX) hok hk h1 h2)
 clear hok hk0 hik
 clear h00
 have Hx1:=qh hx1
 have HX1:=qh hx
 clear hx1 hx
 have Hr0:=qh (RowIn.new w1 w1.heap.size 2)
 go_wp2_with fail
 go_loopg [11,12] 5 (fun q u11 i wr=>∃ j:Nat,j+q=5∧i=.int .i64 j∧Ext w1 wr∧Hid (RowIn wr w1.heap.size 2 u11 (saTo W (dedAt l k) n j)))
 case atStart=>exact ⟨0,rfl,rfl,exts,Hr0⟩
 clear Hr0
 case round =>
  obtain ⟨j,hj,rfl,hxr,Hr⟩:=hrel
  have Hxr:=qh hxr
  have HXr:=qh (HX1.out.trans hxr)
  have hzr:=hxr.size
  have hlen:=saTo_len W (dedAt l k) n j
  by_cases hlt:j < 5
  ·have e0:decide ((j:Int) ≤ 4)=true:=decide_eq_true (by omega)
   have e0n:decide (j ≤ 4)=true:=decide_eq_true (by omega)
   obtain ⟨q,eq⟩:∃ q,B (HasDay (srcL W (dedAt l k) j) n)=q:=⟨_,rfl⟩
   have Hq:=qh eq
   have b0:=(HB.out.ext (Hx1.out.trans hxr)).cell 0 rfl
   have b1:=(HB.out.ext (Hx1.out.trans hxr)).cell 1 rfl
   have b2:=(HB.out.ext (Hx1.out.trans hxr)).cell 2 rfl
   have b3:=(HB.out.ext (Hx1.out.trans hxr)).cell 3 rfl
   have b4:=(HB.out.ext (Hx1.out.trans hxr)).cell 4 rfl
   have b5:=(HB.out.ext (Hx1.out.trans hxr)).cell 5 rfl
   have b6:=(HB.out.ext (Hx1.out.trans hxr)).cell 6 rfl
   have b7:=(HB.out.ext (Hx1.out.trans hxr)).cell 7 rfl
   have b8:=(HB.out.ext (Hx1.out.trans hxr)).cell 8 rfl
   have b9:=(HB.out.ext (Hx1.out.trans hxr)).cell 9 rfl
   have bg:=(HB.out.ext (Hx1.out.trans hxr)).1
   obtain ⟨kb,ko,vd,vwi,vci,eA,_,kg,d0,d1,d2,d3,d4,d5,d6,kd,kw,kc⟩:=(Hd.out.up HXr.out).at_ hk
   obtain ⟨Ac,cc,rfl,hcn,hcc⟩:=kc.len
   subst eA
   have Kd:=qh kd
   have Kw:=qh kw
   clear kd kw kc
   clear eq hxr
   go_wp2_with fail
   go_region_held3 (fun w' => w'.cell? ⟨w.heap.size,0,none⟩=some (vr)∧w'.cell? ⟨w.heap.size,1,none⟩=some (.int .i64 W.ch.fr)∧w'.cell? ⟨w.heap.size,2,none⟩=some (.int .i64 W.ch.to)∧w'.cell? ⟨w.heap.size,3,none⟩=some (vp)∧w'.cell? ⟨w.heap.size,4,none⟩=some (vt)∧w'.cell? ⟨w.heap.size,5,none⟩=some (vl)∧w'.cell? ⟨w.heap.size,6,none⟩=some (vw)∧w'.cell? ⟨w.heap.size,7,none⟩=some (vs)∧w'.cell? ⟨w.heap.size,8,none⟩=some (vse)∧w'.cell? ⟨w.heap.size,9,none⟩=some (vha)∧w'.cell? ⟨kb,ko+k * 7,none⟩=some (.string (dedAt l k).nm)∧w'.cell? ⟨kb,ko+k * 7+1,none⟩=some (vd)∧w'.cell? ⟨kb,ko+k * 7+2,none⟩=some (vwi)∧w'.cell? ⟨kb,ko+k * 7+3,none⟩=some (.string (dedAt l k).pl)∧w'.cell? ⟨kb,ko+k * 7+4,none⟩=some (.string (dedAt l k).se)∧w'.cell? ⟨kb,ko+k * 7+5,none⟩=some (.string (dedAt l k).ha)∧w'.cell? ⟨kb,ko+k * 7+6,none⟩=some (.slice Ac (dedAt l k).ci.length cc)∧Ext wr w')
    (exact Ext.and_cell bg b0 exts (Ext.and_cell bg b1 exts (Ext.and_cell bg b2 exts (Ext.and_cell bg b3 exts (Ext.and_cell bg b4 exts (Ext.and_cell bg b5 exts (Ext.and_cell bg b6 exts (Ext.and_cell bg b7 exts (Ext.and_cell bg b8 exts (Ext.and_cell bg b9 exts (Ext.and_cell kg d0 exts (Ext.and_cell kg d1 exts (Ext.and_cell kg d2 exts (Ext.and_cell kg d3 exts (Ext.and_cell kg d4 exts (Ext.and_cell kg d5 exts (Ext.and_cell kg d6 exts exts)))))))))))))))))
    (first
     | (go_at_call 44;refine Calls.mono (spec_src vr vp vt vl vw vs vse vha _ _ _ W l (dedAt l k) j _ ((HSI.out _ _ wr HXr.out Kd.out Kw.out).up exts) (by omega) (by omega)) ?_;rintro e wa ⟨ua,rfl,hxa,hoa⟩;have Hoa:=qh (show RowSp wa _ 111 ua (srcL W (dedAt l k) j) from hoa);clear hoa)
     | (go_at_call 71;refine Calls.mono (spec_l02Has _ (srcL W (dedAt l k) j) n _ (Hoa.out.read.up exts)) ?_;rintro e w2 ⟨rfl,hx2⟩;rw [Hq.out]))
   have Hx2:=qh (show Ext wr w2 from exts)
   have hz2:=Hx2.out.size
   have Hr2:=qh (Hr.out.ext Hx2.out)
   obtain ⟨X,eX⟩:∃ X,saTo W (dedAt l k) n j=X:=⟨_,rfl⟩
   rw [eX] at Hr2 hlen
   have HX:=qh eX
   clear hx2 eX hxa
   clear b0 b1 b2 b3 b4 b5 b6 b7 b8 b9 bg
   clear d0 d1 d2 d3 d4 d5 d6
   cases q
   ·have Hm:=qh (saTo_not (W:=W) (d:=dedAt l k) (n:=n) (k:=j) (B_not.1 Hq.out))
    go_wp2_with (at_builtin;refine wpList_append_row _ rfl _ _ 67 rfl w1.heap.size 2 1 8 Tryz.underlying67 (by kernel_rfl) (by omega) _ X.length 1 _ rfl (Hr2.out.ext ((Ext.refl _).alloc _)) (.inr (by omega)) 0 _ _ (fun _=>.int .i64 j) rfl (Boxed.new w2 [.int .i64 j] 2).row1 (fun _ _=>rfl) (by unfold maxLen;omega) (by omega) (by simp;omega) ?_;intro v5 w5 hown5 hput5;have Hr5:=qh (RowIn.push hown5);have Hx5:=qh (hput5.ext (show Ext w1 _ from (Hxr.out.trans Hx2.out).trans exts) (Nat.le_refl _));clear hown5 hput5)
    go_roundg (5 - (j+1))
    case measure=>omega
    case rel=>exact ⟨j+1,by omega,by go_num,Hx5.out,qh (by rw [Hm.out,HX.out];exact Hr5.out)⟩
   ·have Hm:=qh (saTo_has (W:=W) (d:=dedAt l k) (n:=n) (k:=j) (B_iff.1 Hq.out))
    go_wp2_with fail
    go_roundg (5 - (j+1))
    case measure=>omega
    case rel=>exact ⟨j+1,by omega,by go_num,Hxr.out.trans Hx2.out,qh (by rw [Hm.out,HX.out];exact Hr2.out)⟩
  ·obtain rfl:j=5:=by omega
   go_wp2_with fail
   go_ret2
   rw [Hv.out.1,Hv.out.2,Int.toNat_natCast]
   exact RowIn.post Hr.out HXr.out HX1.out.size
end Go.Proofs.YtechbeegbhlppaaGreatDoor
