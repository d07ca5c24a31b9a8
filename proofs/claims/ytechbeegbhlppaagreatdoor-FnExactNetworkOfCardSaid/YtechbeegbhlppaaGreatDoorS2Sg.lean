/- Texts merged (a claim holds at most sixty files): Sg, Fs, Fo, Ws. -/
import Derived.Test.YtechbeegbhlppaaGreatDoorS2S
import Derived.Test.YtechbeegbhlppaaGreatDoorS2A
import Derived.Test.YtechbeegbhlppaaGreatDoorS2Bf
namespace Go.Proofs.YtechbeegbhlppaaGreatDoor
set_option linter.unusedVariables false
set_option linter.unusedSimpArgs false
open Go.RowKit
theorem Dst.ext {w w' : World} {b:Nat} {e:TypeId} {sz n:Nat} {v:Value} {xs:List Value} (h:Dst w b e sz v n xs) (hx:Ext w w'):Dst w' b e sz v n xs :=
 h.off (S:=fun _=>False) (Off.of_ext hx) (fun _ _ h=>h)
end Go.Proofs.YtechbeegbhlppaaGreatDoor
namespace Go.Proofs.YtechbeegbhlppaaGreatDoor
set_option linter.unusedVariables false
set_option linter.unusedSimpArgs false
open Go.RowKit
attribute [local go_sem] cell_onto
set_option maxHeartbeats 400000 in
theorem isNaN_int64 (x:Int) (w:World):Calls Tryz.prog 259 #[.int .i64 x] w (RetS (.bool false) w):=by
 have T:(x != x)=false:=by simp
 go_enter Tryz.func259,Tryz.ntmps259
 go_wp2_with fail
 go_ret
 exact ⟨rfl,rfl⟩
set_option maxHeartbeats 1000000 in
theorem cmp_Compare (x y:Int) (w:World):Calls Tryz.prog 222 #[.int .i64 x,.int .i64 y] w (RetS (.int .i64 (if x < y then -1 else if y < x then 1 else 0)) w):=by
 go_enter Tryz.func222,Tryz.ntmps222
 by_cases h1:x < y
 ·have T1:decide (x < y)=true:=decide_eq_true h1
  have Hv:Hid ((if x < y then (-1:Int) else if y < x then 1 else 0) = -1):=qh (by rw [if_pos h1])
  rw [Hv.out]
  go_wp2_with (go_at_call 259;refine Calls.mono (isNaN_int64 _ _) ?_;rintro e w1 ⟨rfl,rfl⟩)
  go_ret
  exact ⟨rfl,rfl⟩
 ·have T1:decide (x < y)=false:=decide_eq_false h1
  by_cases h2:y < x
  ·have T2:decide (y < x)=true:=decide_eq_true h2
   have Hv:Hid ((if x < y then (-1:Int) else if y < x then 1 else 0)=1):=qh (by rw [if_neg h1,if_pos h2])
   rw [Hv.out]
   go_wp2_with (go_at_call 259;refine Calls.mono (isNaN_int64 _ _) ?_;rintro e w1 ⟨rfl,rfl⟩)
   go_ret
   exact ⟨rfl,rfl⟩
  ·have T2:decide (y < x)=false:=decide_eq_false h2
   have Hv:Hid ((if x < y then (-1:Int) else if y < x then 1 else 0)=0):=qh (by rw [if_neg h1,if_neg h2])
   rw [Hv.out]
   go_wp2_with (go_at_call 259;refine Calls.mono (isNaN_int64 _ _) ?_;rintro e w1 ⟨rfl,rfl⟩)
   go_ret
   exact ⟨rfl,rfl⟩
def SetsP (w:World) (S:Nat → Prop) (v:Value) (l:List (List Sp)):Prop :=
 ∃ (g0:Nat) (f:Nat → Value) (g:Nat → Nat),Own w g0 1 v l.length f∧(0 < l.length → S g0) ∧
  (∀ i,i < l.length → Own w (g i) 2 (f i) (setAt l i).length (spanCell (setAt l i))∧(0 < (setAt l i).length → S (g i)∧g i ≠ g0)) ∧
  (∀ i j,i < l.length → j < l.length → i ≠ j → 0 < (setAt l i).length → 0 < (setAt l j).length → g i ≠ g j)
def MarkedX (w:World) (S:Nat → Prop) (v:Value) (l:List (List Sp)) (k:Int):Prop :=
 ∃ (g0:Nat) (f:Nat → Value) (g:Nat → Nat),Own w g0 1 v l.length f∧(0 < l.length → S g0) ∧
  ∀ i,i < l.length → Own w (g i) 2 (f i) (setAt l i).length (numCell (k+preLen l i))∧(0 < (setAt l i).length → S (g i))
def NetX (w:World) (lo hi:Nat) (v:Value) (n:Net):Prop :=
 ∃ s k S gk,v=.agg #[s,k]∧(∀ x,S x → lo ≤ x∧x < hi)∧SetsP w S s n.sets∧Own w gk 4 k n.links.length (linkCell n.links)∧(0 < n.links.length → (lo ≤ gk∧gk < hi)∧¬ S gk)
theorem SetsP.off {S R:Nat → Prop} {w w' : World} {v:Value} {l:List (List Sp)} (h:SetsP w S v l) (hx:Off R w w') (hs:∀ k,S k → ¬ R k):SetsP w' S v l:=by
 obtain ⟨g0,f,g,h1,h2,h3,h4⟩:=h
 exact ⟨g0,f,g,h1.off hx (fun hn=>hs _ (h2 hn)),h2,fun i hi=>⟨(h3 i hi).1.off hx (fun hn=>hs _ ((h3 i hi).2 hn).1),(h3 i hi).2⟩,h4⟩
theorem SetsP.sets {S:Nat → Prop} {w:World} {lo hi:Nat} {v:Value} {l:List (List Sp)} (h:SetsP w S v l) (hs:∀ x,S x → lo ≤ x∧x < hi):Sets w lo hi v l:=by
 obtain ⟨g0,f,g,h1,h2,h3,_⟩:=h
 exact ⟨f,h1.row (fun hn=>hs _ (h2 hn)),fun i hi=>(h3 i hi).1.row (fun hn=>hs _ ((h3 i hi).2 hn).1)⟩
theorem MarkedX.off {S R:Nat → Prop} {w w' : World} {v:Value} {l:List (List Sp)} {k:Int} (h:MarkedX w S v l k) (hx:Off R w w') (hs:∀ k,S k → ¬ R k):MarkedX w' S v l k:=by
 obtain ⟨g0,f,g,h1,h2,h3⟩:=h
 exact ⟨g0,f,g,h1.off hx (fun hn=>hs _ (h2 hn)),h2,fun i hi=>⟨(h3 i hi).1.off hx (fun hn=>hs _ ((h3 i hi).2 hn)),(h3 i hi).2⟩⟩
theorem MarkedX.sets {S:Nat → Prop} {w:World} {lo hi:Nat} {v:Value} {l:List (List Sp)} {k:Int} (h:MarkedX w S v l k) (hs:∀ x,S x → lo ≤ x∧x < hi):MarkedSets w lo hi v l k:=by
 obtain ⟨g0,f,g,h1,h2,h3⟩:=h
 exact ⟨f,h1.row (fun hn=>hs _ (h2 hn)),fun i hi=>(h3 i hi).1.row (fun hn=>hs _ ((h3 i hi).2 hn))⟩
section
variable {w w' : World} {lo hi:Nat} {v:Value} {n:Net}
theorem NetX.off' {R:Nat → Prop} (h:NetX w lo hi v n) (hx:Off R w w') (hs:∀ k,lo ≤ k → k < hi → ¬ R k) (_:hi ≤ w.heap.size):NetX w' lo hi v n:=by
 obtain ⟨s,k,S,gk,e,h1,h2,h3,h4⟩:=h
 exact ⟨s,k,S,gk,e,h1,h2.off hx (fun x hx=>hs _ (h1 x hx).1 (h1 x hx).2),h3.off hx (fun hn=>hs _ (h4 hn).1.1 (h4 hn).1.2),h4⟩
theorem NetX.ext' (h:NetX w lo hi v n) (hx:Ext w w') (hh:hi ≤ w.heap.size):NetX w' lo hi v n:=h.off' (R:=fun _=>False) (Off.of_ext hx) (fun _ _ _ h=>h) hh
theorem NetX.at_ {s k:Value} (h:NetX w lo hi (.agg #[s,k]) n):NetAt w lo hi s k n:=by
 obtain ⟨s', k', S,gk,e,h1,h2,h3,h4⟩:=h
 injection e with e
 injection e with e
 injection e with e1 e2
 injection e2 with e2 _
 subst e1 e2
 exact ⟨h2.sets h1,h3.row (fun hn=>(h4 hn).1)⟩
end
set_option maxHeartbeats 1000000 in
theorem laws_markSpanSS_x (v:Value) (S:Nat → Prop) (l:List (List Sp)) (k:Int) (w:World) (h:SetsP w S v l) (hn:l.length ≤ 1048576) (hsi:∀ i,i < l.length → (setAt l i).length ≤ 1048576)
  (hk0:0 ≤ k) (hk:k ≤ 562949953421312) :
  Calls Tryz.prog 87 #[v,.int .i64 k] w (fun e w' => e=.returned (.int .i64 (k+preLen l l.length))∧Off S w w' ∧ MarkedX w' S v l k):=by
 obtain ⟨g0,f,g,h1,h2,h3,h4⟩:=h
 obtain ⟨A,c,rfl⟩:=h1.len
 have H1:=qh h1
 have H2:=qh h2
 have H3:=qh h3
 have H4:=qh h4
 have Hsi:=qh hsi
 have Hpl:=qh (preLen_le l hsi)
 clear h1 h2 h3 h4 hsi
 go_enter Tryz.func87,Tryz.ntmps87
 go_wp2_with fail
 go_loopg [1,5] l.length (fun q t i wr=>∃ (j:Nat),j+q=l.length∧i=.int .i64 j∧t=.int .i64 (k+preLen l j)∧Off S w wr∧Own wr g0 1 (.slice A l.length c) l.length f ∧
  ∀ i,i < l.length → Own wr (g i) 2 (f i) (setAt l i).length (if i < j then numCell (k+preLen l i) else spanCell (setAt l i)))
 case atStart=>exact ⟨0,by omega,rfl,by simp [preLen],Off.refl _ _,H1.out,fun i hi=>(H3.out i hi).1⟩
 case round =>
  obtain ⟨j,hj,rfl,rfl,hx,hown,hok⟩:=hrel
  have Hok:=qh hok
  clear hok
  by_cases hlt:j < l.length
  ·obtain ⟨off,rfl,hb,hc⟩:=hown.at_ (by omega)
   have c0:=(hc j (by omega)).1
   have Hown:=qh hown
   clear hown hc
   have hp1:=Hpl.out j (by omega)
   have hp2:=Hpl.out (j+1) (by omega)
   have hs:=Hsi.out j hlt
   go_wp2_with fail
   refine Calls.mono (laws_markSpanS _ (g j) _ _ _ _ (Hok.out j hlt) hs (by omega) (by omega)) ?_
   rintro e w1 ⟨rfl,hx1,hm1⟩
   have Hm1:=qh hm1
   clear hm1
   have hgj:0 < (setAt l j).length → S (g j)∧g j ≠ g0:=(H3.out j hlt).2
   have Hx:=qh (hx.trans (hx1.mono (fun x hx=>by rw [hx.2];exact (hgj hx.1).1)))
   have Hx1:=qh hx1
   clear hx hx1
   go_wp2_with fail
   go_roundg (l.length - (j+1))
   case measure=>omega
   case rel =>
    refine ⟨j+1,by omega,by go_num,?_,Hx.out,Hown.out.off Hx1.out (fun _ hh=>(hgj hh.1).2 hh.2.symm),fun i hi=>?_⟩
    ·congr 1;simp only [preLen];omega
    ·by_cases e:i=j
     ·subst e
      rw [if_pos (by omega)]
      exact Hm1.out
     ·have hi2:=(Hok.out i hi).off Hx1.out (fun h0 hh=>H4.out i j hi hlt e h0 hh.1 hh.2)
      by_cases hij:i < j
      ·rw [if_pos hij] at hi2
       rw [if_pos (by omega)]
       exact hi2
      ·rw [if_neg hij] at hi2
       rw [if_neg (by omega)]
       exact hi2
  ·obtain rfl:j=l.length:=by omega
   have Hown:=qh hown
   clear hown
   go_wp2_with fail
   go_ret
   refine ⟨rfl,hx,g0,f,g,Hown.out,H2.out,fun i hi=>?_⟩
   have h5:=Hok.out i hi
   rw [if_pos hi] at h5
   exact ⟨h5,fun h0=>((H3.out i hi).2 h0).1⟩
set_option maxHeartbeats 1000000 in
theorem laws_markNetwork_x (s kk:Value) (lo hi:Nat) (n:Net) (k:Int) (w:World) (h:NetX w lo hi (.agg #[s,kk]) n) (hh:hi ≤ w.heap.size) (hsm:Small n) (hk0:0 ≤ k) (hk:k ≤ 562949953421312) :
  Calls Tryz.prog 33 #[.agg #[s,kk],.int .i64 k] w (MarkP lo hi (k+netCells n) (fun w' => MarkedNet w' lo hi (.agg #[s,kk]) n k) w):=by
 obtain ⟨s', kk', S,gk,e,h1,h3,h4,h5⟩:=h
 injection e with e
 injection e with e
 injection e with e1 e2
 injection e2 with e2 _
 subst e1 e2
 obtain ⟨A,c,rfl⟩:∃ A c,s=.slice A n.sets.length c:=by obtain ⟨g0,f,g,k1,_⟩:=h3;exact k1.len
 obtain ⟨A2,c2,rfl⟩:=h4.len
 have H1:=qh h1
 have H3:=qh h3
 have H4:=qh h4
 have H5:=qh h5
 clear h1 h3 h4 h5
 obtain ⟨hsm1,hsm2,hsm3⟩:=hsm
 have hpl:=preLen_le n.sets hsm3 _ (Nat.le_refl _)
 have Hsm3:=qh hsm3
 clear hsm3
 go_enter Tryz.func33,Tryz.ntmps33
 go_wp2_with fail
 refine Calls.mono (laws_markSpanSS_x _ S n.sets _ _ (H3.out.off (R:=fun _=>False) (Off.of_ext exts) (fun _ _ h=>h)) hsm1 Hsm3.out (by omega) (by omega)) ?_
 rintro e w1 ⟨rfl,hx1,hm1⟩
 have hxb:=(Ext.refl w).alloc (.cells #[.slice A n.sets.length c,.slice A2 n.links.length c2] 78)
 have hbx:=((Boxed.new w [.slice A n.sets.length c,.slice A2 n.links.length c2] 78)).off hx1 (fun hh=>by have:=(H1.out _ hh).2;omega)
 have hbx1:=hbx.at1
 have Hm1:=qh hm1
 have Hx1:=qh hx1
 clear hbx hm1 hx1
 go_wp2_with fail
 refine Calls.mono (laws_markLinkS _ gk _ _ _ _ ((H4.out.ext hxb).off Hx1.out (fun h0 hh=>(H5.out h0).2 hh)) hsm2 (by omega) (by omega)) ?_
 rintro e w2 ⟨rfl,hx2,hm2⟩
 go_wp2_with fail
 go_ret
 refine ⟨ret_int (by unfold netCells;omega),?_,_,_,rfl,?_,hm2.row (fun h0=>(H5.out h0).1)⟩
 ·exact ((Off.of_ext hxb).trans (Hx1.out.mono (fun x hx=>H1.out x hx))).trans (hx2.mono (fun x hx=>by rw [hx.2];exact (H5.out hx.1).1))
 ·exact (Hm1.out.off hx2 (fun x h6 h7=>(H5.out h7.1).2 (by rw [← h7.2];exact h6))).sets H1.out
theorem Dst.offB {S:Nat → Prop} {w w' : World} {b:Nat} {e:TypeId} {sz n:Nat} {v:Value} {xs:List Value} (h:Dst w b e sz v n xs) (hx:Off S w w') (hs:∀ g,v.ownBlock=some g → ¬ S g):Dst w' b e sz v n xs:=by
 rcases h with h | ⟨h1,h2,h3,h4⟩
 ·exact .inl (ownsRow_off h hx hs)
 ·exact .inr ⟨h1,h2,h3,fun g hg=>Nat.lt_of_lt_of_le (h4 g hg) hx.size⟩
structure NetGF (TS TL:TypeId) (lo:Nat) (w:World) (sv kv:Value) (l:List (List Sp)) (ks:List Lk) (f:Nat → Value) (g:Nat → Nat):Prop where
 s:Dst w lo TS 1 sv l.length (cellsOf (l.length * 1) f)
 k:Dst w lo TL 4 kv ks.length (cellsOf (ks.length * 4) (linkCell ks))
 e:∀ i,i < l.length → Own w (g i) 2 (f i) (setAt l i).length (spanCell (setAt l i))∧(0 < (setAt l i).length → lo ≤ g i∧sv.ownBlock ≠ some (g i)∧kv.ownBlock ≠ some (g i))
 d:∀ i j,i < l.length → j < l.length → i ≠ j → 0 < (setAt l i).length → 0 < (setAt l j).length → g i ≠ g j
 x:∀ b,sv.ownBlock=some b → kv.ownBlock ≠ some b
def NetG (TS TL:TypeId) (lo:Nat) (w:World) (sv kv:Value) (l:List (List Sp)) (ks:List Lk):Prop:=∃ f g,NetGF TS TL lo w sv kv l ks f g
theorem NetGF.ext {TS TL:TypeId} {lo:Nat} {w w' : World} {sv kv:Value} {l:List (List Sp)} {ks:List Lk} {f:Nat → Value} {g:Nat → Nat} (h:NetGF TS TL lo w sv kv l ks f g) (hx:Ext w w'):NetGF TS TL lo w' sv kv l ks f g :=
 ⟨h.s.offB (S:=fun _=>False) (Off.of_ext hx) (fun _ _ h=>h),h.k.offB (S:=fun _=>False) (Off.of_ext hx) (fun _ _ h=>h),fun i hi=>⟨(h.e i hi).1.ext hx,(h.e i hi).2⟩,h.d,h.x⟩
theorem NetG.ext {TS TL:TypeId} {lo:Nat} {w w' : World} {sv kv:Value} {l:List (List Sp)} {ks:List Lk} (h:NetG TS TL lo w sv kv l ks) (hx:Ext w w'):NetG TS TL lo w' sv kv l ks:=by
 obtain ⟨f,g,h⟩:=h
 exact ⟨f,g,h.ext hx⟩
theorem NetG.empty (TS TL:TypeId) (lo:Nat) (w:World):NetG TS TL lo w (.slice none 0 0) (.slice none 0 0) [] [] :=
 ⟨fun _=>.bool true,fun _=>0,.inl (by simpa [cellsOf] using World.ownsRow_nil w lo TS 1),.inl (by simpa [cellsOf] using World.ownsRow_nil w lo TL 4),fun i hi=>absurd hi (by simp),fun i j hi=>absurd hi (by simp),fun b h=>by cases h⟩
theorem NetG.pushS {TS TL:TypeId} {lo gu:Nat} {w w2 w3:World} {sv kv sv' u:Value} {l:List (List Sp)} {ks:List Lk} {s:List Sp} {f:Nat → Value} {g:Nat → Nat} (h:NetGF TS TL lo w sv kv l ks f g) (hx:Ext w w2) (hgu:0 < s.length → w.heap.size ≤ gu) (hlo:lo ≤ w.heap.size)
  (hu:Own w2 gu 2 u s.length (spanCell s)) (hp:Put lo w2 sv w3 sv') (h4:w3.ownsRow lo TS 1 sv' (l.length+1) (cellsOf (l.length * 1) f ++ cellsOf (1 * 1) (fun _=>u))):NetG TS TL lo w3 sv' kv (l ++ [s]) ks:=by
 obtain ⟨h1,hk,h2,h3,h5⟩:=h
 refine ⟨fun i=>if i=l.length then u else f i,fun i=>if i=l.length then gu else g i,?_,?_,?_,?_,?_⟩
 ·rw [List.length_append]
  have e:cellsOf (l.length * 1) f ++ cellsOf (1 * 1) (fun _=>u)=cellsOf ((l.length+1) * 1) (fun i=>if i=l.length then u else f i):=by
   rw [cellsOf_append]
   have:l.length * 1+1 * 1=(l.length+1) * 1:=by omega
   rw [this]
   refine cellsOf_congr (fun i hi=>?_)
   by_cases e:i=l.length
   ·rw [if_neg (by omega),if_pos e]
   ·rw [if_pos (by omega),if_neg e]
  rw [e] at h4
  exact .inl h4
 ·exact (hk.offB (S:=fun _=>False) (Off.of_ext hx) (fun _ _ h=>h)).offB hp.1 (fun b hb hh=>h5 b hh.2.2 hb)
 ·intro i hi
  rw [List.length_append] at hi
  have hi' : i < l.length+1:=hi
  rw [setAt_push l s hi']
  show Own w3 (if i=l.length then gu else g i) 2 (if i=l.length then u else f i) _ _∧_
  by_cases e:i=l.length
  ·simp only [if_pos e]
   refine ⟨hu.off hp.1 (fun h0 hh=>?_),fun h0=>⟨by have:=hgu h0;omega,fun hh=>?_,fun hh=>?_⟩⟩
   ·have:=h1.lt gu hh.2.2
    have:=hgu h0
    omega
   ·rcases hp.2 gu hh with hh | hh
    ·have:=h1.lt gu hh.2.2
     have:=hgu h0
     omega
    ·have:=hu.lt h0
     omega
   ·have:=hk.lt gu hh
    have:=hgu h0
    omega
  ·simp only [if_neg e]
   have h6:=h2 i (by omega)
   refine ⟨(h6.1.ext hx).off hp.1 (fun h0 hh=>(h6.2 h0).2.1 hh.2.2),fun h0=>⟨(h6.2 h0).1,fun hh=>?_,(h6.2 h0).2.2⟩⟩
   rcases hp.2 (g i) hh with hh | hh
   ·exact (h6.2 h0).2.1 hh.2.2
   ·have h7:=h6.1.lt h0
    have h8:=hx.size
    omega
 ·intro i j hi hj hne
  rw [List.length_append] at hi hj
  have hi' : i < l.length+1:=hi
  have hj' : j < l.length+1:=hj
  rw [setAt_push l s hi', setAt_push l s hj']
  show _ → _ → (if i=l.length then gu else g i) ≠ (if j=l.length then gu else g j)
  by_cases e:i=l.length
  ·have e2:¬ j=l.length:=by omega
   simp only [if_pos e,if_neg e2]
   intro h0 h0' hh
   have h6:=(h2 j (by omega)).1.lt h0'
   have h7:=hgu h0
   omega
  ·by_cases e2:j=l.length
   ·simp only [if_neg e,if_pos e2]
    intro h0 h0' hh
    have h6:=(h2 i (by omega)).1.lt h0
    have h7:=hgu h0'
    omega
   ·simp only [if_neg e,if_neg e2]
    exact h3 i j (by omega) (by omega) hne
 ·intro b hb hk2
  rcases hp.2 b hb with hh | hh
  ·exact h5 b hh.2.2 hk2
  ·have:=hk.lt b hk2
   have:=hx.size
   omega
theorem NetG.pushK {TS TL:TypeId} {lo:Nat} {w w2 w3:World} {sv kv kv' : Value} {l:List (List Sp)} {ks:List Lk} {lk:Lk} (h:NetG TS TL lo w sv kv l ks) (hx:Ext w w2)
  (hp:Put lo w2 kv w3 kv') (h4:w3.ownsRow lo TL 4 kv' (ks.length+1) (cellsOf (ks.length * 4) (linkCell ks) ++ cellsOf (1 * 4) (linkCell [lk]))):NetG TS TL lo w3 sv kv' l (ks ++ [lk]):=by
 obtain ⟨f,g,h1,hk,h2,h3,h5⟩:=h
 refine ⟨f,g,?_,?_,?_,h3,?_⟩
 ·exact (h1.offB (S:=fun _=>False) (Off.of_ext hx) (fun _ _ h=>h)).offB hp.1 (fun b hb hh=>h5 b hb hh.2.2)
 ·rw [linkCells_push] at h4
  refine .inl ?_
  rw [show (ks ++ [lk]).length=ks.length+1 by simp] at h4 ⊢
  exact h4
 ·intro i hi
  have h6:=h2 i hi
  refine ⟨(h6.1.ext hx).off hp.1 (fun h0 hh=>(h6.2 h0).2.2 hh.2.2),fun h0=>⟨(h6.2 h0).1,(h6.2 h0).2.1,fun hh=>?_⟩⟩
  rcases hp.2 (g i) hh with hh | hh
  ·exact (h6.2 h0).2.2 hh.2.2
  ·have h7:=h6.1.lt h0
   have h8:=hx.size
   omega
 ·intro b hb hk2
  rcases hp.2 b hk2 with hh | hh
  ·exact h5 b hb hh.2.2
  ·have:=h1.lt b hb
   have:=hx.size
   omega
theorem Dst.own {w:World} {b:Nat} {e:TypeId} {sz n:Nat} {v:Value} {f:Nat → Value} (h:Dst w b e sz v n (cellsOf (n * sz) f)):∃ g,(0 < n → v.ownBlock=some g∧b ≤ g)∧Own w g sz v n f:=by
 rcases h with h | ⟨h1,_,⟨A,e⟩,_⟩
 ·exact Own.of_owned h
 ·exact ⟨0,fun h=>absurd h (by omega),by rw [h1];exact ⟨Nat.zero_le _,A,0,e,Nat.le_refl _,fun h=>absurd h (by omega)⟩⟩
theorem NetG.done {TS TL:TypeId} {lo:Nat} {w:World} {sv kv:Value} {l:List (List Sp)} {ks:List Lk} (h:NetG TS TL lo w sv kv l ks):NetX w lo w.heap.size (.agg #[sv,kv]) ⟨l,ks⟩:=by
 obtain ⟨f,g,h1,hk,h2,h3,h5⟩:=h
 obtain ⟨g0,hg0,ho⟩:=h1.own
 obtain ⟨gk,hgk,hok⟩:=hk.own
 refine ⟨sv,kv,fun x=>(lo ≤ x∧x < w.heap.size)∧kv.ownBlock ≠ some x,gk,rfl,fun x hx=>hx.1,⟨g0,f,g,ho,fun hn=>⟨⟨(hg0 hn).2,ho.lt hn⟩,h5 g0 (hg0 hn).1⟩,fun i hi=>⟨(h2 i hi).1,fun h0=>⟨⟨⟨((h2 i hi).2 h0).1,(h2 i hi).1.lt h0⟩,((h2 i hi).2 h0).2.2⟩,fun e=>?_⟩⟩,h3⟩,hok,fun hn=>⟨⟨(hgk hn).2,hok.lt hn⟩,fun hh=>hh.2 (hgk hn).1⟩⟩
 have hi' : i < l.length:=hi
 have hn:0 < l.length:=by omega
 have h6:=((h2 i hi).2 h0).2.1
 rw [e] at h6
 exact h6 (hg0 hn).1
end Go.Proofs.YtechbeegbhlppaaGreatDoor
