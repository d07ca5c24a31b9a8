/- Contracts: l02Make: spans put in order and joined. -/
import Derived.Test.YtechbeegbhlppaaGreatDoorS2T
import Derived.Test.YtechbeegbhlppaaGreatDoorS2Lib
import Derived.Laws.OwnMore
import Derived.Deep.RegionHeld3
import Derived.StillTailTactics
import Derived.OneCell
namespace Go.Proofs.YtechbeegbhlppaaGreatDoor
set_option linter.unusedVariables false
set_option linter.unusedSimpArgs false
open Go.RowKit
attribute [local go_sem] cell_onto
def RowSp (w:World) (base:Nat) (T:TypeId) (u:Value) (l:List Sp):Prop:=w.ownsRow base T 2 u l.length (cellsOf (l.length * 2) (spanCell l))
theorem spanCell_even (l:List Sp) (k:Nat):spanCell l (2 * k)=.int .i64 (spAt l k).fr:=by unfold spanCell;rw [if_pos (by omega),show 2 * k / 2=k by omega]
theorem spanCell_odd (l:List Sp) (k:Nat):spanCell l (2 * k+1)=.int .i64 (spAt l k).to:=by unfold spanCell;rw [if_neg (by omega),show (2 * k+1) / 2=k by omega]
theorem RowSp.ext {w w' : World} {base:Nat} {T:TypeId} {u:Value} {l:List Sp} (h:RowSp w base T u l) (hx:Ext w w'):RowSp w' base T u l:=row_ext h hx
theorem RowSp.cells {w:World} {base:Nat} {T:TypeId} {u:Value} {l:List Sp} (h:RowSp w base T u l) (h0:0 < l.length) :
  ∃ g cap,u=.slice (some ⟨g,0,none⟩) l.length cap∧base ≤ g∧g < w.heap.size∧l.length ≤ cap ∧
   ∀ k,k < l.length → w.cell? ⟨g,k * 2,none⟩=some (.int .i64 (spAt l k).fr)∧w.cell? ⟨g,k * 2+1,none⟩=some (.int .i64 (spAt l k).to)∧w.frozen? ⟨g,k * 2,none⟩=false∧w.frozen? ⟨g,k * 2+1,none⟩=false:=by
 rcases h.2 with ⟨_,h1⟩ | ⟨g,cap,cur,rfl,hg,hgc,hcap,hmx,hsz,htk⟩
 ·omega
 ·have hrow:w.ownsRow base T 2 (.slice (some ⟨g,0,none⟩) l.length cap) l.length (cellsOf (l.length * 2) (spanCell l)):=h
  obtain ⟨g', hg', ho⟩:=Own.of_owned hrow
  obtain rfl:g=g' := by
   have:=(hg' h0).1
   simpa [Value.ownBlock] using this
  obtain ⟨off,e,hlt,hc⟩:=ho.at_ h0
  obtain rfl:off=0:=by injection e with e;injection e with _ e;exact e.symm
  refine ⟨g,cap,rfl,hg,hlt,hcap,fun k hk=>?_⟩
  obtain ⟨c1,c2⟩:=hc (2 * k) (by omega)
  obtain ⟨c3,c4⟩:=hc (2 * k+1) (by omega)
  rw [spanCell_even,Nat.zero_add] at c1
  rw [spanCell_odd,Nat.zero_add] at c3
  rw [Nat.zero_add] at c2 c4
  rw [Nat.mul_comm k 2]
  exact ⟨c1,c3,c2,c4⟩
theorem cells_set {l:List Sp} {k:Nat} (s:Sp) (hk:k < l.length):((cellsOf (l.length * 2) (spanCell l)).set (k * 2) (.int .i64 s.fr)).set (k * 2+1) (.int .i64 s.to)=cellsOf ((l.set k s).length * 2) (spanCell (l.set k s)):=by
 refine List.ext_getElem? (fun i=>?_)
 rw [List.getElem?_set,List.getElem?_set,List.length_set,cellsOf_len,List.length_set]
 by_cases hi:i < l.length * 2
 ·rw [cellsOf_at hi,cellsOf_at hi]
  unfold spanCell
  rw [spAt_set]
  by_cases e1:k * 2+1=i
  ·rw [if_pos e1,if_pos (by omega),if_neg (show ¬ i % 2=0 by omega),if_pos (show i / 2=k∧i / 2 < l.length from ⟨by omega,by omega⟩)]
  ·rw [if_neg e1]
   by_cases e2:k * 2=i
   ·rw [if_pos e2,if_pos (by omega),if_pos (show i % 2=0 by omega),if_pos (show i / 2=k∧i / 2 < l.length from ⟨by omega,by omega⟩)]
   ·rw [if_neg e2,if_neg (show ¬ (i / 2=k∧i / 2 < l.length) by omega)]
 ·rw [if_neg (by omega),if_neg (by omega),List.getElem?_eq_none (by rw [cellsOf_len];omega),List.getElem?_eq_none (by rw [cellsOf_len];omega)]
theorem RowSp.set {w:World} {base g cap:Nat} {T:TypeId} {l:List Sp} (h:RowSp w base T (.slice (some ⟨g,0,none⟩) l.length cap) l) {k:Nat} (hk:k < l.length) (s:Sp) :
  RowSp ((w.setCell ⟨g,k * 2,none⟩ (.int .i64 s.fr)).setCell ⟨g,k * 2+1,none⟩ (.int .i64 s.to)) base T (.slice (some ⟨g,0,none⟩) (l.set k s).length cap) (l.set k s):=by
 have h2:=(World.ownsRow.stored (World.ownsRow.stored h (k * 2) (.int .i64 s.fr)).1 (k * 2+1) (.int .i64 s.to)).1
 unfold RowSp
 rw [cells_set s hk] at h2
 rwa [List.length_set] at h2 ⊢
theorem cells_setTo {l:List Sp} {k:Nat} (x:Int) (hk:k < l.length):(cellsOf (l.length * 2) (spanCell l)).set (k * 2+1) (.int .i64 x)=cellsOf ((l.set k ⟨(spAt l k).fr,x⟩).length * 2) (spanCell (l.set k ⟨(spAt l k).fr,x⟩)):=by
 refine List.ext_getElem? (fun i=>?_)
 rw [List.getElem?_set,cellsOf_len,List.length_set]
 by_cases hi:i < l.length * 2
 ·rw [cellsOf_at hi,cellsOf_at hi]
  unfold spanCell
  rw [spAt_set]
  by_cases e1:k * 2+1=i
  ·rw [if_pos e1,if_pos (by omega),if_neg (by omega),if_pos ⟨by omega,by omega⟩]
  ·rw [if_neg e1]
   by_cases e2:i / 2=k∧i / 2 < l.length
   ·rw [if_pos e2,if_pos (by omega),if_pos (by omega),e2.1]
   ·rw [if_neg e2]
 ·rw [if_neg (by omega),List.getElem?_eq_none (by rw [cellsOf_len];omega),List.getElem?_eq_none (by rw [cellsOf_len];omega)]
theorem RowSp.setTo {w:World} {base g cap:Nat} {T:TypeId} {l:List Sp} (h:RowSp w base T (.slice (some ⟨g,0,none⟩) l.length cap) l) {k:Nat} (hk:k < l.length) (x:Int) :
  RowSp (w.setCell ⟨g,k * 2+1,none⟩ (.int .i64 x)) base T (.slice (some ⟨g,0,none⟩) (l.set k ⟨(spAt l k).fr,x⟩).length cap) (l.set k ⟨(spAt l k).fr,x⟩):=by
 have h2:=(World.ownsRow.stored h (k * 2+1) (.int .i64 x)).1
 unfold RowSp
 rw [cells_setTo x hk] at h2
 rwa [List.length_set] at h2 ⊢
theorem spAt_push' (l:List Sp) (x:Sp) {i:Nat} (hi:i < l.length+1):spAt (l ++ [x]) i=if i=l.length then x else spAt l i:=by
 unfold spAt
 rw [List.getD_eq_getElem?_getD,List.getD_eq_getElem?_getD]
 by_cases h2:i=l.length
 ·subst h2;simp
 ·rw [if_neg h2,List.getElem?_append_left (by omega)]
theorem spanCells_push' (l:List Sp) (x:Sp):cellsOf (l.length * 2) (spanCell l) ++ cellsOf (1 * 2) (spanCell [x])=cellsOf ((l ++ [x]).length * 2) (spanCell (l ++ [x])):=by
 rw [cellsOf_append,List.length_append]
 have e:l.length * 2+1 * 2=(l.length+[x].length) * 2:=by simp;omega
 rw [e]
 refine cellsOf_congr (fun i hi=>?_)
 have hl:[x].length=1:=rfl
 rw [hl] at hi
 show (if i < l.length * 2 then spanCell l i else spanCell [x] (i - l.length * 2))=spanCell (l ++ [x]) i
 by_cases h:i < l.length * 2
 ·rw [if_pos h]
  unfold spanCell
  rw [spAt_push' l x (show i / 2 < l.length+1 by omega),if_neg (show ¬ i / 2=l.length by omega)]
 ·rw [if_neg h]
  have e1:(i - l.length * 2) % 2=i % 2:=by omega
  have e2:(i - l.length * 2) / 2=0:=by omega
  have e3:i / 2=l.length:=by omega
  unfold spanCell
  rw [e1,e2,spAt_push' l x (show i / 2 < l.length+1 by omega),if_pos e3]
  rfl
theorem RowSp.push {w:World} {base:Nat} {T:TypeId} {u:Value} {l:List Sp} {s:Sp} (h:w.ownsRow base T 2 u (l.length+1) (cellsOf (l.length * 2) (spanCell l) ++ cellsOf (1 * 2) (spanCell [s]))):RowSp w base T u (l ++ [s]):=by
 unfold RowSp
 rw [← spanCells_push' l s,List.length_append]
 exact h
def SpBd (s:Sp):Prop:=(-4611686018427387904 ≤ s.fr∧s.fr ≤ 4611686018427387904)∧(-4611686018427387904 ≤ s.to∧s.to ≤ 4611686018427387904)
theorem max_bd (a b:Int) (h : -4611686018427387904 ≤ a∧a ≤ 4611686018427387904) (h2 : -4611686018427387904 ≤ b∧b ≤ 4611686018427387904) : -4611686018427387904 ≤ max a b∧max a b ≤ 4611686018427387904:=by omega
def MkSt (w:World) (T:TypeId) (l:List Sp) (j:Nat) (u:Value) (wr:World):Prop:=Ext w wr∧RowSp wr w.heap.size T u (sortTo l j)
set_option maxRecDepth 100000 in
set_option maxHeartbeats 16000000 in
theorem spec_l02Make (v:Value) (l:List Sp) (w:World) (h:Spans w 0 w.heap.size v l) (hl:l.length ≤ 1048576) (hbd:∀ i,i < l.length → SpBd (spAt l i)) :
  Calls Tryz.prog 159 #[v] w (NewOwn 111 2 (mkL l).length (spanCell (mkL l)) w):=by
 obtain ⟨A,c,rfl,hn,hc⟩:=h.len
 have H:=qh h
 have Hbd:=qh hbd
 have Hmx:=qh max_bd
 clear h hbd
 have Hrow0:Hid (RowSp (w.alloc (.cells #[] 111)) w.heap.size 111 (.slice (some ⟨w.heap.size,0,none⟩) 0 0) []):=qh (by
  have:=World.ownsRow_made (base:=w.heap.size) (e:=111) (size:=2) w #[] 0 (by simp) (Nat.zero_le _) rfl
  unfold RowSp
  simpa [cellsOf] using this)
 go_enter Tryz.func159,Tryz.ntmps159
 go_wp2_with fail
 go_loopg [3,4,5,6] l.length (fun q u3 i u5 u6 wr=>∃ j:Nat,j+q=l.length∧i=.int .i64 j∧Hid (MkSt w 111 l j u3 wr)∧∃ A3 c3,u3=.slice A3 j c3)
 case atStart=>exact ⟨0,by omega,rfl,qh ⟨exts,Hrow0.out⟩,_,_,rfl⟩
 case round =>
  obtain ⟨j,hj,rfl,Hst,A3,c3,rfl⟩:=hrel
  have hxr:=Hst.out.1
  have hsl:=sortTo_len l j
  by_cases hlt:j < l.length
  ·obtain ⟨b,off,rfl,_,hb,h1,h2⟩:=H.out.at_ hlt
   have Hs:Hid (∀ w', Ext w w' → w'.cell? ⟨b,off+j * 2,none⟩=some (.int .i64 (spAt l j).fr)∧w'.cell? ⟨b,off+j * 2+1,none⟩=some (.int .i64 (spAt l j).to)):=qh (fun w' hx=>⟨(hx.cell (p:=⟨b,off+j * 2,none⟩) hb).trans h1,(hx.cell (p:=⟨b,off+j * 2+1,none⟩) hb).trans h2⟩)
   have Hb1:=qh (Hbd.out j hlt)
   obtain ⟨⟨f1,f2⟩,⟨f3,f4⟩⟩:=Hb1.out
   clear h1 h2
   go_wp2_with fail
   go_loopg [5] j (fun q i wq=>∃ p:Nat,p+q=j∧i=.int .i64 p∧Hid (MkSt w 111 l j (.slice A3 j c3) wq)∧Hid (∀ i,i < p → (spAt (sortTo l j) i).fr ≤ (spAt l j).fr))
   case atStart=>exact ⟨0,by omega,rfl,Hst,qh (fun i hi=>absurd hi (by omega))⟩
   clear Hst hxr
   case round =>
    obtain ⟨p,hp,rfl,Hst,Hle⟩:=hrel
    have hxr:=Hst.out.1
    have hzr:=hxr.size
    obtain ⟨s1,s2⟩:=Hs.out _ hxr
    have hbr:b < wr.heap.size:=by omega
    by_cases hc:p < j∧(spAt (sortTo l j) p).fr ≤ (spAt l j).fr
    ·obtain ⟨hpj,hle⟩:=hc
     have Hhle:=qh hle
     obtain ⟨g,cap,e,hg,hgz,hcap,hcell⟩:=Hst.out.2.cells (by rw [hsl];omega)
     rw [hsl] at e
     injection e with e1 e2 e3
     subst e1 e3
     obtain ⟨c1, -, -, -⟩:=hcell p (by omega)
     have T1:decide ((p:Int) < (j:Int))=true:=decide_eq_true (by omega)
     have T2:decide (p < j)=true:=decide_eq_true hpj
     have T3:decide ((spAt (sortTo l j) p).fr ≤ (spAt l j).fr)=true:=decide_eq_true hle
     clear hcell hle
     try go_wp2_with fail
     (refine wp_region_onto prog_mixed (by kernel_rfl) ?_;(repeat (go_big_quiet_step ((fail))));refine onto_end ?_;intro w1 hx1)
     have hxq:Ext wr w1:=exts
     go_wp2_with fail
     go_roundg (j - (p+1))
     case measure=>omega
     case rel=>exact ⟨p+1,by omega,by go_num,qh ⟨hxr.trans hxq,Hst.out.2.ext hxq⟩,qh (fun i hi=>by
      by_cases e:i=p
      ·subst e;exact Hhle.out
      ·exact Hle.out i (by omega))⟩
    ·have Hpos:Hid (posS (sortTo l j) (spAt l j).fr=p):=qh (posS_eq ⟨by rw [hsl];omega,Hle.out,fun h2=>by
      rw [hsl] at h2
      have:¬ (spAt (sortTo l j) p).fr ≤ (spAt l j).fr:=fun h3=>hc ⟨h2,h3⟩
      omega⟩)
     have hq:∃ w1,Ext wr w1:=⟨wr,Ext.refl _⟩
     by_cases hpj:p < j
     case' pos =>
      have hle:¬ (spAt (sortTo l j) p).fr ≤ (spAt l j).fr:=fun h3=>hc ⟨hpj,h3⟩
      obtain ⟨g,cap,e,hg,hgz,hcap,hcell⟩:=Hst.out.2.cells (by rw [hsl];omega)
      rw [hsl] at e
      injection e with e1 e2 e3
      subst e1 e3
      obtain ⟨c1, -, -, -⟩:=hcell p (by omega)
      have T1:decide ((p:Int) < (j:Int))=true:=decide_eq_true (by omega)
      have T2:decide (p < j)=true:=decide_eq_true hpj
      have T3:decide ((spAt (sortTo l j) p).fr ≤ (spAt l j).fr)=false:=decide_eq_false hle
      clear hcell hle hg hcap e2
     case' neg =>
      have T1:decide ((p:Int) < (j:Int))=false:=decide_eq_false (by omega)
      have T2:decide (p < j)=false:=decide_eq_false hpj
     all_goals
      try go_wp2_with fail
      (refine wp_region_onto prog_mixed (by kernel_rfl) ?_;(repeat (go_big_quiet_step ((fail))));refine onto_end ?_;intro w1 hx1)
      have hxq:Ext wr w1:=exts
      have Hst1:=qh (show MkSt w 111 l j _ w1 from ⟨hxr.trans hxq,Hst.out.2.ext hxq⟩)
      have hzq:=hxq.size
      clear s1 s2 hbr hx1 Hst hxq
      obtain ⟨wa,rfl⟩:∃ x:World,x=w1:=⟨_,rfl⟩
      have hxa:=Hst1.out.1
      have hza:=hxa.size
      have Hsrc:Hid (Row (wa.alloc (.cells #[.int .i64 0,.int .i64 0] 111)) 0 (wa.alloc (.cells #[.int .i64 0,.int .i64 0] 111)).heap.size 2 (.slice (some ⟨wa.heap.size,0,none⟩) 1 1) 1 (spanCell [⟨0,0⟩])):=qh ((Boxed.new wa [.int .i64 0,.int .i64 0] 111).row rfl (span_cells 0 0))
      go_wp2_with (at_builtin;refine wpList_append_row _ rfl _ _ 40 rfl w.heap.size 111 2 16 Tryz.underlying40 (by kernel_rfl) (by omega) _ (sortTo l j).length 1 _ rfl (.inl (row_ext Hst1.out.2 exts)) (.inr (by omega)) 0 _ _ (spanCell [⟨0,0⟩]) rfl Hsrc.out (fun i _=>spanCell_one _ i) (by rw [hsl];unfold maxLen;omega) (by rw [hsl];omega) (by simp;omega) ?_;intro v5 w5 hown5 hput5;have Hrow5:=qh (RowSp.push hown5);have Hx5:=qh (hput5.ext (show Ext w (wa.alloc (.cells #[.int .i64 0,.int .i64 0] 111)) from exts) (Nat.le_refl _));obtain ⟨A5,c5,rfl⟩:=ownsRow_len hown5;clear hown5 hput5)
      have hx5:=Hx5.out
      have hjj:((j+1:Nat):Int)=(j:Int)+1:=by omega
      obtain ⟨Lz,hLz⟩:∃ L,L=sortTo l j ++ [⟨0,0⟩]:=⟨_,rfl⟩
      have HLz:=qh hLz
      have HlL:Hid (Lz.length=j+1):=qh (by rw [hLz];simp [hsl])
      rw [← hLz,hsl] at Hrow5
      clear hLz hjj
      have hpj2:p ≤ j:=by omega
      clear hpj T1 T2 hc
      try clear T3
      go_loopg [6] (j - p) (fun q i wq=>∃ (k:Nat) (M:List Sp),p+q=k∧k ≤ j∧i=.int .i64 k∧Hid (ShOk Lz M k)∧Ext w wq∧Hid (RowSp wq w.heap.size 111 (.slice A5 (j+1) c5) M))
      case atStart=>exact ⟨j,Lz,by omega,by omega,by go_num,qh (by have:=ShOk.start Lz;rwa [HlL.out] at this),hx5,Hrow5⟩
      clear Hx5 hx5 Hrow5
      case round =>
       obtain ⟨k,M,hkq,hkj,rfl,Hsh,hxr,Hrow⟩:=hrel
       have HlM:=qh (Hsh.out.1.trans HlL.out)
       obtain ⟨g,cap,e,hg,hgz,hcap,hcell⟩:=Hrow.out.cells (by rw [HlM.out];omega)
       rw [HlM.out] at e hcell hcap
       injection e with e1 e2 e3
       subst e1 e3
       by_cases hkp:p < k
       ·have T1:decide ((p:Int) < (k:Int))=true:=decide_eq_true (by omega)
        have T2:decide (p < k)=true:=decide_eq_true hkp
        obtain ⟨c1,c2, -, -⟩:=hcell (k - 1) (by omega)
        obtain ⟨d1,d2,d3,d4⟩:=hcell k (by omega)
        have hk0:0 < k:=by omega
        have q1:(0:Int) ≤ (k:Int) - 1:=by omega
        have q2:(k:Int) - 1 < (j:Int)+1:=by omega
        have q3:((k:Int) - 1).toNat=k - 1:=by omega
        have Hkq:=qh hkq
        have Hsh2:Hid (ShOk Lz (M.set k (spAt M (k - 1))) (k - 1)):=qh (by
         obtain ⟨k', rfl⟩:∃ k', k=k' + 1:=⟨k - 1,by omega⟩
         exact ShOk.step Hsh.out (by rw [HlL.out];omega))
        have Hrow2:Hid (RowSp ((wr.setCell ⟨g,k * 2,none⟩ (.int .i64 (spAt M (k - 1)).fr)).setCell ⟨g,k * 2+1,none⟩ (.int .i64 (spAt M (k - 1)).to)) w.heap.size 111 (.slice (some ⟨g,0,none⟩) (j+1) c5) (M.set k (spAt M (k - 1)))):=qh (by
         have hr:=Hrow.out
         rw [← HlM.out] at hr
         have:=RowSp.set hr (k:=k) (by rw [HlM.out];omega) (spAt M (k - 1))
         rwa [List.length_set,HlM.out] at this)
        clear hkq hcell
        go_wp2_with fail
        go_roundg (k - 1 - p)
        case measure=>have:=Hkq.out;omega
        case rel=>exact ⟨k - 1,M.set k (spAt M (k - 1)),by omega,by omega,by go_num,Hsh2,(hxr.setCell (by show _ ≤ g;omega) _).setCell (by show _ ≤ g;omega) _,Hrow2⟩
       ·obtain rfl:k=p:=by omega
        have T1:decide ((k:Int) < (k:Int))=false:=decide_eq_false (by omega)
        obtain ⟨d1,d2,d3,d4⟩:=hcell k (by omega)
        obtain ⟨s1,s2⟩:=Hs.out _ hxr
        have hr:=Hrow.out
        rw [← HlM.out] at hr
        have hr2:=RowSp.set hr (k:=k) (by rw [HlM.out];omega) (spAt l j)
        have hsh:=Hsh.out
        rw [HLz.out,← Hpos.out] at hsh
        have hdn:=ShOk.done hsh
        rw [Hpos.out] at hdn
        rw [hdn] at hr2
        have Hr2:Hid (MkSt w 111 l (j+1) (.slice (some ⟨g,0,none⟩) (j+1) c5) ((wr.setCell ⟨g,k * 2,none⟩ (.int .i64 (spAt l j).fr)).setCell ⟨g,k * 2+1,none⟩ (.int .i64 (spAt l j).to))):=qh ⟨(hxr.setCell (by show _ ≤ g;omega) _).setCell (by show _ ≤ g;omega) _,by
         rw [insS_len,hsl] at hr2
         exact hr2⟩
        clear hr hr2 hsh hdn hcell hkq
        go_wp2_with fail
        go_roundg (l.length - (j+1))
        case measure=>omega
        case rel=>exact ⟨j+1,by omega,by go_num,Hr2,_,_,rfl⟩
  ·obtain rfl:j=l.length:=by omega
   obtain ⟨S,hS⟩:∃ S,S=sortTo l l.length:=⟨_,rfl⟩
   have HS:=qh hS
   have HSl:Hid (S.length=l.length):=qh (by rw [hS];exact hsl)
   have HSb:Hid (∀ i,i < l.length → SpBd (spAt S i)):=qh (by rw [hS];exact sortTo_all Hbd.out l.length (Nat.le_refl _))
   have HrS:Hid (RowSp wr w.heap.size 111 (.slice A3 l.length c3) S):=qh (by rw [hS];exact Hst.out.2)
   have HgS:Hid (∀ g,(Value.slice A3 l.length c3).ownBlock=some g → g < wr.heap.size):=qh (fun g hg=>(HrS.out.lt g hg).2)
   obtain ⟨wa,rfl⟩:∃ x:World,x=wr:=⟨_,rfl⟩
   have Hxa:=qh hxr
   have hza:=hxr.size
   have Hr0:Hid (RowSp (wa.alloc (.cells #[] 111)) wa.heap.size 111 (.slice (some ⟨wa.heap.size,0,none⟩) 0 0) []):=qh (by
    have:=World.ownsRow_made (base:=wa.heap.size) (e:=111) (size:=2) wa #[] 0 (by simp) (Nat.zero_le _) rfl
    unfold RowSp
    simpa [cellsOf] using this)
   have Hm:Hid (mkL l=joinTo S l.length):=qh (by rw [hS];unfold mkL joinL;rw [sortTo_len])
   clear hS hxr Hst hsl hlt
   go_wp2_with fail
   go_loopg [7,8,9] l.length (fun q u7 i u9 wq=>∃ (j n7:Nat),j+q=l.length∧i=.int .i64 j∧Hid (Ext w wq)∧Hid (RowSp wq w.heap.size 111 (.slice A3 l.length c3) S)∧Hid (RowSp wq wa.heap.size 111 u7 (joinTo S j))∧wa.heap.size ≤ wq.heap.size∧Hid ((joinTo S j).length=n7)∧∃ A7 c7,u7=.slice A7 n7 c7)
   case atStart=>exact ⟨0,0,by omega,rfl,qh (Hxa.out.alloc _),qh (HrS.out.ext exts),Hr0,by simp,qh rfl,_,_,rfl⟩
   clear Hr0 HrS
   case round =>
    obtain ⟨j,n7,hj,rfl,Hx,HrS,HrO,hz,HOl,A7,c7,rfl⟩:=hrel
    have hx:=Hx.out
    have Hpre:=qh (joinTo_len S j)
    by_cases hlt:j < l.length
    ·obtain ⟨gS,capS,e,hgS,hgSz,hcapS,hcS⟩:=HrS.out.cells (by rw [HSl.out];omega)
     rw [HSl.out] at e hcS
     injection e with e1 e2 e3
     subst e1 e3
     obtain ⟨s1,s2, -, -⟩:=hcS j hlt
     have hgSa:gS < wa.heap.size:=HgS.out gS rfl
     obtain ⟨⟨f1,f2⟩,⟨f3,f4⟩⟩:=HSb.out j hlt
     have HOb:=qh (joinTo_all (l:=S) (P:=fun x => -4611686018427387904 ≤ x∧x ≤ 4611686018427387904) Hmx.out (fun i hi=>(HSb.out i (by rw [← HSl.out];exact hi)).2) j (by rw [HSl.out];omega))
     have Hstep:Hid (joinTo S (j+1)=joinS (joinTo S j) (spAt S j)):=qh rfl
     have hn7:n7 ≤ j:=by rw [← HOl.out];exact Hpre.out
     clear hcS
     by_cases hc:joinTo S j ≠ []∧(spAt S j).fr ≤ (spAt (joinTo S j) ((joinTo S j).length - 1)).to+1
     ·have Hj:Hid (joinTo S (j+1)=(joinTo S j).set (n7 - 1) ⟨(spAt (joinTo S j) (n7 - 1)).fr,max (spAt (joinTo S j) (n7 - 1)).to (spAt S j).to⟩):=qh (by rw [Hstep.out];unfold joinS;rw [if_pos hc,HOl.out])
      obtain ⟨hne,hle⟩:=hc
      have hpos:0 < n7:=by rw [← HOl.out];exact List.length_pos_iff.2 hne
      rw [HOl.out] at hle
      obtain ⟨g7,cap7,e,hg7,hg7z,hcap7,hcO⟩:=HrO.out.cells (by rw [HOl.out];exact hpos)
      rw [HOl.out] at e hcO
      injection e with e1 e2 e3
      subst e1 e3
      obtain ⟨o1,o2,o3,o4⟩:=hcO (n7 - 1) (by omega)
      obtain ⟨b1,b2⟩:=HOb.out (n7 - 1) (by rw [HOl.out];omega)
      have Hset:Hid (∀ w', Ext wr w' → ∀ x,RowSp (w'.setCell ⟨g7,(n7 - 1) * 2+1,none⟩ (.int .i64 x)) wa.heap.size 111 (.slice (some ⟨g7,0,none⟩) n7 c7) ((joinTo S j).set (n7 - 1) ⟨(spAt (joinTo S j) (n7 - 1)).fr,x⟩)):=qh (fun w' hx' x=>by
       have hr:=HrO.out.ext hx'
       rw [← HOl.out] at hr
       have:=RowSp.setTo hr (k:=(joinTo S j).length - 1) (by rw [HOl.out];omega) x
       rwa [List.length_set,HOl.out] at this)
      have HS2:Hid (∀ w', Ext wr w' → ∀ x,RowSp (w'.setCell ⟨g7,(n7 - 1) * 2+1,none⟩ (.int .i64 x)) w.heap.size 111 (.slice (some ⟨gS,0,none⟩) l.length c3) S):=qh (fun w' hx' x=>ownsRow_setCell_other (HrS.out.ext hx') (fun h=>by
       have:gS=g7:=by simpa [Value.ownBlock] using h
       omega) _)
      have HOl2:Hid ((joinTo S (j+1)).length=n7):=qh (by rw [Hj.out,List.length_set];exact HOl.out)
      generalize joinTo S j=O at *
      have T1:decide ((0:Int) ≤ (n7:Int) - 1)=true:=decide_eq_true (by omega)
      have T1a:decide ((1:Int) ≤ (n7:Int))=true:=decide_eq_true (by omega)
      have T1b:decide (1 ≤ n7)=true:=decide_eq_true (by omega)
      have T1c:decide (0 < n7)=true:=decide_eq_true (by omega)
      have T1d:decide ((0:Int) < (n7:Int))=true:=decide_eq_true (by omega)
      have h1n:1 ≤ n7:=hpos
      have T3:decide ((spAt S j).fr ≤ (spAt O (n7 - 1)).to+1)=true:=decide_eq_true hle
      have i1:(0:Int) ≤ (n7:Int) - 1:=by omega
      have i2:(n7:Int) - 1 < (n7:Int):=by omega
      have i3:((n7:Int) - 1).toNat=n7 - 1:=by omega
      have hgSr:gS < wr.heap.size:=by omega
      clear hcO hne hle
      go_wp2_with fail
      (refine wp_region_onto prog_mixed (by kernel_rfl) ?_;(repeat (go_big_quiet_step ((fail))));refine onto_end ?_;intro w1 hx1)
      have hxq:Ext wr w1:=exts
      have hzq:=hxq.size
      have r1:=(hxq.cell (p:=⟨gS,j * 2+1,none⟩) hgSr).trans s2
      have r2:=(hxq.cell (p:=⟨g7,(n7 - 1) * 2+1,none⟩) hg7z).trans o2
      have r3:=(hxq.frozen (p:=⟨g7,(n7 - 1) * 2+1,none⟩) hg7z).trans o4
      have hgS1:gS < w1.heap.size:=by omega
      have hg71:g7 < w1.heap.size:=by omega
      have Hx1:=qh (Hx.out.trans hxq)
      clear o1 o2 o3 o4 s1 s2 hx hx1 T3
      go_wp2_with fail
      by_cases t:(spAt O (n7 - 1)).to < (spAt S j).to
      ·have Hmv:Hid (max (spAt O (n7 - 1)).to (spAt S j).to=(spAt S j).to):=qh (by omega)
       have Hrw:=qh (show RowSp ((w1.setCell ⟨g7,(n7 - 1) * 2+1,none⟩ (.int .i64 (spAt S j).to)).drew) wa.heap.size 111 (.slice (some ⟨g7,0,none⟩) n7 c7) (joinTo S (j+1)) from by rw [Hj.out,Hmv.out];exact (Hset.out w1 hxq _).ext ((Ext.refl _).drew))
       have HsS:=qh ((HS2.out w1 hxq (spAt S j).to).ext ((Ext.refl _).drew))
       have Hxx:=qh (show Ext w ((w1.setCell ⟨g7,(n7 - 1) * 2+1,none⟩ (.int .i64 (spAt S j).to)).drew) from (Hx1.out.setCell (by show w.heap.size ≤ g7;omega) _).drew)
       go_region
       go_wp2_with fail
       go_roundg (l.length - (j+1))
       case measure=>omega
       case rel=>exact ⟨j+1,n7,by omega,by go_num,Hxx,HsS,Hrw,by simp;omega,HOl2,_,_,rfl⟩
      ·have Hmv:Hid (max (spAt O (n7 - 1)).to (spAt S j).to=(spAt O (n7 - 1)).to):=qh (by omega)
       have Hrw:=qh (show RowSp ((w1.setCell ⟨g7,(n7 - 1) * 2+1,none⟩ (.int .i64 (spAt O (n7 - 1)).to)).drew) wa.heap.size 111 (.slice (some ⟨g7,0,none⟩) n7 c7) (joinTo S (j+1)) from by rw [Hj.out,Hmv.out];exact (Hset.out w1 hxq _).ext ((Ext.refl _).drew))
       have HsS:=qh ((HS2.out w1 hxq (spAt O (n7 - 1)).to).ext ((Ext.refl _).drew))
       have Hxx:=qh (show Ext w ((w1.setCell ⟨g7,(n7 - 1) * 2+1,none⟩ (.int .i64 (spAt O (n7 - 1)).to)).drew) from (Hx1.out.setCell (by show w.heap.size ≤ g7;omega) _).drew)
       go_region
       go_wp2_with fail
       go_roundg (l.length - (j+1))
       case measure=>omega
       case rel=>exact ⟨j+1,n7,by omega,by go_num,Hxx,HsS,Hrw,by simp;omega,HOl2,_,_,rfl⟩
     ·have Hj:Hid (joinTo S (j+1)=joinTo S j ++ [spAt S j]):=qh (by rw [Hstep.out];unfold joinS;rw [if_neg hc])
      have HOl2:Hid ((joinTo S (j+1)).length=n7+1):=qh (by rw [Hj.out,List.length_append,HOl.out];rfl)
      have hgSr:gS < wr.heap.size:=by omega
      by_cases hpos:0 < n7
      case' pos =>
       have hne:joinTo S j ≠ []:=List.length_pos_iff.1 (by rw [HOl.out];exact hpos)
       have hle:¬ (spAt S j).fr ≤ (spAt (joinTo S j) (n7 - 1)).to+1:=fun hh=>hc ⟨hne,by rw [HOl.out];exact hh⟩
       obtain ⟨g7,cap7,e,hg7,hg7z,hcap7,hcO⟩:=HrO.out.cells (by rw [HOl.out];exact hpos)
       rw [HOl.out] at e hcO
       injection e with e1 e2 e3
       subst e1 e3
       obtain ⟨o1,o2, -, -⟩:=hcO (n7 - 1) (by omega)
       obtain ⟨b1,b2⟩:=HOb.out (n7 - 1) (by rw [HOl.out];omega)
       have T1:decide ((0:Int) ≤ (n7:Int) - 1)=true:=decide_eq_true (by omega)
       have T1a:decide ((1:Int) ≤ (n7:Int))=true:=decide_eq_true (by omega)
       have T1b:decide (1 ≤ n7)=true:=decide_eq_true (by omega)
       have T1c:decide (0 < n7)=true:=decide_eq_true (by omega)
       have T1d:decide ((0:Int) < (n7:Int))=true:=decide_eq_true (by omega)
       have h1n:1 ≤ n7:=hpos
       have i1:(0:Int) ≤ (n7:Int) - 1:=by omega
       have i2:(n7:Int) - 1 < (n7:Int):=by omega
       have i3:((n7:Int) - 1).toNat=n7 - 1:=by omega
       have T3:decide ((spAt S j).fr ≤ (spAt (joinTo S j) (n7 - 1)).to+1)=false:=decide_eq_false hle
       clear hcO hne hle e2
      case' neg =>
       obtain rfl:n7=0:=by omega
       clear hpos
      all_goals
       generalize hOO:joinTo S j=O at *
       clear hc hOO
       go_wp2_with fail
       (refine wp_region_onto prog_mixed (by kernel_rfl) ?_;(repeat (go_big_quiet_step ((fail))));refine onto_end ?_;intro w1 hx1)
       have hxq:Ext wr w1:=exts
       have hzq:=hxq.size
       have r1:=(hxq.cell (p:=⟨gS,j * 2,none⟩) hgSr).trans s1
       have r2:=(hxq.cell (p:=⟨gS,j * 2+1,none⟩) hgSr).trans s2
       have Hx1:=qh (Hx.out.trans hxq)
       have Hsrc:Hid (Row (w1.alloc (.cells #[.int .i64 (spAt S j).fr,.int .i64 (spAt S j).to] 111)) 0 (w1.alloc (.cells #[.int .i64 (spAt S j).fr,.int .i64 (spAt S j).to] 111)).heap.size 2 (.slice (some ⟨w1.heap.size,0,none⟩) 1 1) 1 (spanCell [spAt S j])):=qh ((Boxed.new w1 [.int .i64 (spAt S j).fr,.int .i64 (spAt S j).to] 111).row rfl (span_cells _ _))
       have hsl:=HOl.out
       clear s1 s2 hx1 hx
       go_wp2_with (at_builtin;refine wpList_append_row _ rfl _ _ 40 rfl wa.heap.size 111 2 16 Tryz.underlying40 (by kernel_rfl) (by omega) _ O.length 1 _ rfl (.inl (row_ext HrO.out exts)) (.inr (by omega)) 0 _ _ (spanCell [spAt S j]) rfl Hsrc.out (fun i _=>spanCell_one _ i) (by rw [hsl];unfold maxLen;omega) (by rw [hsl];omega) (by simp;omega) ?_;intro v5 w5 hown5 hput5;have Hrow5:=qh (RowSp.push hown5);have Hx5:=qh (hput5.ext (show Ext w (w1.alloc (.cells #[.int .i64 (spAt S j).fr,.int .i64 (spAt S j).to] 111)) from exts) (by omega));have Hp5:=qh hput5;obtain ⟨A5,c5,rfl⟩:=ownsRow_len hown5;clear hown5 hput5)
       have HsS:=qh (show RowSp w5 w.heap.size 111 (.slice (some ⟨gS,0,none⟩) l.length c3) S from ownsRow_off (HrS.out.ext (show Ext wr (w1.alloc (.cells #[.int .i64 (spAt S j).fr,.int .i64 (spAt S j).to] 111)) from exts)) Hp5.out.1 (fun g hg hh=>by
        have h1:=HgS.out g hg
        have h2:=hh.1
        omega))
       have hz5:=Hp5.out.size
       simp at hz5
       rw [hsl] at Hrow5
       go_roundg (l.length - (j+1))
       case measure=>omega
       case rel=>exact ⟨j+1,_,by omega,by go_num,Hx5,HsS,qh (by rw [Hj.out];exact Hrow5.out),by omega,HOl2,_,_,rfl⟩
    ·obtain rfl:j=l.length:=by omega
     go_wp2_with fail
     go_ret
     have h3:=HrO.out
     rw [← Hm.out] at h3
     have h4:(mkL l).length=n7:=by rw [Hm.out];exact HOl.out
     exact ⟨_,rfl,hx,ownsRow_mono h3 hza⟩
end Go.Proofs.YtechbeegbhlppaaGreatDoor
