/- Texts merged (a claim holds at most sixty files): Jg, Jk. -/
import Derived.Test.YtechbeegbhlppaaGreatDoorS2Je
import Derived.Test.YtechbeegbhlppaaGreatDoorS2Mk
import Derived.Test.YtechbeegbhlppaaGreatDoorS2Us
namespace Go.Proofs.YtechbeegbhlppaaGreatDoor
set_option linter.unusedVariables false
set_option linter.unusedSimpArgs false
open Go.RowKit
attribute [local go_sem] cell_onto
theorem mdTo_len40 {l:List Nsp} (h:MksOk l) (name:ByteArray) {j:Nat} (hj:j ≤ l.length):(mdTo l name j).length ≤ 40:=Nat.le_trans (mdTo_len l name j) (Nat.le_trans hj h.1)
theorem mdL_bd {l:List Nsp} (h:MksOk l) (name:ByteArray):(∀ i,i < (mdL l name).length → SpBd' (spAt (mdL l name) i))∧FromTo (mdL l name):=by
 obtain ⟨_,h2⟩:=mdL_ok h name
 refine ⟨fun i hi=>?_,fun i hi=>(h2 i hi).2.2⟩
 obtain ⟨⟨a1,a2⟩,⟨b1,b2⟩,_⟩:=h2 i hi
 exact ⟨⟨by omega,by omega⟩,⟨by omega,by omega⟩⟩
theorem rowSp_made (w:World) (T:TypeId):RowSp (w.alloc (.cells #[] T)) w.heap.size T (.slice (some ⟨w.heap.size,0,none⟩) 0 0) []:=by
 have:=World.ownsRow_made (base:=w.heap.size) (e:=T) (size:=2) w #[] 0 (by simp) (Nat.zero_le _) rfl
 unfold RowSp
 simpa [cellsOf] using this
theorem RowSp.spans {w:World} {base:Nat} {T:TypeId} {v:Value} {l:List Sp} (h:RowSp w base T v l):Spans w 0 w.heap.size v l:=by
 obtain ⟨g,h1,h2⟩:=Own.of_owned h
 exact h2.row (fun h0=>⟨Nat.zero_le _,h2.lt h0⟩)
set_option maxRecDepth 100000 in
set_option maxHeartbeats 4000000 in
theorem impl_markDays (v:Value) (l:List Nsp) (name:ByteArray) (w:World) (h:Nsps w 0 w.heap.size v l) (hok:MksOk l):Calls Tryz.prog 120 #[v,.string name] w (NewOwn 111 2 (mkL (mdL l name)).length (spanCell (mkL (mdL l name))) w):=by
 obtain ⟨A,c,rfl,hn,hc⟩:=h.len
 have H:=qh h
 have Hok:=qh hok
 have hl40:=hok.1
 clear h hok
 have Hrow0:=qh (rowSp_made w 111)
 go_enter Tryz.func120,Tryz.ntmps120
 go_wp2_with fail
 go_loopg [5,7,11] l.length (fun q u5 u7 i wr=>∃ j:Nat,j+q=l.length∧i=.int .i64 j∧Ext w wr∧Hid (RowSp wr w.heap.size 111 u5 (mdTo l name j)))
 case atStart=>exact ⟨0,by omega,rfl,exts,Hrow0⟩
 clear Hrow0
 case round =>
  obtain ⟨j,hj,rfl,hx,Hr⟩:=hrel
  obtain ⟨A5,c5,rfl⟩:=ownsRow_len Hr.out
  by_cases hlt:j < l.length
  ·obtain ⟨b,off,rfl,_,hb,h1,h2,h3⟩:=(H.out.ext hx (Nat.le_refl _)).at_ hlt
   have hbr:b < wr.heap.size:=Nat.lt_of_lt_of_le hb hx.size
   have hsl:=mdTo_len40 Hok.out name (Nat.le_of_lt hlt)
   have hz:=hx.size
   by_cases he:(nspAt l j).nm=name
   ·have T2:=str_is he
    have Hm:=qh (mdTo_yes he)
    have Hs:=qh ((Hok.out.2 j hlt).1)
    clear he
    have Hxw:=qh (hx.trans ((Ext.refl wr).alloc (.cells #[.string (nspAt l j).nm,.int .i64 (nspAt l j).fr,.int .i64 (nspAt l j).to] 165)))
    have HrW:=qh (Hr.out.ext ((Ext.refl wr).alloc (.cells #[.string (nspAt l j).nm,.int .i64 (nspAt l j).fr,.int .i64 (nspAt l j).to] 165)))
    have Hsrc:Hid (Row ((wr.alloc (.cells #[.string (nspAt l j).nm,.int .i64 (nspAt l j).fr,.int .i64 (nspAt l j).to] 165)).alloc (.cells #[.int .i64 (nspAt l j).fr,.int .i64 (nspAt l j).to] 111)) 0 (wr.heap.size+1+1) 2 (.slice (some ⟨wr.heap.size+1,0,none⟩) 1 1) 1 (spanCell [⟨(nspAt l j).fr,(nspAt l j).to⟩])):=qh (by
     have h:=(Boxed.new (wr.alloc (.cells #[.string (nspAt l j).nm,.int .i64 (nspAt l j).fr,.int .i64 (nspAt l j).to] 165)) [.int .i64 (nspAt l j).fr,.int .i64 (nspAt l j).to] 111).row rfl (span_cells _ _)
     simp only [World.size_alloc] at h
     exact h)
    go_wp2_with (at_builtin;refine wpList_append_row _ rfl _ _ 40 rfl w.heap.size 111 2 16 Tryz.underlying40 (by kernel_rfl) (by omega) _ (mdTo l name j).length 1 _ rfl (.inl (row_ext HrW.out exts)) (.inr (by omega)) 0 _ _ (spanCell [⟨(nspAt l j).fr,(nspAt l j).to⟩]) rfl Hsrc.out (fun i _=>spanCell_one _ i) (by unfold maxLen;omega) (by omega) (by simp;omega) ?_;intro v5 w5 hown5 hput5;have Hrow5:=qh (RowSp.push hown5);have Hx5:=qh (hput5.ext (Hxw.out.trans exts) (Nat.le_refl _));clear hown5 hput5)
    go_roundg (l.length - (j+1))
    case measure=>omega
    case rel=>exact ⟨j+1,by omega,by go_num,Hx5.out,qh (by rw [Hm.out];exact Hrow5.out)⟩
   ·have T2:=str_ne he
    have Hm:=qh (mdTo_no he)
    clear he
    go_wp2_with fail
    go_roundg (l.length - (j+1))
    case measure=>omega
    case rel=>exact ⟨j+1,by omega,by go_num,exts,qh (by rw [Hm.out];exact Hr.out.ext exts)⟩
  ·obtain rfl:j=l.length:=by omega
   have Hb:=qh (mdL_bd Hok.out name)
   have hll:=mdTo_len40 Hok.out name (Nat.le_refl l.length)
   go_wp2_with fail
   refine Calls.mono (impl_united _ (mdL l name) _ (RowSp.spans Hr.out) (by show (mdTo l name l.length).length ≤ _;omega) Hb.out.1 Hb.out.2) ?_
   rintro e w1 ⟨u,rfl,hx1,ho⟩
   obtain ⟨A6,c6,rfl⟩:=ownsRow_len ho
   have Ho:=qh ho
   clear ho
   go_wp2_with fail
   go_ret
   exact ⟨_,rfl,exts,ownsRow_mono Ho.out hx.size⟩
set_option maxRecDepth 100000 in
set_option maxHeartbeats 4000000 in
theorem spec_l16Days (v:Value) (l:List Nsp) (name:ByteArray) (w:World) (h:Nsps w 0 w.heap.size v l) (hok:MksOk l):Calls Tryz.prog 104 #[v,.string name] w (NewOwn 111 2 (mkL (mdL l name)).length (spanCell (mkL (mdL l name))) w):=by
 obtain ⟨A,c,rfl,hn,hc⟩:=h.len
 have H:=qh h
 have Hok:=qh hok
 have hl40:=hok.1
 clear h hok
 have Hrow0:=qh (rowSp_made w 111)
 go_enter Tryz.func104,Tryz.ntmps104
 go_wp2_with fail
 go_loopg [5,6] l.length (fun q u5 i wr=>∃ j:Nat,j+q=l.length∧i=.int .i64 j∧Ext w wr∧Hid (RowSp wr w.heap.size 111 u5 (mdTo l name j)))
 case atStart=>exact ⟨0,by omega,rfl,exts,Hrow0⟩
 clear Hrow0
 case round =>
  obtain ⟨j,hj,rfl,hx,Hr⟩:=hrel
  obtain ⟨A5,c5,rfl⟩:=ownsRow_len Hr.out
  by_cases hlt:j < l.length
  ·obtain ⟨b,off,rfl,_,hb,h1,h2,h3⟩:=(H.out.ext hx (Nat.le_refl _)).at_ hlt
   have hbr:b < wr.heap.size:=Nat.lt_of_lt_of_le hb hx.size
   have hsl:=mdTo_len40 Hok.out name (Nat.le_of_lt hlt)
   have hz:=hx.size
   by_cases he:(nspAt l j).nm=name
   ·have T2:=str_is he
    have Hm:=qh (mdTo_yes he)
    have Hs:=qh ((Hok.out.2 j hlt).1)
    clear he
    have Hsrc:Hid (∀ W,Row (World.alloc W (.cells #[.int .i64 (nspAt l j).fr,.int .i64 (nspAt l j).to] 111)) 0 (World.alloc W (.cells #[.int .i64 (nspAt l j).fr,.int .i64 (nspAt l j).to] 111)).heap.size 2 (.slice (some ⟨W.heap.size,0,none⟩) 1 1) 1 (spanCell [⟨(nspAt l j).fr,(nspAt l j).to⟩])):=qh (fun W=>(Boxed.new W [.int .i64 (nspAt l j).fr,.int .i64 (nspAt l j).to] 111).row rfl (span_cells _ _))
    go_wp2_with fail
    go_region_law (refine step_append_row rfl (.tmp 21) (.tmp 33) 40 rfl w.heap.size 111 2 16 Tryz.underlying40 (by kernel_rfl) (by omega) _ (mdTo l name j).length 1 _ rfl (.inl (row_ext Hr.out exts)) (.inr (by omega)) 0 _ _ (spanCell [⟨(nspAt l j).fr,(nspAt l j).to⟩]) rfl (Hsrc.out _) (fun i _=>spanCell_one _ i) (by unfold maxLen;omega) (by omega) (by simp;omega) ?_;intro v5 w5 hown5 hput5;have Hrow5:=qh (RowSp.push hown5);have Hx5:=qh (hput5.ext (show Ext w _ from exts) (Nat.le_refl _));clear hown5 hput5)
    all_goals
     go_wp2_with fail
     go_roundg (l.length - (j+1))
     case measure=>omega
     case rel=>exact ⟨j+1,by omega,by go_num,Hx5.out,qh (by rw [Hm.out];exact Hrow5.out)⟩
   ·have T2:=str_ne he
    have Hm:=qh (mdTo_no he)
    clear he
    go_wp2_with fail
    go_roundg (l.length - (j+1))
    case measure=>omega
    case rel=>exact ⟨j+1,by omega,by go_num,exts,qh (by rw [Hm.out];exact Hr.out.ext exts)⟩
  ·obtain rfl:j=l.length:=by omega
   have Hb:=qh (mdL_bd Hok.out name)
   have hll:=mdTo_len40 Hok.out name (Nat.le_refl l.length)
   go_wp2_with fail
   refine Calls.mono (spec_l02Make _ (mdL l name) _ (RowSp.spans Hr.out) (by show (mdTo l name l.length).length ≤ _;omega) (fun i hi=>Hb.out.1 i hi)) ?_
   rintro e w1 ⟨u,rfl,hx1,ho⟩
   obtain ⟨A6,c6,rfl⟩:=ownsRow_len ho
   have Ho:=qh ho
   clear ho
   go_wp2_with fail
   go_ret
   exact ⟨_,rfl,exts,ownsRow_mono Ho.out hx.size⟩
end Go.Proofs.YtechbeegbhlppaaGreatDoor
