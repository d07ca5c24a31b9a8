/- Contracts: slices.Clone; copies of networks. -/
import Derived.Test.YtechbeegbhlppaaGreatDoorS2S
import Derived.Test.YtechbeegbhlppaaGreatDoorS2A
import Derived.Deep.RegionHeld3
import Derived.Deep.RegionLaw
namespace Go.Proofs.YtechbeegbhlppaaGreatDoor
set_option linter.unusedVariables false
set_option linter.unusedSimpArgs false
open Go.RowKit
attribute [local go_sem] cell_onto
set_option maxHeartbeats 1000000 in
theorem slices_Clone_spans (v:Value) (l:List Sp) (w:World) (h:Spans w 0 w.heap.size v l) (hsm:l.length ≤ 1048576) :
  Calls Tryz.prog 219 #[v] w (NewOwn 111 2 l.length (spanCell l) w):=by
 obtain ⟨A,c,rfl,hn,hc⟩:=h.len
 have H:=qh h
 clear h
 have q:=fun (w:World) (a:Option Addr) (n c n' c' : Nat)=>Lib.run_eql_slice_nil (P:=Tryz.prog) w 40 111 a n c n' c' Tryz.underlying40
 cases A with
 | none =>
  have h0:l.length=0:=by
   obtain ⟨_,A', c', e,_,hr⟩:=H.out
   rcases Nat.eq_zero_or_pos l.length with h0 | h0
   ·exact h0
   ·obtain ⟨b,off,hA,_⟩:=hr h0
    rw [hA] at e
    cases e
  have H0:=qh h0
  clear h0
  go_enter Tryz.func219,Tryz.ntmps219
  go_wp2_with fail
  go_ret
  refine ⟨_,rfl,exts,?_⟩
  rw [H0.out]
  simpa [cellsOf] using nil_row w w.heap.size 111 2
 | some a =>
  go_enter Tryz.func219,Tryz.ntmps219
  go_wp2_with (at_builtin;refine wpList_append_row _ rfl _ _ 40 rfl w.heap.size 111 2 16 Tryz.underlying40 (by kernel_rfl) (by omega) _ 0 l.length [] rfl (.inl (World.ownsRow_made w #[] 0 (Nat.le_refl _) (Nat.zero_le _) rfl)) (.inl (World.ownsRow_made w #[] 0 (Nat.le_refl _) (Nat.zero_le _) rfl)) 0 w.heap.size _ (spanCell l) rfl (H.out.ext ((Ext.refl w).alloc _) (Nat.le_refl _)) (fun i _=>spanCell_one l i) (by unfold maxLen;omega) (by omega) (by simp) ?_;intro v' w1 hown hput)
  have Hown:=qh hown
  have Hx:=qh (hput.ext ((Ext.refl w).alloc (.cells #[] 111)) (Nat.le_refl _))
  clear hown hput
  go_wp2_with fail
  go_ret
  refine ⟨_,rfl,Hx.out,?_⟩
  have h2:=Hown.out
  simp only [Nat.zero_add,List.nil_append] at h2
  exact h2
theorem ownsRow_len {w:World} {b:Nat} {e:TypeId} {sz n:Nat} {v:Value} {xs:List Value} (h:w.ownsRow b e sz v n xs):∃ A c,v=.slice A n c:=by
 rcases h.2 with ⟨rfl,rfl⟩ | ⟨g,cap,cur,rfl,_⟩
 ·exact ⟨_,_,rfl⟩
 ·exact ⟨_,_,rfl⟩
end Go.Proofs.YtechbeegbhlppaaGreatDoor
