/- Texts merged (a claim holds at most sixty files): G, H, I, J, K, M, P, Q. -/
import Derived.Test.YtechbeegbhlppaaGreatDoorS1A
import Derived.Test.YtechbeegbhlppaaGreatDoorS1Lib
import Derived.Test.YtechbeegbhlppaaGreatDoorS1Bf
import Derived.StillTailTactics
namespace Go.Proofs.YtechbeegbhlppaaGreatDoor
set_option linter.unusedVariables false
set_option linter.unusedSimpArgs false
open Go.RowKit
attribute [local go_sem] cell_onto
theorem spec_l01In_b {n lo hi:Int} {b:Bool} (hb:B (lo ≤ n∧n ≤ hi)=b) (w:World):Calls Tryz.prog 42 #[.int .i64 n,.int .i64 lo,.int .i64 hi] w (RetS (.bool b) w):=by
 subst hb;exact spec_l01In n lo hi w
def DayIn (l:List Sp) (d:Int) (i:Nat):Prop:=(spAt l i).fr ≤ d∧d ≤ (spAt l i).to
set_option maxHeartbeats 400000 in
theorem impl_hasDay_1 (a b d:Int) (g:Nat) (w:World) (h:w.cell? ⟨g,0,none⟩=some (.int .i64 d)) (hg:g < w.heap.size) :
  Calls Tryz.prog 135 #[.agg #[.int .i64 a,.int .i64 b],.pointer (some ⟨g,0,none⟩)] w (RetX (.bool (B (a ≤ d∧d ≤ b))) w):=by
 go_enter Tryz.func135,Tryz.ntmps135
 go_wp2_with (go_at_call 52;refine (impl_within _ _ _ _).mono ?_;rintro e w1 ⟨rfl,rfl⟩)
 go_ret
 exact ⟨rfl,exts⟩
set_option maxHeartbeats 400000 in
theorem impl_hasDay (v:Value) (l:List Sp) (d:Int) (w:World) (h:Spans w 0 w.heap.size v l):Calls Tryz.prog 73 #[v,.int .i64 d] w (RetX (.bool (B (HasDay l d))) w):=by
 have H:=qh h
 clear h
 go_enter Tryz.func73,Tryz.ntmps73
 go_wp2_with fail
 have hb:=Boxed.new w [.int .i64 d] 2
 refine Calls.mono (containsFunc_spans v l 135 #[.pointer (some ⟨w.heap.size,0,none⟩)] (DayIn l d) _ (H.out.up exts) Tryz.call135
  (fun i w' _ hx=>impl_hasDay_1 _ _ d _ w' (hb.ext hx).at0 (hb.ext hx).1)) ?_
 rintro e w1 ⟨rfl,hx1⟩
 clear hb
 go_wp2_with fail
 go_ret
 exact ⟨rfl,exts⟩
set_option maxHeartbeats 1000000 in
theorem spec_l02Has (v:Value) (l:List Sp) (d:Int) (w:World) (h:Spans w 0 w.heap.size v l):Calls Tryz.prog 71 #[v,.int .i64 d] w (RetX (.bool (B (HasDay l d))) w):=by
 obtain ⟨A,c,rfl,hn,hc⟩:=h.len
 have H:=qh h
 clear h
 go_enter Tryz.func71,Tryz.ntmps71
 go_wp2_with fail
 go_loopg [5] l.length (fun k i wr=>∃ j:Nat,j+k=l.length∧i=.int .i64 j∧Ext w wr∧∀ i,i < j → ¬ DayIn l d i)
 case atStart=>exact ⟨0,by omega,rfl,exts,fun i hi=>absurd hi (by omega)⟩
 case round =>
  obtain ⟨j,hj,rfl,hx,hok⟩:=hrel
  have Hok:=qh hok
  clear hok
  by_cases hlt:j < l.length
  ·obtain ⟨b,off,rfl,_,hb,h1,h2⟩:=(H.out.ext hx (Nat.le_refl _)).at_ hlt
   have hbr:b < wr.heap.size:=Nat.lt_of_lt_of_le hb hx.size
   by_cases hd:(spAt l j).fr ≤ d∧d ≤ (spAt l j).to
   ·have Hd:=qh hd
    have Hdb:=qh (B_true hd)
    clear hd
    go_wp2_with fail
    (refine wp_region_onto prog_mixed (by kernel_rfl) ?_;(repeat (go_big_quiet_step ((go_at_call 42;exact onto_callS (spec_l01In_b Hdb.out _)))));refine onto_end ?_;intro w1 hx1)
    go_wp2_with fail
    go_ret
    exact ⟨ret_bool (B_true ⟨j,hlt,Hd.out⟩).symm,exts⟩
   ·have Hd:=qh hd
    have Hdb:=qh (B_false hd)
    clear hd
    go_wp2_with fail
    (refine wp_region_onto prog_mixed (by kernel_rfl) ?_;(repeat (go_big_quiet_step ((go_at_call 42;exact onto_callS (spec_l01In_b Hdb.out _)))));refine onto_end ?_;intro w1 hx1)
    go_wp2_with fail
    go_roundg (l.length - (j+1))
    case measure=>omega
    case rel=>exact ⟨j+1,by omega,by go_num,exts,netOk_step (P:=fun i=>¬ DayIn l d i) Hok.out Hd.out⟩
  ·obtain rfl:j=l.length:=by omega
   go_wp2_with fail
   go_ret
   exact ⟨ret_bool (B_false (fun ⟨i,hi,hd⟩=>Hok.out i hi hd)).symm,exts⟩
theorem NewRow.nil (sz:Nat) (f:Nat → Value) (w:World):NewRow sz 0 f w (.returned (.slice none 0 0)) w :=
 ⟨_,0,rfl,Ext.refl _,fun h=>absurd h (by omega),Nat.zero_le _,none,0,rfl,Nat.le_refl _,fun h=>absurd h (by omega)⟩
def NewInts2 (l:List Int) (e0:Int) (w:World) (e:Ending) (w' : World):Prop :=
 ∃ v g,e=.returned (.tuple #[v,.int .i64 e0])∧Ext w w' ∧ (0 < l.length → w.heap.size ≤ g)∧Own w' g 1 v l.length (intCell l)
theorem NewInts2.nil (e0:Int) {w w' : World} (h:Ext w w'):NewInts2 [] e0 w (.returned (.tuple #[.slice none 0 0,.int .i64 e0])) w' :=
 ⟨_,0,rfl,h,fun h=>absurd h (by simp),Nat.zero_le _,none,0,rfl,Nat.le_refl _,fun h=>absurd h (by simp)⟩
theorem Own.cells {w:World} {g off N c:Nat} {f:Nat → Value} (h:Own w g 1 (.slice (some ⟨g,off,none⟩) N c) N f) (hn:0 < N) :
  g < w.heap.size∧∀ i,i < N → w.cell? ⟨g,off+i,none⟩=some (f i)∧w.frozen? ⟨g,off+i,none⟩=false:=by
 obtain ⟨o2,e0,hgw,hc⟩:=h.at_ hn
 simp only [Option.some.injEq,Addr.mk.injEq,true_and,and_true] at e0
 subst e0
 exact ⟨hgw,fun i hi=>hc i (by omega)⟩
end Go.Proofs.YtechbeegbhlppaaGreatDoor
