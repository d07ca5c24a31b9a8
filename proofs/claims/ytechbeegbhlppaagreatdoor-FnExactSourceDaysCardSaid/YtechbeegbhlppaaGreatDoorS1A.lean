/- Texts merged (a claim holds at most sixty files): A, B, C, D, E, F, N, O. -/
import Derived.Test.YtechbeegbhlppaaGreatDoorProg
import Derived.Test.YtechbeegbhlppaaGreatDoorS1Lib
namespace Go.Proofs.YtechbeegbhlppaaGreatDoor
set_option linter.unusedVariables false
set_option linter.unusedSimpArgs false
open Go.RowKit
attribute [local go_sem] cell_onto
theorem prog_mixed:Tryz.prog.follows .mixedOrders=true:=by kernel_rfl
set_option maxHeartbeats 400000 in
theorem impl_within (n lo hi:Int) (w:World):Calls Tryz.prog 52 #[.int .i64 n,.int .i64 lo,.int .i64 hi] w (RetS (.bool (B (lo ≤ n∧n ≤ hi))) w):=by
 go_enter Tryz.func52,Tryz.ntmps52
 go_wp2
 all_goals (go_ret;refine ⟨ret_bool (B_eq ?_),rfl⟩;simp;omega)
set_option maxHeartbeats 400000 in
theorem spec_l01In (n lo hi:Int) (w:World):Calls Tryz.prog 42 #[.int .i64 n,.int .i64 lo,.int .i64 hi] w (RetS (.bool (B (lo ≤ n∧n ≤ hi))) w):=by
 go_enter Tryz.func42,Tryz.ntmps42
 go_wp2
 all_goals (go_ret;refine ⟨ret_bool (B_eq ?_),rfl⟩;simp;omega)
set_option maxHeartbeats 400000 in
theorem impl_isDay (n:Int) (w:World):Calls Tryz.prog 231 #[.int .i64 n] w (RetS (.bool (B (DayOk n))) w):=by
 go_enter Tryz.func231,Tryz.ntmps231
 go_wp2_with (go_at_call 52;refine (impl_within _ _ _ _).mono ?_;rintro e w' ⟨rfl,rfl⟩)
 go_ret
 exact ⟨rfl,rfl⟩
set_option maxHeartbeats 400000 in
theorem spec_l01Day (n:Int) (w:World):Calls Tryz.prog 225 #[.int .i64 n] w (RetS (.bool (B (DayOk n))) w):=by
 go_enter Tryz.func225,Tryz.ntmps225
 go_wp2_with (go_at_call 42;refine (spec_l01In _ _ _ _).mono ?_;rintro e w' ⟨rfl,rfl⟩)
 go_ret
 exact ⟨rfl,rfl⟩
set_option maxHeartbeats 400000 in
theorem spec_l02Span (a b:Int) (w:World):Calls Tryz.prog 190 #[.agg #[.int .i64 a,.int .i64 b]] w (RetX (.bool (B (SpOk ⟨a,b⟩))) w):=by
 go_enter Tryz.func190,Tryz.ntmps190
 go_wp2_with (go_at_call 225;refine (spec_l01Day _ _).mono ?_;rintro e w' ⟨rfl,rfl⟩)
 all_goals (go_ret;refine ⟨ret_bool (B_eq ?_),exts⟩;(try simp only [Bool.and_eq_true,Bool.or_eq_true,B_iff,B_not,Bool.not_eq_true,Bool.not_eq_false', Bool.not_eq_true', Bool.not_not,decide_eq_true_eq,decide_eq_false_iff_not,Bool.true_eq_false,Bool.false_eq_true,iff_true,iff_false,true_iff,false_iff,beq_iff_eq,bne_iff_ne,ne_eq] at *);(try unfold SpOk DayOk at *);(try dsimp only at *);omega)
def RetIdx (n:Nat) (p:Nat → Prop) (w:World) (e:Ending) (w' : World):Prop :=
 ∃ r:Int,e=.returned (.int .i64 r)∧Ext w w' ∧ ((r = -1∧∀ i,i < n → ¬ p i) ∨ (0 ≤ r∧∃ i,i < n∧p i))
def Some_ (n:Nat) (p:Nat → Prop):Prop:=∃ i,i < n∧p i
set_option maxHeartbeats 400000 in
theorem indexFunc_spans (v:Value) (l:List Sp) (g:Nat) (caps:Array Value) (p:Nat → Prop) (w:World) (h:Spans w 0 w.heap.size v l)
  (hg:∀ (args:Array Value) (w:World),(callFunc g args).run Tryz.prog w=.ok (.enter g args) w)
  (hf:∀ (i:Nat) (w' : World),i < l.length → Ext w w' → Calls Tryz.prog g (#[.agg #[.int .i64 (spAt l i).fr,.int .i64 (spAt l i).to]] ++ caps) w' (RetX (.bool (B (p i))) w')) :
  Calls Tryz.prog 182 #[v,.func (.func g) #[] caps] w (RetIdx l.length p w):=by
 obtain ⟨A,c,rfl,hn,hc⟩:=h.len
 have H:=qh h
 have Hf:=qh hf
 clear h hf
 go_enter Tryz.func182,Tryz.ntmps182
 go_wp2_with fail
 go_loopg [8] l.length (fun k i wr=>∃ j:Nat,j+k=l.length∧i=.int .i64 j∧Ext w wr∧∀ i,i < j → ¬ p i)
 case atStart=>exact ⟨0,by omega,rfl,Ext.refl _,fun i hi=>absurd hi (by omega)⟩
 case round =>
  obtain ⟨j,hj,rfl,hx,hok⟩:=hrel
  have Hok:=qh hok
  clear hok
  by_cases hlt:j < l.length
  ·obtain ⟨b,off,rfl,_,hb,h1,h2⟩:=(H.out.ext hx (Nat.le_refl _)).at_ hlt
   go_wp2_with fail
   refine (Hf.out j wr hlt hx).mono ?_
   rintro e w1 ⟨rfl,hx1⟩
   go_wp2_with fail
   ·go_ret
    exact ⟨j,rfl,exts,.inr ⟨by omega,j,hlt,B_iff.1 (by assumption)⟩⟩
   ·go_roundg (l.length - (j+1))
    case measure=>omega
    case rel =>
     refine ⟨j+1,by omega,by go_num,exts,fun i hi=>?_⟩
     by_cases e:i=j
     ·rw [e]
      exact B_not.1 (by first | assumption | (simp only [← Bool.not_eq_true];assumption))
     ·exact Hok.out i (by omega)
  ·obtain rfl:j=l.length:=by omega
   go_wp2_with fail
   go_ret
   exact ⟨-1,rfl,exts,.inl ⟨rfl,Hok.out⟩⟩
set_option maxHeartbeats 400000 in
theorem containsFunc_spans (v:Value) (l:List Sp) (g:Nat) (caps:Array Value) (p:Nat → Prop) (w:World) (h:Spans w 0 w.heap.size v l)
  (hg:∀ (args:Array Value) (w:World),(callFunc g args).run Tryz.prog w=.ok (.enter g args) w)
  (hf:∀ (i:Nat) (w' : World),i < l.length → Ext w w' → Calls Tryz.prog g (#[.agg #[.int .i64 (spAt l i).fr,.int .i64 (spAt l i).to]] ++ caps) w' (RetX (.bool (B (p i))) w')) :
  Calls Tryz.prog 134 #[v,.func (.func g) #[] caps] w (RetX (.bool (B (Some_ l.length p))) w):=by
 have H:=qh (indexFunc_spans v l g caps p w h hg hf)
 clear h hf hg
 go_enter Tryz.func134,Tryz.ntmps134
 go_wp2_with fail
 refine H.out.mono ?_
 rintro e w1 ⟨r,rfl,hx,hr⟩
 have Hr:=qh hr
 clear hr
 go_wp2_with fail
 go_ret
 refine ⟨ret_bool (B_eq ?_),exts⟩
 simp only [decide_eq_true_eq]
 constructor
 ·intro h
  rcases Hr.out with ⟨h1,_⟩ | ⟨_,h2⟩
  ·omega
  ·exact h2
 ·rintro ⟨i,h1,h2⟩
  rcases Hr.out with ⟨_,h3⟩ | ⟨h3,_⟩
  ·exact absurd h2 (h3 i h1)
  ·omega
theorem impl_isDay_b {n:Int} {b:Bool} (hb:B (DayOk n)=b) (w:World):Calls Tryz.prog 231 #[.int .i64 n] w (RetS (.bool b) w):=by
 subst hb;exact impl_isDay n w
theorem netOk_step {P:Nat → Prop} {j:Nat} (h:∀ i,i < j → P i) (h' : P j):∀ i,i < j+1 → P i:=by
 intro i hi
 by_cases e:i=j
 ·rw [e];exact h'
 ·exact h i (by omega)
def SzPost (left:Int) (p:Prop) (w:World) (e:Ending) (w' : World):Prop:=∃ r:Int,e=.returned (.int .i64 r)∧Ext w w' ∧ -1 ≤ r∧r ≤ left∧(0 ≤ r → p)
def NewRow (sz n:Nat) (f:Nat → Value) (w:World) (e:Ending) (w' : World):Prop:=∃ v g,e=.returned v∧Ext w w' ∧ (0 < n → w.heap.size ≤ g)∧Own w' g sz v n f
set_option maxHeartbeats 400000 in
theorem laws_eqSpan (a b:Int) (w:World):Calls Tryz.prog 55 #[.agg #[.int .i64 a,.int .i64 b],.agg #[.int .i64 a,.int .i64 b]] w (RetX (.bool true) w):=by
 go_enter Tryz.func55,Tryz.ntmps55
 go_wp2_with fail
 go_ret
 exact ⟨rfl,exts⟩
set_option maxHeartbeats 1000000 in
theorem laws_eqSpanS (v v' : Value) (l:List Sp) (w:World) (h:Spans w 0 w.heap.size v l) (h' : Spans w 0 w.heap.size v' l) :
  Calls Tryz.prog 14 #[v,v'] w (RetX (.bool true) w):=by
 obtain ⟨A,c,rfl,hn,hc⟩:=h.len
 obtain ⟨A', c', rfl,_,hc'⟩:=h'.len
 have H:=qh h
 have H' := qh h'
 clear h h'
 go_enter Tryz.func14,Tryz.ntmps14
 go_wp2_with fail
 go_loopg [5] l.length (fun k i wr=>∃ j:Nat,j+k=l.length∧i=.int .i64 j∧Ext w wr)
 case atStart=>exact ⟨0,by omega,rfl,exts⟩
 case round =>
  obtain ⟨j,hj,rfl,hx⟩:=hrel
  by_cases hlt:j < l.length
  ·obtain ⟨b,off,rfl,_,hb,h1,h2⟩:=(H.out.ext hx (Nat.le_refl _)).at_ hlt
   obtain ⟨b', off', rfl,_,hb', h1', h2'⟩:=(H'.out.ext hx (Nat.le_refl _)).at_ hlt
   have hbr:b < wr.heap.size:=Nat.lt_of_lt_of_le hb hx.size
   have hbr' : b' < wr.heap.size:=Nat.lt_of_lt_of_le hb' hx.size
   go_wp2_with fail
   (refine wp_region_onto prog_mixed (by kernel_rfl) ?_;(repeat (go_big_quiet_step ((go_at_call 55;exact onto_callX (laws_eqSpan _ _ _)))));refine onto_end ?_;intro w1 hx1)
   go_wp2_with fail
   go_roundg (l.length - (j+1))
   case measure=>omega
   case rel=>exact ⟨j+1,by omega,by go_num,exts⟩
  ·obtain rfl:j=l.length:=by omega
   go_wp2_with fail
   go_ret
   exact ⟨rfl,exts⟩
set_option maxHeartbeats 1000000 in
theorem laws_eqInt64S (v v' : Value) (l:List Int) (w:World) (h:Ints w 0 w.heap.size v l) (h' : Ints w 0 w.heap.size v' l) :
  Calls Tryz.prog 23 #[v,v'] w (RetX (.bool true) w):=by
 obtain ⟨A,c,rfl,hn,hc⟩:=h.len
 obtain ⟨A', c', rfl,_,hc'⟩:=h'.len
 have H:=qh h
 have H' := qh h'
 clear h h'
 go_enter Tryz.func23,Tryz.ntmps23
 go_wp2_with fail
 go_loopg [5] l.length (fun k i wr=>∃ j:Nat,j+k=l.length∧i=.int .i64 j∧Ext w wr)
 case atStart=>exact ⟨0,by omega,rfl,exts⟩
 case round =>
  obtain ⟨j,hj,rfl,hx⟩:=hrel
  by_cases hlt:j < l.length
  ·obtain ⟨b,off,rfl,_,hb,h1⟩:=(H.out.ext hx (Nat.le_refl _)).at_ hlt
   obtain ⟨b', off', rfl,_,hb', h1'⟩:=(H'.out.ext hx (Nat.le_refl _)).at_ hlt
   have hbr:b < wr.heap.size:=Nat.lt_of_lt_of_le hb hx.size
   have hbr' : b' < wr.heap.size:=Nat.lt_of_lt_of_le hb' hx.size
   go_wp2_with fail
   (refine wp_region_onto prog_mixed (by kernel_rfl) ?_;(repeat (go_big_quiet_step ((fail))));refine onto_end ?_;intro w1 hx1)
   go_wp2_with fail
   go_roundg (l.length - (j+1))
   case measure=>omega
   case rel=>exact ⟨j+1,by omega,by go_num,exts⟩
  ·obtain rfl:j=l.length:=by omega
   go_wp2_with fail
   go_ret
   exact ⟨rfl,exts⟩
def numCell (k:Int) (i:Nat):Value:=.int .i64 (k+i)
def MarkPost (b sz:Nat) (v:Value) (n:Nat) (k:Int) (w:World) (e:Ending) (w' : World):Prop:=e=.returned (.int .i64 (k+n * sz))∧Off (fun x=>0 < n∧x=b) w w' ∧ Own w' b sz v n (numCell k)
set_option maxHeartbeats 1000000 in
theorem laws_markSpanS (v:Value) (b n:Nat) (f0:Nat → Value) (k:Int) (w:World) (h:Own w b 2 v n f0) (hn:n ≤ 1048576) (hk0:0 ≤ k) (hk:k ≤ 1125899906842624) :
  Calls Tryz.prog 19 #[v,.int .i64 k] w (MarkPost b 2 v n k w):=by
 obtain ⟨A,c,rfl⟩:=h.len
 have H:=qh h
 clear h
 go_enter Tryz.func19,Tryz.ntmps19
 go_wp2_with fail
 go_loopg [1,5] n (fun q t i wr=>∃ (j:Nat) (f:Nat → Value),j+q=n∧i=.int .i64 j∧t=.int .i64 (k+(j:Int) * 2)∧Off (fun x=>0 < n∧x=b) w wr∧Own wr b 2 (.slice A n c) n f∧∀ i,i < j * 2 → f i=numCell k i)
 case atStart=>exact ⟨0,f0,by omega,rfl,by simp,Off.refl _ _,H.out,fun i hi=>absurd hi (by omega)⟩
 case round =>
  obtain ⟨j,f,hj,rfl,rfl,hx,hown,hok⟩:=hrel
  have Hok:=qh hok
  clear hok
  by_cases hlt:j < n
  ·obtain ⟨off,rfl,hb,hc⟩:=hown.at_ (by omega)
   have Hown:=qh hown
   clear hown
   have c0:=hc (j * 2+0) (by omega)
   have c0a:wr.cell? ⟨b,off+j * 2,none⟩=some (f (j * 2+0)):=by have:=c0.1;simpa only [Nat.add_assoc,Nat.add_zero,Nat.mul_one] using this
   have c0b:wr.frozen? ⟨b,off+j * 2,none⟩=false:=by have:=c0.2;simpa only [Nat.add_assoc,Nat.add_zero,Nat.mul_one] using this
   have c1:=hc (j * 2+1) (by omega)
   have c1a:wr.cell? ⟨b,off+j * 2+1,none⟩=some (f (j * 2+1)):=by have:=c1.1;simpa only [Nat.add_assoc,Nat.add_zero,Nat.mul_one] using this
   have c1b:wr.frozen? ⟨b,off+j * 2+1,none⟩=false:=by have:=c1.2;simpa only [Nat.add_assoc,Nat.add_zero,Nat.mul_one] using this
   clear hc c0 c1
   go_wp2_with fail
   go_roundg (n - (j+1))
   case measure=>omega
   case rel =>
    refine ⟨j+1,_,by omega,by go_num,?_,?_,(by have:=(Own.set (Own.set Hown.out (j * 2) (.int .i64 (k+(j:Int) * 2)) (by omega)) (j * 2+1) (.int .i64 (k+(j:Int) * 2+1)) (by omega));simpa only [Nat.add_assoc] using this),fun i hi=>?_⟩
    ·congr 1;simp;omega
    ·repeat (first | exact hx | refine Off.setCell ?_ (.inl ⟨by omega,rfl⟩) _)
    by_cases e1:i=j * 2+1
    ·rw [if_pos e1];unfold numCell;congr 1;omega
    rw [if_neg e1]
    by_cases e0:i=j * 2
    ·rw [if_pos e0];unfold numCell;congr 1;omega
    rw [if_neg e0]
    exact Hok.out i (by omega)
  ·obtain rfl:j=n:=by omega
   have Hown:=qh hown
   clear hown
   go_wp2_with fail
   go_ret
   exact ⟨by first | rfl | simp,hx,Hown.out.congr Hok.out⟩
set_option maxHeartbeats 1000000 in
theorem laws_heldSpanS (v:Value) (lo hi n:Nat) (k:Int) (w:World) (h:Row w lo hi 2 v n (numCell k)) (hh:hi ≤ w.heap.size) (hn:n ≤ 1048576) (hk0:0 ≤ k) (hk:k ≤ 1125899906842624) :
  Calls Tryz.prog 20 #[v,.int .i64 k] w (RetX (.int .i64 (k+n * 2)) w):=by
 obtain ⟨_,A,c,rfl,hc0,hr⟩:=h
 have Hr:=qh hr
 clear hr
 go_enter Tryz.func20,Tryz.ntmps20
 go_wp2_with fail
 go_loopg [1,5] n (fun q t i wr=>∃ (j:Nat),j+q=n∧i=.int .i64 j∧t=.int .i64 (k+(j:Int) * 2)∧Ext w wr)
 case atStart=>exact ⟨0,by omega,rfl,by simp,exts⟩
 case round =>
  obtain ⟨j,hj,rfl,rfl,hx⟩:=hrel
  by_cases hlt:j < n
  ·obtain ⟨b,off,rfl,_,hb', hc⟩:=Hr.out (by omega)
   have hb:b < w.heap.size:=by omega
   have c0:wr.cell? ⟨b,off+j * 2,none⟩=some (.int .i64 (k+(j:Int) * 2)):=by have:=(hx.cell (p:=⟨b,off+(j * 2+0),none⟩) hb).trans (hc (j * 2+0) (by omega));(try simp only [Nat.add_zero,← Nat.add_assoc] at this);rw [this];unfold numCell;congr 2;(try simp);(try omega)
   have c1:wr.cell? ⟨b,off+j * 2+1,none⟩=some (.int .i64 (k+(j:Int) * 2+1)):=by have:=(hx.cell (p:=⟨b,off+(j * 2+1),none⟩) hb).trans (hc (j * 2+1) (by omega));(try simp only [Nat.add_zero,← Nat.add_assoc] at this);rw [this];unfold numCell;congr 2;(try simp);(try omega)
   clear hc
   go_wp2_with fail
   go_roundg (n - (j+1))
   case measure=>omega
   case rel=>exact ⟨j+1,by omega,by go_num,by congr 1;simp;omega,exts⟩
  ·obtain rfl:j=n:=by omega
   go_wp2_with fail
   go_ret
   exact ⟨rfl,exts⟩
set_option maxHeartbeats 1000000 in
theorem laws_markInt64S (v:Value) (b n:Nat) (f0:Nat → Value) (k:Int) (w:World) (h:Own w b 1 v n f0) (hn:n ≤ 1048576) (hk0:0 ≤ k) (hk:k ≤ 1125899906842624) :
  Calls Tryz.prog 24 #[v,.int .i64 k] w (MarkPost b 1 v n k w):=by
 obtain ⟨A,c,rfl⟩:=h.len
 have H:=qh h
 clear h
 go_enter Tryz.func24,Tryz.ntmps24
 go_wp2_with fail
 go_loopg [1,5] n (fun q t i wr=>∃ (j:Nat) (f:Nat → Value),j+q=n∧i=.int .i64 j∧t=.int .i64 (k+(j:Int))∧Off (fun x=>0 < n∧x=b) w wr∧Own wr b 1 (.slice A n c) n f∧∀ i,i < j * 1 → f i=numCell k i)
 case atStart=>exact ⟨0,f0,by omega,rfl,by simp,Off.refl _ _,H.out,fun i hi=>absurd hi (by omega)⟩
 case round =>
  obtain ⟨j,f,hj,rfl,rfl,hx,hown,hok⟩:=hrel
  have Hok:=qh hok
  clear hok
  by_cases hlt:j < n
  ·obtain ⟨off,rfl,hb,hc⟩:=hown.at_ (by omega)
   have Hown:=qh hown
   clear hown
   have c0:=hc j (by omega)
   have c0a:wr.cell? ⟨b,off+j,none⟩=some (f j):=by have:=c0.1;simpa only [Nat.add_assoc,Nat.add_zero,Nat.mul_one] using this
   have c0b:wr.frozen? ⟨b,off+j,none⟩=false:=by have:=c0.2;simpa only [Nat.add_assoc,Nat.add_zero,Nat.mul_one] using this
   clear hc c0
   go_wp2_with fail
   go_roundg (n - (j+1))
   case measure=>omega
   case rel =>
    refine ⟨j+1,_,by omega,by go_num,?_,?_,(by have:=(Own.set Hown.out (j) (.int .i64 (k+(j:Int))) (by omega));simpa only [Nat.add_assoc] using this),fun i hi=>?_⟩
    ·congr 1;simp;omega
    ·repeat (first | exact hx | refine Off.setCell ?_ (.inl ⟨by omega,rfl⟩) _)
    by_cases e0:i=j
    ·rw [if_pos e0];unfold numCell;congr 1;omega
    rw [if_neg e0]
    exact Hok.out i (by omega)
  ·obtain rfl:j=n:=by omega
   have Hown:=qh hown
   clear hown
   go_wp2_with fail
   go_ret
   exact ⟨by first | rfl | simp,hx,Hown.out.congr Hok.out⟩
set_option maxHeartbeats 1000000 in
theorem laws_heldInt64S (v:Value) (lo hi n:Nat) (k:Int) (w:World) (h:Row w lo hi 1 v n (numCell k)) (hh:hi ≤ w.heap.size) (hn:n ≤ 1048576) (hk0:0 ≤ k) (hk:k ≤ 1125899906842624) :
  Calls Tryz.prog 25 #[v,.int .i64 k] w (RetX (.int .i64 (k+n)) w):=by
 obtain ⟨_,A,c,rfl,hc0,hr⟩:=h
 have Hr:=qh hr
 clear hr
 go_enter Tryz.func25,Tryz.ntmps25
 go_wp2_with fail
 go_loopg [1,5] n (fun q t i wr=>∃ (j:Nat),j+q=n∧i=.int .i64 j∧t=.int .i64 (k+(j:Int))∧Ext w wr)
 case atStart=>exact ⟨0,by omega,rfl,by simp,exts⟩
 case round =>
  obtain ⟨j,hj,rfl,rfl,hx⟩:=hrel
  by_cases hlt:j < n
  ·obtain ⟨b,off,rfl,_,hb', hc⟩:=Hr.out (by omega)
   have hb:b < w.heap.size:=by omega
   have c0:wr.cell? ⟨b,off+j,none⟩=some (.int .i64 (k+(j:Int))):=by have:=(hx.cell (p:=⟨b,off+j,none⟩) hb).trans (hc j (by omega));(try simp only [Nat.add_zero,← Nat.add_assoc] at this);rw [this];unfold numCell;congr 2;(try simp);(try omega)
   clear hc
   go_wp2_with fail
   go_roundg (n - (j+1))
   case measure=>omega
   case rel=>exact ⟨j+1,by omega,by go_num,by congr 1;simp;omega,exts⟩
  ·obtain rfl:j=n:=by omega
   go_wp2_with fail
   go_ret
   exact ⟨rfl,exts⟩
def MarkP (lo hi:Nat) (m:Int) (M:World → Prop) (w:World) (e:Ending) (w' : World):Prop:=e=.returned (.int .i64 m)∧Off (fun x=>lo ≤ x∧x < hi) w w' ∧ M w'
def OwnInts (w:World) (lo hi:Nat) (v:Value) (l:List Int):Prop:=∃ g,(0 < l.length → lo ≤ g∧g < hi)∧Own w g 1 v l.length (intCell l)
def OwnSpans (w:World) (lo hi:Nat) (v:Value) (l:List Sp):Prop:=∃ g,(0 < l.length → lo ≤ g∧g < hi)∧Own w g 2 v l.length (spanCell l)
def MarkedInts (w:World) (lo hi:Nat) (v:Value) (l:List Int) (k:Int):Prop:=Row w lo hi 1 v l.length (numCell k)
def MarkedSpans (w:World) (lo hi:Nat) (v:Value) (l:List Sp) (k:Int):Prop:=Row w lo hi 2 v l.length (numCell k)
section
variable {w w' : World} {lo hi lo' hi' : Nat} {v:Value} {k:Int}
theorem OwnInts.ext {l:List Int} (h:OwnInts w lo hi v l) (hx:Ext w w') (hh:hi ≤ w.heap.size):OwnInts w' lo hi v l:=by
 obtain ⟨g,h1,h2⟩:=h
 exact ⟨g,h1,h2.ext hx⟩
theorem OwnInts.off {S:Nat → Prop} {l:List Int} (h:OwnInts w lo hi v l) (hx:Off S w w') (hs:∀ k,lo ≤ k → k < hi → ¬ S k) (hh:hi ≤ w.heap.size):OwnInts w' lo hi v l:=by
 obtain ⟨g,h1,h2⟩:=h
 exact ⟨g,h1,h2.off hx (fun hn=>hs g (h1 hn).1 (h1 hn).2)⟩
theorem OwnInts.ints {l:List Int} (h:OwnInts w lo hi v l):Ints w lo hi v l:=by
 obtain ⟨g,h1,h2⟩:=h
 exact h2.row h1
theorem OwnInts.len {l:List Int} (h:OwnInts w lo hi v l):∃ A c,v=.slice A l.length c:=by
 obtain ⟨g,h1,h2⟩:=h
 exact h2.len
theorem OwnSpans.ext {l:List Sp} (h:OwnSpans w lo hi v l) (hx:Ext w w') (hh:hi ≤ w.heap.size):OwnSpans w' lo hi v l:=by
 obtain ⟨g,h1,h2⟩:=h
 exact ⟨g,h1,h2.ext hx⟩
theorem OwnSpans.off {S:Nat → Prop} {l:List Sp} (h:OwnSpans w lo hi v l) (hx:Off S w w') (hs:∀ k,lo ≤ k → k < hi → ¬ S k) (hh:hi ≤ w.heap.size):OwnSpans w' lo hi v l:=by
 obtain ⟨g,h1,h2⟩:=h
 exact ⟨g,h1,h2.off hx (fun hn=>hs g (h1 hn).1 (h1 hn).2)⟩
theorem OwnSpans.spans {l:List Sp} (h:OwnSpans w lo hi v l):Spans w lo hi v l:=by
 obtain ⟨g,h1,h2⟩:=h
 exact h2.row h1
theorem OwnSpans.len {l:List Sp} (h:OwnSpans w lo hi v l):∃ A c,v=.slice A l.length c:=by
 obtain ⟨g,h1,h2⟩:=h
 exact h2.len
theorem Ints.upAt {l:List Int} (h:Ints w lo hi v l) (hh:hi ≤ w.heap.size) (hx:Ext w w'):Ints w' 0 w'.heap.size v l:=Ints.up (h.mono (Nat.zero_le _) hh) hx
theorem Spans.upAt {l:List Sp} (h:Spans w lo hi v l) (hh:hi ≤ w.heap.size) (hx:Ext w w'):Spans w' 0 w'.heap.size v l:=Spans.up (h.mono (Nat.zero_le _) hh) hx
end
theorem markInts (v:Value) (lo hi:Nat) (l:List Int) (k:Int) (w:World) (h:OwnInts w lo hi v l) (hn:l.length ≤ 1048576) (hk0:0 ≤ k) (hk:k ≤ 562949953421312) :
  Calls Tryz.prog 24 #[v,.int .i64 k] w (MarkP lo hi (k+l.length) (fun w' => MarkedInts w' lo hi v l k) w):=by
 obtain ⟨g,h1,h2⟩:=h
 refine Calls.mono (laws_markInt64S v g _ _ k w h2 hn hk0 (by omega)) ?_
 rintro e w1 ⟨rfl,hx1,hm1⟩
 exact ⟨by simp,hx1.mono (fun x hx=>by have:=h1 hx.1;have:=hx.2;omega),hm1.row h1⟩
theorem markSpans (v:Value) (lo hi:Nat) (l:List Sp) (k:Int) (w:World) (h:OwnSpans w lo hi v l) (hn:l.length ≤ 1048576) (hk0:0 ≤ k) (hk:k ≤ 562949953421312) :
  Calls Tryz.prog 19 #[v,.int .i64 k] w (MarkP lo hi (k+l.length * 2) (fun w' => MarkedSpans w' lo hi v l k) w):=by
 obtain ⟨g,h1,h2⟩:=h
 refine Calls.mono (laws_markSpanS v g _ _ k w h2 hn hk0 (by omega)) ?_
 rintro e w1 ⟨rfl,hx1,hm1⟩
 exact ⟨rfl,hx1.mono (fun x hx=>by have:=h1 hx.1;have:=hx.2;omega),hm1.row h1⟩
end Go.Proofs.YtechbeegbhlppaaGreatDoor
