/- Texts merged (a claim holds at most sixty files): Us, Un, Ud. -/
import Derived.Test.YtechbeegbhlppaaGreatDoorSf
import Derived.Test.YtechbeegbhlppaaGreatDoorS2Mk
import Derived.Test.YtechbeegbhlppaaGreatDoorS2Sg
import Derived.Lib.RowBridge
import Derived.Deep.RegionHeld3
namespace Go.Proofs.YtechbeegbhlppaaGreatDoor
set_option linter.unusedVariables false
set_option linter.unusedSimpArgs false
open Go.RowKit Go.Sort
attribute [local go_sem] cell_onto
instance spInh:Inhabited Sp:=⟨⟨0,0⟩⟩
def encSp (s:Sp):List Value:=[.int .i64 s.fr,.int .i64 s.to]
def cfSp (x y:Sp):Int:=if x.fr < y.fr then -1 else if y.fr < x.fr then 1 else 0
theorem ltSp (x y:Sp):ltOf cfSp x y=decide (x.fr < y.fr):=by
 unfold ltOf cfSp
 by_cases h1:x.fr < y.fr
 ·simp [h1]
 ·by_cases h2:y.fr < x.fr <;> simp [h1,h2]
theorem swoSp:SWO (ltOf cfSp) where
 irrefl x:=by rw [ltSp];simp
 trans x y z h1 h2:=by rw [ltSp] at *;simp at *;omega
 ntrans x y z h1 h2:=by rw [ltSp] at *;simp at *;omega
theorem encSp_one (x:Sp) (v:Value) (hv:v ∈ encSp x):v.oneCell' = true:=by
 simp [encSp] at hv
 rcases hv with rfl | rfl <;> rfl
theorem encSp_at (s:Sp) (t:Nat):(encSp s)[t % 2]! = if t % 2=0 then .int .i64 s.fr else .int .i64 s.to:=by
 rcases Nat.mod_two_eq_zero_or_one t with h | h
 ·rw [h];rfl
 ·rw [h];rfl
theorem spAt_arr (d:Array Sp) (i:Nat):d[i]! = spAt d.toList i:=by
 unfold spAt
 rw [List.getD_eq_getElem?_getD,Array.getElem?_toList]
 by_cases h:i < d.size
 ·rw [getElem!_pos d i h,Array.getElem?_eq_getElem h];rfl
 ·rw [getElem!_neg d i h,Array.getElem?_eq_none (by omega)];rfl
theorem flatSp (d:Array Sp) (t:Nat) (h:t < d.size * 2):(flatK encSp 2 d)[t]! = spanCell d.toList t:=by
 rw [get_flatK _ _ _ _ h,encSp_at,spAt_arr]
 rfl
theorem flatSp_list (d:Array Sp):(flatK encSp 2 d).toList=cellsOf (d.size * 2) (spanCell d.toList):=by
 refine List.ext_getElem? (fun i=>?_)
 by_cases h:i < d.size * 2
 ·rw [cellsOf_at h,← flatSp d i h,Array.getElem?_toList,Array.getElem?_eq_getElem (by rw [size_flatK];exact h),getElem!_pos _ i (by rw [size_flatK];exact h)]
 ·rw [List.getElem?_eq_none (by rw [Array.length_toList,size_flatK];omega),List.getElem?_eq_none (by rw [cellsOf_len];omega)]
def setL:List Value → Nat → List Value → List Value
 | xs,_,[]=>xs
 | xs,s,v :: r=>setL (xs.set s v) (s+1) r
theorem setL_get:∀ (ys xs:List Value) (s i:Nat),s+ys.length ≤ xs.length → (setL xs s ys)[i]? = if s ≤ i∧i < s+ys.length then ys[i - s]? else xs[i]?
 | [],xs,s,i,_=>by rw [setL,if_neg (by show ¬ (s ≤ i∧i < s+0);omega)]
 | v :: r,xs,s,i,h=>by
  have hl:(v :: r).length=r.length+1:=rfl
  rw [hl] at h
  rw [setL,setL_get r (xs.set s v) (s+1) i (by rw [List.length_set];omega),hl]
  by_cases h1:s+1 ≤ i∧i < s+1+r.length
  ·rw [if_pos h1,if_pos (by omega)]
   obtain ⟨k,rfl⟩:∃ k,i=s+1+k:=⟨i - (s+1),by omega⟩
   rw [show s+1+k - (s+1)=k by omega,show s+1+k - s=k+1 by omega]
   rfl
  ·rw [if_neg h1,List.getElem?_set]
   by_cases e:s=i
   ·subst e
    rw [if_pos rfl,if_pos (by omega),if_pos (by omega),Nat.sub_self]
    rfl
   ·rw [if_neg e,if_neg (by omega)]
theorem setL_all (xs ys:List Value) (h:ys.length=xs.length):setL xs 0 ys=ys:=by
 refine List.ext_getElem? (fun i=>?_)
 rw [setL_get ys xs 0 i (by omega)]
 by_cases hi:i < ys.length
 ·rw [if_pos (by omega),Nat.sub_zero]
 ·rw [if_neg (by omega),List.getElem?_eq_none (by omega),List.getElem?_eq_none (by omega)]
theorem ownsRow_storedL {base g n cap size:Nat} {e:TypeId}:∀ (vs:List Value) (s:Nat) (w:World) (xs:List Value),w.ownsRow base e size (.slice (some ⟨g,0,none⟩) n cap) n xs → (w.setCells g s vs).ownsRow base e size (.slice (some ⟨g,0,none⟩) n cap) n (setL xs s vs)
 | [],_,_,_,h=>h
 | v :: r,s,w,xs,h=>by
  rw [World.setCells,setL]
  exact ownsRow_storedL r (s+1) _ _ (World.ownsRow.stored h s v).1
theorem Ext.setCells {a:World} {g:Nat} (hg:a.heap.size ≤ g):∀ (vs:List Value) (s:Nat) {w:World},Ext a w → Ext a (w.setCells g s vs)
 | [],_,_,h=>h
 | v :: r,s,w,h=>by
  rw [World.setCells]
  exact Ext.setCells hg r (s+1) (h.setCell hg v)
theorem Ext.grow {a w:World} (h:Ext a w) (os:Array Obj):Ext a (Go.Sort.grow w os) :=
 ⟨h.os,h.tape,h.output,by rw [size_grow];have:=h.size;omega,fun k hk=>by rw [heap_grow_old w os (Nat.lt_of_lt_of_le hk h.size)];exact h.block k hk⟩
theorem holdsSp {w:World} {base g cap:Nat} {T:TypeId} {l:List Sp} (h:RowSp w base T (.slice (some ⟨g,0,none⟩) l.length cap) l):HoldsK encSp 2 w g 0 l.toArray:=by
 intro j hj
 rw [size_flatK] at hj
 have hj' : j < l.length * 2:=by simpa using hj
 rw [Nat.zero_add,flatSp l.toArray j hj]
 have h1:=World.ownsRow.cellAt h j (by omega)
 rw [cellsOf_at hj'] at h1
 exact ⟨h1,World.ownsRow.frozenAt h j⟩
theorem sortRow {w:World} {base g cap n:Nat} {T:TypeId} {l:List Sp} {d:Array Sp} {os:Array Obj} (h:RowSp w base T (.slice (some ⟨g,0,none⟩) l.length cap) l) (hs:d.size=l.length) :
  RowSp (sortWorldK encSp 2 w g 0 n d os) base T (.slice (some ⟨g,0,none⟩) l.length cap) d.toList∧∀ w0,Ext w0 w → w0.heap.size ≤ g → Ext w0 (sortWorldK encSp 2 w g 0 n d os):=by
 have e:sortWorldK encSp 2 w g 0 n d os=Go.Sort.grow ((w.drewN n).setCells g 0 (flatK encSp 2 d).toList) os:=by
  have h1:=Lib.putRow_eq_setCells id w g 0 (flatK encSp 2 l.toArray) (flatK encSp 2 d).toList n (holdsSp h) (by simp [hs])
  rw [List.map_id] at h1
  unfold sortWorldK putRowK
  rw [← h1]
 rw [e]
 refine ⟨?_,fun w0 hx hg=>((hx.drewN n).setCells hg _ 0).grow os⟩
 have h2:RowSp (w.drewN n) base T (.slice (some ⟨g,0,none⟩) l.length cap) l:=h.ext ((Ext.refl w).drewN n)
 have h3:=ownsRow_storedL (flatK encSp 2 d).toList 0 _ _ h2
 rw [setL_all _ _ (by rw [cellsOf_len,Array.length_toList,size_flatK,hs]),flatSp_list,hs] at h3
 have h4:=row_ext h3 ((Ext.refl _).grow os)
 have e4:d.toList.length=l.length:=by rw [Array.length_toList];exact hs
 unfold RowSp
 rw [e4,flatSp_list,hs]
 exact h4
theorem SortedIn.f {d:Array Sp} (h:SortedIn (ltOf cfSp) 0 d.size d):SortedF d.toList:=fun i k hik hk=>by
 have:=h i k (Nat.zero_le _) hik (by simpa using hk)
 rw [ltSp,spAt_arr,spAt_arr] at this
 have:=of_decide_eq_false this
 omega
theorem PermIn.list {d:Array Sp} {l:List Sp} (h:PermIn 0 l.toArray.size l.toArray d):d.toList.Perm l:=by
 obtain ⟨h1,_,h3⟩:=h
 have e1:d.extract 0 l.toArray.size=d:=by rw [← h1];exact Array.extract_size
 have e2:l.toArray.extract 0 l.toArray.size=l.toArray:=Array.extract_size
 rw [e1,e2] at h3
 exact h3
theorem perm_all {a b:List Sp} (h:a.Perm b) {P:Sp → Prop} (hb:∀ i,i < b.length → P (spAt b i)):∀ i,i < a.length → P (spAt a i):=fun i hi=>by
 obtain ⟨k,hk,e⟩:=mem_spAt (h.mem_iff.1 (spAt_mem hi))
 rw [← e]
 exact hb k hk
theorem perm_days {a b:List Sp} (h:a.Perm b) (d:Int):HasDay a d ↔ HasDay b d:=by
 rw [← hasL_iff,← hasL_iff]
 unfold HasL
 constructor
 ·rintro ⟨s,hs,h2⟩;exact ⟨s,h.mem_iff.1 hs,h2⟩
 ·rintro ⟨s,hs,h2⟩;exact ⟨s,h.mem_iff.2 hs,h2⟩
theorem joinL_perm {a b:List Sp} (h:a.Perm b) (hs:SortedF a) (hf:FromTo b):joinL a=mkL b:=by
 have hf' : FromTo a:=perm_all (P:=fun s=>s.fr ≤ s.to) h hf
 obtain ⟨n1,d1⟩:=joinL_ok hs hf'
 obtain ⟨n2,d2⟩:=mkL_ok hf
 exact n1.eq n2 (fun d=>(d1 d).trans ((perm_days h d).trans (d2 d).symm))
end Go.Proofs.YtechbeegbhlppaaGreatDoor
namespace Go.Proofs.YtechbeegbhlppaaGreatDoor
set_option linter.unusedVariables false
set_option linter.unusedSimpArgs false
open Go.RowKit Go.Sort
attribute [local go_sem] cell_onto
set_option maxHeartbeats 2000000 in
theorem united_closure (x y:Sp) (W:World):Calls Tryz.prog 221 #[.agg (encSp x).toArray,.agg (encSp y).toArray] W fun e w' => e=.returned (.int .i64 (cfSp x y))∧∃ q os', w' = grow (W.drewN q) os' := by
 have Hc:=qh (fun W' => cmp_Compare x.fr y.fr W')
 have e0:cfSp x y=(if x.fr < y.fr then -1 else if y.fr < x.fr then 1 else 0):=rfl
 have ex:(encSp x).toArray=#[.int .i64 x.fr,.int .i64 x.to]:=rfl
 have ey:(encSp y).toArray=#[.int .i64 y.fr,.int .i64 y.to]:=rfl
 rw [ex,ey,e0]
 generalize (if x.fr < y.fr then (-1:Int) else if y.fr < x.fr then 1 else 0)=r at Hc ⊢
 clear ex ey e0
 go_enter Tryz.func221,Tryz.ntmps221
 go_wp2_with (go_at_call 222;refine Calls.mono (Hc.out _) ?_;rintro e w' ⟨rfl,rfl⟩)
 go_ret
 exact ⟨rfl,0,_,by rw [alloc_eq_grow,alloc_eq_grow,grow_grow];rfl⟩
theorem united_cmp (blk off size:Nat) (w:World):CmpLays Tryz.prog 221 #[] encSp 2 cfSp blk off size w :=
 fun _ _ _ _ x y=>united_closure x y _
theorem bits_Len0 (w:World):Calls Tryz.prog 258 #[.int .u64 0] w fun e w' => (∃ l:Int,e=.returned (.int .i64 l))∧w' = w:=by
 have h:=Any.bits_Len (SlLaysF0.n15.bits (P:=Tryz.prog) (ρ:=Tryz.sortSp_ren) { Tryz.sortSp with }) 0 w (by omega) (by omega)
 exact h.mono fun _ _ ⟨he,hw⟩=>⟨⟨_,he⟩,hw⟩
set_option maxHeartbeats 4000000 in
theorem ins_nil (f:Value) (w:World):Calls Tryz.prog 300 #[.slice none 0 0,.int .i64 0,.int .i64 0,f] w (fun e w' => e=.returned (.tuple #[])∧w' = w):=by
 go_enter Tryz.func300,Tryz.ntmps300
 go_wp2_with fail
 go_loopg [8] 0 (fun q u8 wr=>u8=.int .i64 1∧wr=w)
 case atStart=>exact ⟨rfl,rfl⟩
 case round =>
  obtain ⟨rfl,rfl⟩:=hrel
  go_wp2_with fail
  go_end0
  exact ⟨rfl,rfl⟩
set_option maxRecDepth 100000 in
set_option maxHeartbeats 4000000 in
theorem pdq_nil (l:Int) (f:Value) (w:World):Calls Tryz.prog 257 #[.slice none 0 0,.int .i64 0,.int .i64 0,.int .i64 l,f] w (fun e w' => e=.returned (.tuple #[])∧w' = w):=by
 go_enter Tryz.func257,Tryz.ntmps257
 go_wp2_with fail
 go_loopg [1,2] 0 (fun q u1 u2 wr=>u1=.int .i64 0∧u2=.int .i64 0∧wr=w)
 case atStart=>exact ⟨rfl,rfl,rfl⟩
 case round =>
  obtain ⟨rfl,rfl,rfl⟩:=hrel
  go_wp2_with (go_at_call 300;refine Calls.mono (ins_nil _ _) ?_;rintro e w1 ⟨rfl,rfl⟩)
  (try simp only [Exit.inBlock,Exit.then])
  refine bodyPost_ret (results_none rfl _ _ _) rfl ?_
  exact ⟨rfl,rfl⟩
set_option maxHeartbeats 4000000 in
theorem sort_nil (f:Value) (w:World):Calls Tryz.prog 220 #[.slice none 0 0,f] w (fun e w' => e=.returned (.tuple #[])∧w' = w):=by
 go_enter Tryz.func220,Tryz.ntmps220
 go_wp2_with (first
  | (go_at_call 258;refine Calls.mono (bits_Len0 _) ?_;rintro e w1 ⟨⟨l,rfl⟩,rfl⟩)
  | (go_at_call 257;refine Calls.mono (pdq_nil _ _ _) ?_;rintro e w2 ⟨rfl,rfl⟩))
 go_end0
 exact ⟨rfl,rfl⟩
theorem sort_spans (w:World) (v:Value) (base:Nat) (l:List Sp) (h:RowSp w base 111 v l) (hb:base ≤ w.heap.size) (hl:l.length ≤ 1048576) :
  Calls Tryz.prog 220 #[v,.func (.func 221) #[] #[]] w (fun e w' => e=.returned (.tuple #[])∧∃ l', l'.Perm l∧SortedF l' ∧ RowSp w' base 111 v l' ∧ ∀ w0,Ext w0 w → w0.heap.size ≤ base → Ext w0 w'):=by
 rcases h.2 with ⟨rfl,h0⟩ | ⟨g,cap,cur,rfl,hg,hh,_⟩
 ·obtain rfl:l=[]:=List.length_eq_zero_iff.1 h0
  refine Calls.mono (sort_nil _ _) ?_
  rintro e w' ⟨rfl,rfl⟩
  exact ⟨rfl,[],List.Perm.refl _,fun i k h1 h2=>absurd h2 (by simp),h,fun _ hx _=>hx⟩
 ·have hgs:g < w.heap.size:=(Array.getElem?_eq_some_iff.1 hh).1
  have eg:∀ args w,(callFunc 221 args).run Tryz.prog w=.ok (.enter 221 args) w:=enters_of Tryz.func221 (by kernel_rfl) rfl
  have hcon:=AnyQ.slices_SortFunc Tryz.sortSp 2 Tryz.isAgg111 Tryz.sizeOf111 encSp (fun _=>rfl) encSp_one cfSp swoSp 221 #[] g 0 cap l.toArray w eg (united_cmp g 0 _ w) (holdsSp h) hgs (by simp;omega)
  refine Calls.mono hcon ?_
  rintro e w' ⟨rfl,d,n,os,hp,hs,rfl⟩
  have hpl:=PermIn.list hp
  have hd:d.size=l.length:=by have:=hp.1;simpa using this
  obtain ⟨h1,h2⟩:=sortRow (n:=n) (os:=os) (d:=d) h hd
  refine ⟨rfl,d.toList,hpl,SortedIn.f (by have:=hs;rw [show l.toArray.size=d.size by simp [hd]] at this;exact this),?_,fun w0 hx hb0=>h2 w0 hx (by omega)⟩
  have e4:d.toList.length=l.length:=by rw [Array.length_toList];exact hd
  rw [← e4] at h1 ⊢
  exact h1
end Go.Proofs.YtechbeegbhlppaaGreatDoor
namespace Go.Proofs.YtechbeegbhlppaaGreatDoor
set_option linter.unusedVariables false
set_option linter.unusedSimpArgs false
open Go.RowKit
attribute [local go_sem] cell_onto
set_option maxRecDepth 100000 in
set_option maxHeartbeats 16000000 in
theorem impl_united (v:Value) (l:List Sp) (w:World) (h:Spans w 0 w.heap.size v l) (hl:l.length ≤ 1048576) (hbd:∀ i,i < l.length → SpBd' (spAt l i)) (hft:FromTo l) :
  Calls Tryz.prog 172 #[v] w (NewOwn 111 2 (mkL l).length (spanCell (mkL l)) w):=by
 obtain ⟨A,c,rfl,hn,hc⟩:=h.len
 have Hcl:=qh (slices_Clone_spans _ l w h hl)
 have Hbd:=qh hbd
 have Hft:=qh hft
 have Hmx:=qh max_bd
 clear h hbd hft
 go_enter Tryz.func172,Tryz.ntmps172
 go_wp2_with (first
  | (go_at_call 219;refine Calls.mono Hcl.out ?_;rintro e w1 ⟨v3,rfl,hx1,hr1⟩;obtain ⟨A3,c3,rfl⟩:=ownsRow_len hr1;have Hx1:=qh hx1;have Hr1:=qh (show RowSp w1 w.heap.size 111 (.slice A3 l.length c3) l from hr1);have hz1:=hx1.size;clear hx1 hr1)
  | (go_at_call 220;refine Calls.mono (sort_spans w1 (.slice A3 l.length c3) w.heap.size l Hr1.out hz1 hl) ?_;rintro e wa ⟨rfl,S,hp,hs,hr,hx⟩;have Hxa:=qh (hx w Hx1.out (Nat.le_refl _));have Hperm:=qh hp;have Hsf:=qh hs;have HrS:=qh hr;clear hp hs hr hx))
 have hza:=Hxa.out.size
 have HSl:Hid (S.length=l.length):=qh Hperm.out.length_eq
 have HSb:Hid (∀ i,i < l.length → SpBd' (spAt S i)):=qh (fun i hi=>perm_all (P:=SpBd') Hperm.out Hbd.out i (by rw [HSl.out];exact hi))
 have HgS:Hid (∀ g,(Value.slice A3 l.length c3).ownBlock=some g → g < wa.heap.size):=qh (fun g hg=>(HrS.out.lt g hg).2)
 have Hm:Hid (mkL l=joinTo S l.length):=qh (by rw [← joinL_perm Hperm.out Hsf.out Hft.out];unfold joinL;rw [HSl.out])
 have Hr0:Hid (RowSp (wa.alloc (.cells #[] 111)) wa.heap.size 111 (.slice (some ⟨wa.heap.size,0,none⟩) 0 0) []):=qh (by
  have:=World.ownsRow_made (base:=wa.heap.size) (e:=111) (size:=2) wa #[] 0 (by simp) (Nat.zero_le _) rfl
  unfold RowSp
  simpa [cellsOf] using this)
 clear Hr1 Hx1 Hcl hz1 Hft Hsf
 go_loopg [4,6,7,15] l.length (fun q u4 u6 u7 i wq=>∃ (j n7:Nat),j+q=l.length∧i=.int .i64 j∧Hid (Ext w wq)∧Hid (RowSp wq w.heap.size 111 (.slice A3 l.length c3) S)∧Hid (RowSp wq wa.heap.size 111 u4 (joinTo S j))∧wa.heap.size ≤ wq.heap.size∧Hid ((joinTo S j).length=n7)∧∃ A7 c7,u4=.slice A7 n7 c7)
 case atStart=>exact ⟨0,0,by omega,rfl,qh (Hxa.out.alloc _),qh (HrS.out.ext exts),Hr0,by simp,qh rfl,_,_,rfl⟩
 clear Hr0 HrS
 case round =>
  obtain ⟨j,n7,hj,rfl,Hx,HrS,HrO,hz,HOl,A7,c7,rfl⟩:=hrel
  have hx:=Hx.out
  have Hpre:=qh (joinTo_len S j)
  by_cases hlt:j < l.length
  ·obtain ⟨gS,capS,e,hgS,hgSz,hcapS,hcS⟩:=HrS.out.cells (by rw [HSl.out];omega)
   rw [HSl.out] at e hcS
   injection e with e1 e2 e3
   subst e1 e3
   obtain ⟨s1,s2, -, -⟩:=hcS j hlt
   have hgSa:gS < wa.heap.size:=HgS.out gS rfl
   obtain ⟨⟨f1,f2⟩,⟨f3,f4⟩⟩:=HSb.out j hlt
   have HOb:=qh (joinTo_all (l:=S) (P:=fun x => -4611686018427387904 ≤ x∧x ≤ 4611686018427387904) Hmx.out (fun i hi=>(HSb.out i (by rw [← HSl.out];exact hi)).2) j (by rw [HSl.out];omega))
   have Hstep:Hid (joinTo S (j+1)=joinS (joinTo S j) (spAt S j)):=qh rfl
   have hn7:n7 ≤ j:=by rw [← HOl.out];exact Hpre.out
   clear hcS
   have hgSr:gS < wr.heap.size:=by omega
   generalize hss:spAt S j=s at *
   clear hss
   have T0:decide ((j:Int) < (l.length:Int))=true:=decide_eq_true (by omega)
   have T0n:decide (j < l.length)=true:=decide_eq_true hlt
   obtain ⟨wb,hwb⟩:∃ x:World,x=wr.alloc (.cells #[.int .i64 s.fr,.int .i64 s.to] 111):=⟨_,rfl⟩
   have hxb:Ext wr wb:=by rw [hwb];exact exts
   have lb:=(show Boxed wb wr.heap.size [.int .i64 s.fr,.int .i64 s.to] from by rw [hwb];exact Boxed.new wr [.int .i64 s.fr,.int .i64 s.to] 111);have lb0:=lb.at0;have lb1:=lb.at1;have lbg:=lb.1;have Hlb:=qh lb;clear lb
   have Hx2:=qh (hx.trans hxb)
   have HrS2:=qh (HrS.out.ext hxb)
   have HrO2:=qh (HrO.out.ext hxb)
   have hzb:=hxb.size
   by_cases hc:joinTo S j ≠ []∧s.fr ≤ (spAt (joinTo S j) ((joinTo S j).length - 1)).to+1
   ·have Hj:Hid (joinTo S (j+1)=(joinTo S j).set (n7 - 1) ⟨(spAt (joinTo S j) (n7 - 1)).fr,max (spAt (joinTo S j) (n7 - 1)).to s.to⟩):=qh (by rw [Hstep.out];unfold joinS;rw [if_pos hc,HOl.out])
    obtain ⟨hne,hle⟩:=hc
    have hpos:0 < n7:=by rw [← HOl.out];exact List.length_pos_iff.2 hne
    rw [HOl.out] at hle
    obtain ⟨g7,cap7,e,hg7,hg7z,hcap7,hcO⟩:=HrO.out.cells (by rw [HOl.out];exact hpos)
    rw [HOl.out] at e hcO
    injection e with e1 e2 e3
    subst e1 e3
    obtain ⟨o1,o2,o3,o4⟩:=hcO (n7 - 1) (by omega)
    obtain ⟨b1,b2⟩:=HOb.out (n7 - 1) (by rw [HOl.out];omega)
    have Hset:Hid (∀ w', Ext wr w' → ∀ x,RowSp (w'.setCell ⟨g7,(n7 - 1) * 2+1,none⟩ (.int .i64 x)) wa.heap.size 111 (.slice (some ⟨g7,0,none⟩) n7 c7) ((joinTo S j).set (n7 - 1) ⟨(spAt (joinTo S j) (n7 - 1)).fr,x⟩)):=qh (fun w' hx' x=>by
     have hr:=HrO.out.ext hx'
     rw [← HOl.out] at hr
     have:=RowSp.setTo hr (k:=(joinTo S j).length - 1) (by rw [HOl.out];omega) x
     rwa [List.length_set,HOl.out] at this)
    have HS2:Hid (∀ w', Ext wr w' → ∀ x,RowSp (w'.setCell ⟨g7,(n7 - 1) * 2+1,none⟩ (.int .i64 x)) w.heap.size 111 (.slice (some ⟨gS,0,none⟩) l.length c3) S):=qh (fun w' hx' x=>ownsRow_setCell_other (HrS.out.ext hx') (fun h=>by
     have:gS=g7:=by simpa [Value.ownBlock] using h
     omega) _)
    have HOl2:Hid ((joinTo S (j+1)).length=n7):=qh (by rw [Hj.out,List.length_set];exact HOl.out)
    generalize joinTo S j=O at *
    have T1:decide ((0:Int) ≤ (n7:Int) - 1)=true:=decide_eq_true (by omega)
    have T1a:decide ((1:Int) ≤ (n7:Int))=true:=decide_eq_true (by omega)
    have T1b:decide (1 ≤ n7)=true:=decide_eq_true (by omega)
    have T1c:decide (0 < n7)=true:=decide_eq_true (by omega)
    have T1d:decide ((0:Int) < (n7:Int))=true:=decide_eq_true (by omega)
    have h1n:1 ≤ n7:=hpos
    have T3:decide (s.fr ≤ (spAt O (n7 - 1)).to+1)=true:=decide_eq_true hle
    have i1:(0:Int) ≤ (n7:Int) - 1:=by omega
    have i2:(n7:Int) - 1 < (n7:Int):=by omega
    have i3:((n7:Int) - 1).toNat=n7 - 1:=by omega
    have p2:=(hxb.cell (p:=⟨g7,(n7 - 1) * 2+1,none⟩) hg7z).trans o2
    have hg7b:g7 < wb.heap.size:=by omega
    clear hcO hne hle
    go_wp2_with fail
    rw [← hwb]
    clear hwb
    (refine wp_region_onto prog_mixed (by kernel_rfl) ?_;(repeat (go_big_quiet_step ((fail))));refine onto_end ?_;intro w1 hx1)
    have hxq:Ext wb w1:=exts
    have hxq2:Ext wr w1:=hxb.trans hxq
    have hzq:=hxq.size
    have r2:=(hxq.cell (p:=⟨g7,(n7 - 1) * 2+1,none⟩) hg7b).trans p2
    have r3:=(hxq2.frozen (p:=⟨g7,(n7 - 1) * 2+1,none⟩) hg7z).trans o4
    have hg71:g7 < w1.heap.size:=by omega
    have lc:=Hlb.out.ext hxq;have lc0:=lc.at0;have lc1:=lc.at1;have lcg:=lc.1;have Hlc:=qh lc;clear lc
    have Hx1:=qh (Hx.out.trans hxq2)
    clear o1 o2 o3 o4 s1 s2 hx hx1 T3 p2 lb0 lb1 lbg
    go_wp2_with fail
    have Hrw:=qh (show RowSp ((w1.setCell ⟨g7,(n7 - 1) * 2+1,none⟩ (.int .i64 (max (spAt O (n7 - 1)).to s.to))).drew) wa.heap.size 111 (.slice (some ⟨g7,0,none⟩) n7 c7) (joinTo S (j+1)) from by rw [Hj.out];exact (Hset.out w1 hxq2 _).ext ((Ext.refl _).drew))
    have HsS:=qh ((HS2.out w1 hxq2 (max (spAt O (n7 - 1)).to s.to)).ext ((Ext.refl _).drew))
    have Hxx:=qh (show Ext w ((w1.setCell ⟨g7,(n7 - 1) * 2+1,none⟩ (.int .i64 (max (spAt O (n7 - 1)).to s.to))).drew) from (Hx1.out.setCell (by show w.heap.size ≤ g7;omega) _).drew)
    go_region
    go_wp2_with fail
    go_roundg (l.length - (j+1))
    case measure=>omega
    case rel=>exact ⟨j+1,n7,by omega,by go_num,Hxx,HsS,Hrw,by simp;omega,HOl2,_,_,rfl⟩
   ·have Hj:Hid (joinTo S (j+1)=joinTo S j ++ [s]):=qh (by rw [Hstep.out];unfold joinS;rw [if_neg hc])
    have HOl2:Hid ((joinTo S (j+1)).length=n7+1):=qh (by rw [Hj.out,List.length_append,HOl.out];rfl)
    by_cases hpos:0 < n7
    case' pos =>
     have hne:joinTo S j ≠ []:=List.length_pos_iff.1 (by rw [HOl.out];exact hpos)
     have hle:¬ s.fr ≤ (spAt (joinTo S j) (n7 - 1)).to+1:=fun hh=>hc ⟨hne,by rw [HOl.out];exact hh⟩
     obtain ⟨g7,cap7,e,hg7,hg7z,hcap7,hcO⟩:=HrO.out.cells (by rw [HOl.out];exact hpos)
     rw [HOl.out] at e hcO
     injection e with e1 e2 e3
     subst e1 e3
     obtain ⟨o1,o2, -, -⟩:=hcO (n7 - 1) (by omega)
     have p2:=(hxb.cell (p:=⟨g7,(n7 - 1) * 2+1,none⟩) hg7z).trans o2
     have hg7b:g7 < wb.heap.size:=by omega
     obtain ⟨b1,b2⟩:=HOb.out (n7 - 1) (by rw [HOl.out];omega)
     have T1:decide ((0:Int) ≤ (n7:Int) - 1)=true:=decide_eq_true (by omega)
     have T1a:decide ((1:Int) ≤ (n7:Int))=true:=decide_eq_true (by omega)
     have T1b:decide (1 ≤ n7)=true:=decide_eq_true (by omega)
     have T1c:decide (0 < n7)=true:=decide_eq_true (by omega)
     have T1d:decide ((0:Int) < (n7:Int))=true:=decide_eq_true (by omega)
     have h1n:1 ≤ n7:=hpos
     have i1:(0:Int) ≤ (n7:Int) - 1:=by omega
     have i2:(n7:Int) - 1 < (n7:Int):=by omega
     have i3:((n7:Int) - 1).toNat=n7 - 1:=by omega
     have T3:decide (s.fr ≤ (spAt (joinTo S j) (n7 - 1)).to+1)=false:=decide_eq_false hle
     clear hcO hne hle e2
    case' neg =>
     obtain rfl:n7=0:=by omega
     clear hpos
    all_goals
     generalize hOO:joinTo S j=O at *
     clear hc hOO
     go_wp2_with fail
     rw [← hwb]
     clear hwb
     (refine wp_region_onto prog_mixed (by kernel_rfl) ?_;(repeat (go_big_quiet_step ((fail))));refine onto_end ?_;intro w1 hx1)
     have hxq:Ext wb w1:=exts
     have hxq2:Ext wr w1:=hxb.trans hxq
     have hzq:=hxq.size
     have lc:=Hlb.out.ext hxq;have lc0:=lc.at0;have lc1:=lc.at1;have lcg:=lc.1;have Hlc:=qh lc;clear lc
     have Hx1:=qh (Hx.out.trans hxq2)
     have Hsrc:Hid (Row (w1.alloc (.cells #[.int .i64 s.fr,.int .i64 s.to] 111)) 0 (w1.alloc (.cells #[.int .i64 s.fr,.int .i64 s.to] 111)).heap.size 2 (.slice (some ⟨w1.heap.size,0,none⟩) 1 1) 1 (spanCell [s])):=qh ((Boxed.new w1 [.int .i64 s.fr,.int .i64 s.to] 111).row rfl (span_cells _ _))
     have hsl:=HOl.out
     clear s1 s2 hx1 hx lb0 lb1 lbg
     go_wp2_with (at_builtin;refine wpList_append_row _ rfl _ _ 40 rfl wa.heap.size 111 2 16 Tryz.underlying40 (by kernel_rfl) (by omega) _ O.length 1 _ rfl (.inl (row_ext HrO.out exts)) (.inr (by omega)) 0 _ _ (spanCell [s]) rfl Hsrc.out (fun i _=>spanCell_one _ i) (by rw [hsl];unfold maxLen;omega) (by rw [hsl];omega) (by simp;omega) ?_;intro v5 w5 hown5 hput5;have Hrow5:=qh (RowSp.push hown5);have Hx5:=qh (hput5.ext (show Ext w (w1.alloc (.cells #[.int .i64 s.fr,.int .i64 s.to] 111)) from exts) (by omega));have Hp5:=qh hput5;obtain ⟨A5,c5,rfl⟩:=ownsRow_len hown5;clear hown5 hput5)
     have HsS:=qh (show RowSp w5 w.heap.size 111 (.slice (some ⟨gS,0,none⟩) l.length c3) S from ownsRow_off (HrS.out.ext (show Ext wr (w1.alloc (.cells #[.int .i64 s.fr,.int .i64 s.to] 111)) from hxq2.alloc _)) Hp5.out.1 (fun g hg hh=>by
      have h1:=HgS.out g hg
      have h2:=hh.1
      omega))
     have hz5:=Hp5.out.size
     simp at hz5
     rw [hsl] at Hrow5
     go_roundg (l.length - (j+1))
     case measure=>omega
     case rel=>exact ⟨j+1,_,by omega,by go_num,Hx5,HsS,qh (by rw [Hj.out];exact Hrow5.out),by omega,HOl2,_,_,rfl⟩
  ·obtain rfl:j=l.length:=by omega
   go_wp2_with fail
   go_ret
   have h3:=HrO.out
   rw [← Hm.out] at h3
   have h4:(mkL l).length=n7:=by rw [Hm.out];exact HOl.out
   exact ⟨_,rfl,hx,ownsRow_mono h3 hza⟩
end Go.Proofs.YtechbeegbhlppaaGreatDoor
