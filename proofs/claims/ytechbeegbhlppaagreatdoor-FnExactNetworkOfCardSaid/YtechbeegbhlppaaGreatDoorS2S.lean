/- Memory that grows by append: a row of the call's own, what is appended a row of any memory; sets under way. No program in sight. -/
import Derived.Test.YtechbeegbhlppaaGreatDoorS2Lib
import Derived.ArgAppend
import Derived.Deep.DeepAppendRoom
namespace Go.Proofs.YtechbeegbhlppaaGreatDoor
set_option linter.unusedVariables false
set_option linter.unusedSimpArgs false
open Go.RowKit
def cellsOf (N:Nat) (f:Nat → Value):List Value:=(List.range N).map f
theorem cellsOf_len (N:Nat) (f:Nat → Value):(cellsOf N f).length=N:=by simp [cellsOf]
theorem cellsOf_at {N i:Nat} {f:Nat → Value} (h:i < N):(cellsOf N f)[i]? = some (f i):=by simp [cellsOf,h]
theorem of_cellsOf {N j:Nat} {f:Nat → Value} {u:Value} (h:(cellsOf N f)[j]? = some u):j < N∧u=f j:=by
 have hj:j < N:=by
  have:=(List.getElem?_eq_some_iff.1 h).1
  rwa [cellsOf_len] at this
 rw [cellsOf_at hj] at h
 exact ⟨hj,by injection h with h;exact h.symm⟩
theorem mem_cellsOf {N:Nat} {f:Nat → Value} {u:Value} (h:u ∈ cellsOf N f):∃ i,i < N∧u=f i:=by
 unfold cellsOf at h
 obtain ⟨i,hi,e⟩:=List.mem_map.1 h
 exact ⟨i,by simpa using hi,e.symm⟩
theorem cellsOf_congr {N:Nat} {f f' : Nat → Value} (h:∀ i,i < N → f i=f' i):cellsOf N f=cellsOf N f' := by
 unfold cellsOf
 exact List.map_congr_left (fun i hi=>h i (by simpa using hi))
theorem cellsOf_append (N M:Nat) (f f' : Nat → Value):cellsOf N f ++ cellsOf M f' = cellsOf (N+M) (fun i=>if i < N then f i else f' (i - N)):=by
 refine List.ext_getElem? (fun i=>?_)
 by_cases h:i < N
 ·rw [List.getElem?_append_left (by rw [cellsOf_len];exact h),cellsOf_at h,cellsOf_at (by omega),if_pos h]
 ·rw [List.getElem?_append_right (by rw [cellsOf_len];omega),cellsOf_len]
  by_cases h2:i - N < M
  ·rw [cellsOf_at h2,cellsOf_at (by omega),if_neg h]
  ·rw [List.getElem?_eq_none (by rw [cellsOf_len];omega),List.getElem?_eq_none (by rw [cellsOf_len];omega)]
def Put (b:Nat) (w:World) (v:Value) (w' : World) (v' : Value):Prop:=Off (fun k=>b ≤ k∧k < w.heap.size∧v.ownBlock=some k) w w' ∧ ∀ g,v'.ownBlock=some g → (b ≤ g∧g < w.heap.size∧v.ownBlock=some g) ∨ w.heap.size ≤ g
def Dst (w:World) (b:Nat) (e:TypeId) (sz:Nat) (v:Value) (n:Nat) (xs:List Value):Prop:=w.ownsRow b e sz v n xs ∨ (n=0∧xs=[]∧(∃ A,v=.slice A 0 0)∧∀ g,v.ownBlock=some g → g < w.heap.size)
theorem Dst.lt {w:World} {b:Nat} {e:TypeId} {sz n:Nat} {v:Value} {xs:List Value} (h:Dst w b e sz v n xs):∀ g,v.ownBlock=some g → g < w.heap.size:=by
 rcases h with h | ⟨_,_,_,h⟩
 ·exact fun g hg=>(h.lt g hg).2
 ·exact h
theorem Dst.len {w:World} {b:Nat} {e:TypeId} {sz n:Nat} {v:Value} {xs:List Value} (h:Dst w b e sz v n xs):∃ A c,v=.slice A n c:=by
 rcases h with h | ⟨h1,_,⟨A,h⟩,_⟩
 ·rcases h.2 with ⟨rfl,rfl⟩ | ⟨g,cap,cur,rfl,_⟩
  ·exact ⟨_,_,rfl⟩
  ·exact ⟨_,_,rfl⟩
 ·subst h1;exact ⟨A,0,h⟩
theorem Off.of_grown {w w' : World} {row:Option Nat} (h:w.grownBy w' row):Off (fun k=>row=some k) w w' := ⟨h.os,h.tape,h.output,h.size,fun k hk hs=>h.block k hk (fun e=>hs e.symm)⟩
theorem ownsRow_mono {w:World} {b b' : Nat} {e:TypeId} {sz n:Nat} {v:Value} {xs:List Value} (h:w.ownsRow b e sz v n xs) (hb:b' ≤ b):w.ownsRow b' e sz v n xs:=by
 obtain ⟨h1,h2⟩:=h
 refine ⟨h1,?_⟩
 rcases h2 with h2 | ⟨g,cap,cur,hv,hg,r⟩
 ·exact .inl h2
 ·exact .inr ⟨g,cap,cur,hv,by omega,r⟩
theorem ownsRow_off {S:Nat → Prop} {w w' : World} {b:Nat} {e:TypeId} {sz n:Nat} {v:Value} {xs:List Value} (h:w.ownsRow b e sz v n xs) (hx:Off S w w') (hs:∀ g,v.ownBlock=some g → ¬ S g):w'.ownsRow b e sz v n xs:=by
 have hlt:=h.lt
 obtain ⟨h1,h2⟩:=h
 refine ⟨h1,?_⟩
 rcases h2 with h2 | ⟨g,cap,cur,hv,hg,hh,r⟩
 ·exact .inl h2
 ·subst hv
  exact .inr ⟨g,cap,cur,rfl,hg,(hx.block g (hlt g rfl).2 (hs g rfl)).trans hh,r⟩
theorem Own.of_owned {w:World} {base n sz:Nat} {e:TypeId} {v:Value} {f:Nat → Value} (h:w.ownsRow base e sz v n (cellsOf (n * sz) f)) :
  ∃ g,(0 < n → v.ownBlock=some g∧base ≤ g)∧Own w g sz v n f:=by
 obtain ⟨g,hg,ho⟩:=Own.of_row (f:=f) h (fun i hi=>cellsOf_at hi)
 refine ⟨g,fun hn=>⟨?_,hg hn⟩,ho⟩
 obtain ⟨A,c,e1⟩:=ho.len
 subst e1
 obtain ⟨off,hA,_⟩:=ho.at_ hn
 subst hA
 rfl
theorem Dst.off {S:Nat → Prop} {w w' : World} {b:Nat} {e:TypeId} {sz n:Nat} {v:Value} {xs:List Value} (h:Dst w b e sz v n xs) (hx:Off S w w') (hs:∀ k,b ≤ k → ¬ S k):Dst w' b e sz v n xs:=by
 rcases h with h | ⟨h1,h2,h3,h4⟩
 ·exact .inl (ownsRow_off h hx (fun g hg=>hs g (h.lt g hg).1))
 ·exact .inr ⟨h1,h2,h3,fun g hg=>Nat.lt_of_lt_of_le (h4 g hg) hx.size⟩
theorem Put.ext {a w w' : World} {v v' : Value} {base:Nat} (h:Put base w v w' v') (hx:Ext a w) (hb:a.heap.size ≤ base):Ext a w' :=
 hx.off h.1 (fun k hk hs=>by have:=hs.1;omega)
theorem Put.size {b:Nat} {w w' : World} {v v' : Value} (h:Put b w v w' v'):w.heap.size ≤ w'.heap.size:=h.1.size
theorem run_append_nil_any {P:Program} {w:World} (base:Nat) (t ty e:TypeId) (i:TypeInfo) (size:Nat) (ht:P.underlying t=some (.slice e)) (hi:P.info? e=some i)
  (v:Value) (n:Nat) (xs:List Value) (hown:w.ownsRow base e size v n xs) (c:Nat) :
  (Builtin.append_ #[t,t] ty #[v,.slice none 0 c]).run P w=.ok v w:=by
 rcases hown.2 with ⟨rfl,rfl⟩ | ⟨g,cap,cur,rfl,_,_,hnc,_⟩
 ·simp [Builtin.append_,run_underlying ht,sizeOf,typeInfo,hi,Builtin.lenOf,Builtin.firstCells]
 ·simp [Builtin.append_,run_underlying ht,sizeOf,typeInfo,hi,Builtin.lenOf,Builtin.firstCells,hnc,storeCells]
theorem run_append_row {P:Program} {w:World} (t ty:TypeId) (base:Nat) (e:TypeId) (size bytes:Nat) (ht:P.underlying t=some (.slice e))
  (hi:(P.info? e).map (fun i=>(i.zero.map (·.cells.size),i.size,i.bytes))=some (some size,size,bytes)) (hsz:0 < size)
  (v:Value) (n m:Nat) (xs:List Value) (hown:Dst w base e size v n xs) (hm0:w.ownsRow base e size v n xs ∨ 0 < m) (lo hi' : Nat) (u:Value) (f:Nat → Value) (hrow:Row w lo hi' size u m f)
  (h1:∀ i,i < m * size → (f i).oneCell' = true) (h63:n+m ≤ maxLen) (hbytes:(n+m) * bytes ≤ 140737488355328) (hbase:base ≤ w.heap.size) :
  ∃ v' w', (Builtin.append_ #[t,t] ty #[v,u]).run P w=.ok v' w' ∧ w'.ownsRow base e size v' (n+m) (xs ++ cellsOf (m * size) f)∧Put base w v w' v' := by
 obtain ⟨i,hi', hzz⟩:=Option.map_eq_some_iff.1 hi
 simp only [Prod.mk.injEq] at hzz
 obtain ⟨z1,z2,z3⟩:=hzz
 obtain ⟨z,hz,hzc⟩:=Option.map_eq_some_iff.1 z1
 obtain ⟨hm,A,c,rfl,hc,hr⟩:=hrow
 have one:∀ u ∈ cellsOf (m * size) f,u.oneCell' = true:=fun u hu=>by
  obtain ⟨i,hi,e⟩:=mem_cellsOf hu
  rw [e];exact h1 i hi
 have old:∀ {k:Nat},w.ownsRow base e size v n xs → v.ownBlock=some k → base ≤ k∧k < w.heap.size∧v.ownBlock=some k:=fun ho hk=>⟨(ho.lt _ hk).1,(ho.lt _ hk).2,hk⟩
 cases A with
 | none =>
  have hm0' : m=0:=by
   rcases Nat.eq_zero_or_pos m with e0 | e0
   ·exact e0
   ·obtain ⟨b,off,hA,_⟩:=hr e0
    cases hA
  subst hm0'
  have ho:w.ownsRow base e size v n xs:=by
   rcases hm0 with h | h
   ·exact h
   ·omega
  exact ⟨v,w,run_append_nil_any (P:=P) (w:=w) base t ty e i size ht hi' v n xs ho c,by simpa [cellsOf] using ho,Off.refl _ _,fun g hg=>.inl (old ho hg)⟩
 | some ad =>
  have hnews:∀ j u,(cellsOf (m * size) f)[j]? = some u → w.cell? (ad.add j)=some u:=by
   intro j u hj
   obtain ⟨hj1,e⟩:=of_cellsOf hj
   have hm0:0 < m:=by
    rcases Nat.eq_zero_or_pos m with e0 | e0
    ·rw [e0,Nat.zero_mul] at hj1;omega
    ·exact e0
   obtain ⟨b,off,hA,_,_,hcell⟩:=hr hm0
   injection hA with hA
   subst hA
   rw [Addr.add_lit,e]
   exact hcell j hj1
  have hcase:w.ownsRow base e size v n xs ∨ (0 < m∧n=0∧xs=[]∧∃ A,v=.slice A 0 0):=by
   rcases hm0 with h | h
   ·exact .inl h
   ·rcases hown with h2 | ⟨h2,h3,h4,_⟩
    ·exact .inl h2
    ·exact .inr ⟨h,h2,h3,h4⟩
  rcases hcase with hown | ⟨hm1,rfl,rfl,⟨A,rfl⟩⟩
  ·have hown' := hown
   rcases hown'.2 with ⟨rfl,rfl⟩ | ⟨g,cap,cur,rfl,hbg,hg,hnc,hcm,hcs,htake⟩
   ·have hnil:w.ownsRow w.heap.size e size (.slice none 0 0) 0 xs:=⟨hown.1,.inl ⟨rfl,rfl⟩⟩
    obtain ⟨v', w', r1,r2,r3,_⟩:=run_append_own (P:=P) w w.heap.size t ty e i z size bytes ht hi' hz z2 z3 hzc hsz _ 0 xs hnil ad m c (cellsOf (m * size) f) (cellsOf_len _ _) hnews one h63 hbytes (Nat.le_refl _)
    exact ⟨v', w', r1,ownsRow_mono r2 hbase,(Off.of_grown r3).mono (fun k hk=>by cases hk),fun g hg=>.inr (r2.lt g hg).1⟩
   ·by_cases hfit:n+m ≤ cap
    ·obtain ⟨w', r1,r2,r3⟩:=run_append_own_spare (P:=P) w base t ty e i size ht hi' z2 g n cap xs hown ad m c (cellsOf (m * size) f) (cellsOf_len _ _) hnews one hfit
     exact ⟨_,w', r1,r2,(Off.of_grown r3).mono (fun k hk=>old hown hk),fun g' hg' => .inl (old hown hg')⟩
    ·obtain ⟨v', w', r1,r2,r3⟩:=run_append_arg_grows (P:=P) w t ty e i z size bytes ht hi' hz z2 z3 hzc hsz ⟨g,0,none⟩ n cap xs hown.1 (fun j u hj=>hown.cells rfl j u hj) ad m c (cellsOf (m * size) f) (cellsOf_len _ _) hnews (by omega) h63 hbytes
     exact ⟨v', w', r1,ownsRow_mono r2 hbase,(Off.of_grown r3).mono (fun k hk=>by cases hk),fun g' hg' => .inr (r2.lt g' hg').1⟩
  ·cases A with
   | none =>
    have hnil:w.ownsRow w.heap.size e size (.slice none 0 0) 0 []:=⟨by simp,.inl ⟨rfl,rfl⟩⟩
    obtain ⟨v', w', r1,r2,r3,_⟩:=run_append_own (P:=P) w w.heap.size t ty e i z size bytes ht hi' hz z2 z3 hzc hsz _ 0 [] hnil ad m c (cellsOf (m * size) f) (cellsOf_len _ _) hnews one h63 hbytes (Nat.le_refl _)
    exact ⟨v', w', r1,ownsRow_mono r2 hbase,(Off.of_grown r3).mono (fun k hk=>by cases hk),fun g hg=>.inr (r2.lt g hg).1⟩
   | some b =>
    obtain ⟨v', w', r1,r2,r3⟩:=run_append_arg_grows (P:=P) w t ty e i z size bytes ht hi' hz z2 z3 hzc hsz b 0 0 [] (by simp) (fun j u hj=>by simp at hj) ad m c (cellsOf (m * size) f) (cellsOf_len _ _) hnews (by omega) h63 hbytes
    exact ⟨v', w', r1,ownsRow_mono r2 hbase,(Off.of_grown r3).mono (fun k hk=>by cases hk),fun g' hg' => .inr (r2.lt g' hg').1⟩
theorem wpList_append_row {P:Program} (w:World) {ops:Array Oper} {rest:List Oper} {o:Oper} {a:Act} {Q:Exit → Act → World → Prop} (hgd:o.guard=none) (s x:Operand) (t:TypeId)
  (ho:o.op=.call { callee:=.builtin .append,args:=#[s,x],argTypes:=#[t,t] }) (base:Nat) (e:TypeId) (size bytes:Nat) (ht:P.underlying t=some (.slice e))
  (hi:(P.info? e).map (fun i=>(i.zero.map (·.cells.size),i.size,i.bytes))=some (some size,size,bytes)) (hsz:0 < size)
  (v:Value) (n m:Nat) (xs:List Value) (hs:a.eval s=v) (hown:Dst w base e size v n xs) (hm0:w.ownsRow base e size v n xs ∨ 0 < m) (lo hi' : Nat) (u:Value) (f:Nat → Value) (hx:a.eval x=u) (hrow:Row w lo hi' size u m f)
  (h1:∀ i,i < m * size → (f i).oneCell' = true) (h63:n+m ≤ maxLen) (hbytes:(n+m) * bytes ≤ 140737488355328) (hbase:base ≤ w.heap.size)
  (h:∀ v' w', w'.ownsRow base e size v' (n+m) (xs ++ cellsOf (m * size) f) → Put base w v w' v' → wpList P ops Q rest (a.put o.dst v') w'):wpList P ops Q (o :: rest) a w:=by
 obtain ⟨v', w', hr,h2,h3⟩:=run_append_row (P:=P) (w:=w) t o.type base e size bytes ht hi hsz v n m xs hown hm0 lo hi' u f hrow h1 h63 hbytes hbase
 refine wpList_plain hgd fun K hK=>?_
 unfold Oper.wp execOp
 simp only [ho,resolve,invoke,builtin,Sem.run_bind,Sem.run_pure,Result.andThen_ok,List.map_toArray,List.map_cons,List.map_nil,hs,hx,hr]
 exact hK _ _ (h v' w' h2 h3)
theorem step_append_row {P:Program} {ops:Array Oper} {o:Oper} {a:Act} {w:World} {K:Act → World → Prop} {Q:Exit → Act → World → Prop} {E:Prop} (hgd:o.guard=none) (s x:Operand) (t:TypeId)
  (ho:o.op=.call { callee:=.builtin .append,args:=#[s,x],argTypes:=#[t,t] }) (base:Nat) (e:TypeId) (size bytes:Nat) (ht:P.underlying t=some (.slice e))
  (hi:(P.info? e).map (fun i=>(i.zero.map (·.cells.size),i.size,i.bytes))=some (some size,size,bytes)) (hsz:0 < size)
  (v:Value) (n m:Nat) (xs:List Value) (hs:a.eval s=v) (hown:Dst w base e size v n xs) (hm0:w.ownsRow base e size v n xs ∨ 0 < m) (lo hi' : Nat) (u:Value) (f:Nat → Value) (hx:a.eval x=u) (hrow:Row w lo hi' size u m f)
  (h1:∀ i,i < m * size → (f i).oneCell' = true) (h63:n+m ≤ maxLen) (hbytes:(n+m) * bytes ≤ 140737488355328) (hbase:base ≤ w.heap.size)
  (h:∀ v' w', w'.ownsRow base e size v' (n+m) (xs ++ cellsOf (m * size) f) → Put base w v w' v' → K (a.put o.dst v') w') :
  if Region.wanted o (yielded ops a.tmps)=true then Oper.wp P o a w K Q else E:=by
 have hw:Region.wanted o (yielded ops a.tmps)=true:=by simp [Region.wanted,hgd]
 rw [if_pos hw]
 obtain ⟨v', w', hr,h2,h3⟩:=run_append_row (P:=P) (w:=w) t o.type base e size bytes ht hi hsz v n m xs hown hm0 lo hi' u f hrow h1 h63 hbytes hbase
 unfold Oper.wp execOp
 simp only [ho,resolve,invoke,builtin,Sem.run_bind,Sem.run_pure,Result.andThen_ok,List.map_toArray,List.map_cons,List.map_nil,hs,hx,hr]
 exact h v' w' h2 h3
theorem Boxed.row {w:World} {g sz:Nat} {cs:List Value} {f:Nat → Value} (h:Boxed w g cs) (hl:cs.length=sz) (hf:∀ i,i < sz → cs[i]? = some (f i)):Row w 0 w.heap.size sz (.slice (some ⟨g,0,none⟩) 1 1) 1 f :=
 ⟨by unfold maxLen;omega,_,_,rfl,Nat.le_refl _,fun _=>⟨g,0,rfl,Nat.zero_le _,h.1,fun i hi=>by rw [Nat.zero_add];exact (h.2 i _ (hf i (by omega))).1⟩⟩
theorem Boxed.row1 {w:World} {g:Nat} {u:Value} (h:Boxed w g [u]):Row w 0 w.heap.size 1 (.slice (some ⟨g,0,none⟩) 1 1) 1 (fun _=>u) :=
 h.row rfl (fun i hi=>by
   obtain rfl:i=0:=by omega
   rfl)
theorem spanCell_one (l:List Sp) (i:Nat):(spanCell l i).oneCell' = true:=by unfold spanCell;split <;> rfl
theorem linkCell_one (l:List Lk) (i:Nat):(linkCell l i).oneCell' = true:=by unfold linkCell;split;rfl;split;rfl;split <;> rfl
def NewOwn (T sz n:Nat) (f:Nat → Value) (w:World) (e:Ending) (w' : World):Prop:=∃ v,e=.returned v∧Ext w w' ∧ w'.ownsRow w.heap.size T sz v n (cellsOf (n * sz) f)
def SetsF (T:Nat) (w:World) (lo:Nat) (v:Value) (l:List (List Sp)) (f:Nat → Value):Prop :=
 Dst w lo T 1 v l.length (cellsOf (l.length * 1) f)∧∃ (g:Nat → Nat),
  (∀ i,i < l.length → Own w (g i) 2 (f i) (setAt l i).length (spanCell (setAt l i))∧(0 < (setAt l i).length → lo ≤ g i∧v.ownBlock ≠ some (g i))) ∧
  (∀ i j,i < l.length → j < l.length → i ≠ j → 0 < (setAt l i).length → 0 < (setAt l j).length → g i ≠ g j)
def SetsBy (T:Nat) (w:World) (lo:Nat) (v:Value) (l:List (List Sp)):Prop:=∃ f,SetsF T w lo v l f
theorem SetsBy.of_empty {T:Nat} {w:World} {lo:Nat} {v:Value} (h:Dst w lo T 1 v 0 []):SetsBy T w lo v [] :=
 ⟨fun _=>.bool true,by simpa [cellsOf] using h,fun _=>0,fun i hi=>absurd hi (by simp),fun i j hi=>absurd hi (by simp)⟩
theorem SetsBy.nil (T:Nat) (w:World) (lo:Nat):SetsBy T w lo (.slice none 0 0) []:=SetsBy.of_empty (.inl (World.ownsRow_nil w lo T 1))
theorem SetsF.off {S:Nat → Prop} {T:Nat} {w w' : World} {lo:Nat} {v:Value} {l:List (List Sp)} {f:Nat → Value} (h:SetsF T w lo v l f) (hx:Off S w w') (hs:∀ k,lo ≤ k → ¬ S k):SetsF T w' lo v l f:=by
 obtain ⟨h1,g,h2,h3⟩:=h
 exact ⟨h1.off hx hs,g,fun i hi=>⟨(h2 i hi).1.off hx (fun h0=>hs _ ((h2 i hi).2 h0).1),(h2 i hi).2⟩,h3⟩
theorem SetsF.ext {T:Nat} {w w' : World} {lo:Nat} {v:Value} {l:List (List Sp)} {f:Nat → Value} (h:SetsF T w lo v l f) (hx:Ext w w'):SetsF T w' lo v l f :=
 h.off (S:=fun _=>False) (Off.of_ext hx) (fun _ _ h=>h)
theorem SetsBy.ext {T:Nat} {w w' : World} {lo:Nat} {v:Value} {l:List (List Sp)} (h:SetsBy T w lo v l) (hx:Ext w w'):SetsBy T w' lo v l:=by
 obtain ⟨f,h⟩:=h
 exact ⟨f,h.ext hx⟩
theorem SetsBy.off {S:Nat → Prop} {T:Nat} {w w' : World} {lo:Nat} {v:Value} {l:List (List Sp)} (h:SetsBy T w lo v l) (hx:Off S w w') (hs:∀ k,lo ≤ k → ¬ S k):SetsBy T w' lo v l:=by
 obtain ⟨f,h⟩:=h
 exact ⟨f,h.off hx hs⟩
theorem setAt_push (l:List (List Sp)) (s:List Sp) {i:Nat} (hi:i < l.length+1):setAt (l ++ [s]) i=if i=l.length then s else setAt l i:=by
 unfold setAt
 rw [List.getD_eq_getElem?_getD,List.getD_eq_getElem?_getD]
 by_cases h2:i=l.length
 ·subst h2;simp
 ·rw [if_neg h2,List.getElem?_append_left (by omega)]
theorem SetsF.push {T:Nat} {w w2 w3:World} {lo gu:Nat} {v v' u:Value} {l:List (List Sp)} {s:List Sp} {f:Nat → Value} (h:SetsF T w lo v l f) (hx:Ext w w2) (hgu:0 < s.length → w.heap.size ≤ gu) (hlo:lo ≤ w.heap.size)
  (hu:Own w2 gu 2 u s.length (spanCell s)) (hp:Put lo w2 v w3 v') (h4:w3.ownsRow lo T 1 v' (l.length+1) (cellsOf (l.length * 1) f ++ cellsOf (1 * 1) (fun _=>u))):SetsBy T w3 lo v' (l ++ [s]):=by
 obtain ⟨h1,g,h2,h3⟩:=h
 refine ⟨fun i=>if i=l.length then u else f i,?_,fun i=>if i=l.length then gu else g i,?_,?_⟩
 ·rw [List.length_append]
  have e:cellsOf (l.length * 1) f ++ cellsOf (1 * 1) (fun _=>u)=cellsOf ((l.length+1) * 1) (fun i=>if i=l.length then u else f i):=by
   rw [cellsOf_append]
   have:l.length * 1+1 * 1=(l.length+1) * 1:=by omega
   rw [this]
   refine cellsOf_congr (fun i hi=>?_)
   by_cases e:i=l.length
   ·rw [if_neg (by omega),if_pos e]
   ·rw [if_pos (by omega),if_neg e]
  rw [e] at h4
  exact .inl h4
 ·intro i hi
  rw [List.length_append] at hi
  have hi' : i < l.length+1:=hi
  rw [setAt_push l s hi']
  show Own w3 (if i=l.length then gu else g i) 2 (if i=l.length then u else f i) _ _∧_
  by_cases e:i=l.length
  ·simp only [if_pos e]
   refine ⟨hu.off hp.1 (fun h0 hh=>?_),fun h0=>⟨by have:=hgu h0;omega,fun hh=>?_⟩⟩
   ·have:=h1.lt gu hh.2.2
    have:=hgu h0
    omega
   ·rcases hp.2 gu hh with hh | hh
    ·have:=h1.lt gu hh.2.2
     have:=hgu h0
     omega
    ·have:=hu.lt h0
     omega
  ·simp only [if_neg e]
   have h5:=h2 i (by omega)
   refine ⟨(h5.1.ext hx).off hp.1 (fun h0 hh=>(h5.2 h0).2 hh.2.2),fun h0=>⟨(h5.2 h0).1,fun hh=>?_⟩⟩
   rcases hp.2 (g i) hh with hh | hh
   ·exact (h5.2 h0).2 hh.2.2
   ·have h6:=h5.1.lt h0
    have h7:=hx.size
    omega
 ·intro i j hi hj hne
  rw [List.length_append] at hi hj
  have hi' : i < l.length+1:=hi
  have hj' : j < l.length+1:=hj
  rw [setAt_push l s hi', setAt_push l s hj']
  show _ → _ → (if i=l.length then gu else g i) ≠ (if j=l.length then gu else g j)
  by_cases e:i=l.length
  ·have e2:¬ j=l.length:=by omega
   simp only [if_pos e,if_neg e2]
   intro h0 h0' hh
   have h6:=(h2 j (by omega)).1.lt h0'
   have h7:=hgu h0
   omega
  ·by_cases e2:j=l.length
   ·simp only [if_neg e,if_pos e2]
    intro h0 h0' hh
    have h6:=(h2 i (by omega)).1.lt h0
    have h7:=hgu h0'
    omega
   ·simp only [if_neg e,if_neg e2]
    exact h3 i j (by omega) (by omega) hne
theorem SetsBy.sets {T:Nat} {w:World} {lo:Nat} {v:Value} {l:List (List Sp)} (h:SetsBy T w lo v l):OwnSets w lo w.heap.size v l:=by
 obtain ⟨f,h1,g,h2,h3⟩:=h
 obtain ⟨g0,hg0,ho⟩:∃ g,(0 < l.length → v.ownBlock=some g∧lo ≤ g)∧Own w g 1 v l.length f:=by
  rcases h1 with h1 | ⟨h1,_,⟨A,e⟩,_⟩
  ·exact Own.of_owned h1
  ·exact ⟨0,fun h=>absurd h (by omega),by rw [h1];exact ⟨Nat.zero_le _,A,0,e,Nat.le_refl _,fun h=>absurd h (by omega)⟩⟩
 refine ⟨g0,f,g,ho,fun hn=>⟨(hg0 hn).2,ho.lt hn⟩,fun i hi=>⟨(h2 i hi).1,fun h0=>⟨((h2 i hi).2 h0).1,(h2 i hi).1.lt h0,fun e=>?_⟩⟩,h3⟩
 have hn:0 < l.length:=by omega
 have h4:=((h2 i hi).2 h0).2
 rw [e] at h4
 exact h4 (hg0 hn).1
theorem lkAt_push (l:List Lk) (x:Lk) {i:Nat} (hi:i < l.length+1):lkAt (l ++ [x]) i=if i=l.length then x else lkAt l i:=by
 unfold lkAt
 rw [List.getD_eq_getElem?_getD,List.getD_eq_getElem?_getD]
 by_cases h2:i=l.length
 ·subst h2;simp
 ·rw [if_neg h2,List.getElem?_append_left (by omega)]
theorem linkCells_push (l:List Lk) (x:Lk):cellsOf (l.length * 4) (linkCell l) ++ cellsOf (1 * 4) (linkCell [x])=cellsOf ((l ++ [x]).length * 4) (linkCell (l ++ [x])):=by
 rw [cellsOf_append,List.length_append]
 have e:l.length * 4+1 * 4=(l.length+[x].length) * 4:=by simp;omega
 rw [e]
 refine cellsOf_congr (fun i hi=>?_)
 have hl:[x].length=1:=rfl
 rw [hl] at hi
 show (if i < l.length * 4 then linkCell l i else linkCell [x] (i - l.length * 4))=linkCell (l ++ [x]) i
 by_cases h:i < l.length * 4
 ·rw [if_pos h]
  unfold linkCell
  rw [lkAt_push l x (show i / 4 < l.length+1 by omega),if_neg (show ¬ i / 4=l.length by omega)]
 ·rw [if_neg h]
  have e1:(i - l.length * 4) % 4=i % 4:=by omega
  have e2:(i - l.length * 4) / 4=0:=by omega
  have e3:i / 4=l.length:=by omega
  unfold linkCell
  rw [e1,e2,lkAt_push l x (show i / 4 < l.length+1 by omega),if_pos e3]
  rfl
theorem setAt_set (l:List (List Sp)) (v:Nat) (x:List Sp) {i:Nat} (hv:v < l.length):setAt (l.set v x) i=if i=v then x else setAt l i:=by
 unfold setAt
 rw [List.getD_eq_getElem?_getD,List.getD_eq_getElem?_getD,List.getElem?_set]
 by_cases e:v=i
 ·subst e;simp [hv]
 ·rw [if_neg e,if_neg (fun h=>e h.symm)]
theorem OwnSets.put {w w2:World} {lo b c v gu:Nat} {A:Option Addr} {u:Value} {l:List (List Sp)} {x:List Sp} (h:OwnSets w lo b (.slice A l.length c) l) (hv:v < l.length) (hx:Ext w w2) (hb:b ≤ w.heap.size)
  (hu:Own w2 gu 2 u x.length (spanCell x)) (hgu:0 < x.length → w.heap.size ≤ gu) :
  ∃ g0 off,A=some ⟨g0,off,none⟩∧lo ≤ g0∧g0 < b∧(∃ z,w2.cell? ⟨g0,off+v,none⟩=some z)∧w2.frozen? ⟨g0,off+v,none⟩=false∧OwnSets (w2.setCell ⟨g0,off+v,none⟩ u) lo w2.heap.size (.slice A l.length c) (l.set v x):=by
 obtain ⟨g0,f,g,h1,h2,h3,h4⟩:=h
 have hn:0 < l.length:=by omega
 obtain ⟨off,rfl,hlt,hc⟩:=h1.at_ hn
 obtain ⟨hl0,hg0⟩:=h2 hn
 have hxs:=hx.size
 have h1x:=h1.ext hx
 obtain ⟨off', hA', _,hc2⟩:=h1x.at_ hn
 injection hA' with hA'
 injection hA' with _ hA'
 subst hA'
 refine ⟨g0,off,rfl,hl0,hg0,⟨_,(hc2 v (by omega)).1⟩,(hc2 v (by omega)).2,g0,fun i=>if i=v then u else f i,fun i=>if i=v then gu else g i,?_,?_,?_,?_⟩
 ·have:=h1x.set v u (by omega)
  rw [List.length_set]
  exact this
 ·exact fun _=>⟨hl0,by omega⟩
 ·intro i hi
  rw [List.length_set] at hi
  rw [setAt_set l v x hv]
  by_cases e:i=v
  ·simp only [if_pos e]
   exact ⟨hu.setOther (fun h0=>by have:=hgu h0;show _ ≠ g0;omega) _,fun h0=>⟨by have:=hgu h0;omega,hu.lt h0,by have:=hgu h0;omega⟩⟩
  ·simp only [if_neg e]
   have h5:=h3 i hi
   exact ⟨(h5.1.ext hx).setOther (fun h0=>(h5.2 h0).2.2) _,fun h0=>⟨(h5.2 h0).1,by have:=(h5.2 h0).2.1;omega,(h5.2 h0).2.2⟩⟩
 ·intro i j hi hj hne
  rw [List.length_set] at hi hj
  rw [setAt_set l v x hv,setAt_set l v x hv]
  show _ → _ → (if i=v then gu else g i) ≠ (if j=v then gu else g j)
  by_cases e:i=v
  ·have e2:¬ j=v:=by omega
   simp only [if_pos e,if_neg e2]
   intro h0 h0'
   have h6:=((h3 j hj).2 h0').2.1
   have h7:=hgu h0
   omega
  ·by_cases e2:j=v
   ·simp only [if_neg e,if_pos e2]
    intro h0 h0'
    have h6:=((h3 i hi).2 h0).2.1
    have h7:=hgu h0'
    omega
   ·simp only [if_neg e,if_neg e2]
    exact h4 i j hi hj hne
theorem Boxed.own {w:World} {g sz:Nat} {cs:List Value} {f:Nat → Value} (h:Boxed w g cs) (hl:cs.length=sz) (hf:∀ i,i < sz → cs[i]? = some (f i)):Own w g sz (.slice (some ⟨g,0,none⟩) 1 1) 1 f :=
 ⟨by unfold maxLen;omega,_,_,rfl,Nat.le_refl _,fun _=>⟨h.1,0,rfl,fun i hi=>by rw [Nat.zero_add];exact h.2 i _ (hf i (by omega))⟩⟩
theorem span_cells (a b:Int):∀ i,i < 2 → [Value.int .i64 a,.int .i64 b][i]? = some (spanCell [⟨a,b⟩] i)
 | 0,_=>rfl
 | 1,_=>rfl
 | i+2,h=>absurd h (by omega)
def noNet:Net:=⟨[],[]⟩
theorem OwnSets.nil (w:World) (lo hi:Nat):OwnSets w lo hi (.slice none 0 0) [] :=
 ⟨0,fun _=>.bool true,fun _=>0,⟨Nat.zero_le _,none,0,rfl,Nat.le_refl _,fun h=>absurd h (by simp)⟩,fun h=>absurd h (by simp),fun i hi=>absurd hi (by simp),fun i j hi=>absurd hi (by simp)⟩
end Go.Proofs.YtechbeegbhlppaaGreatDoor
