/- Texts merged (a claim holds at most sixty files): R, Kg. -/
import Derived.Test.YtechbeegbhlppaaGreatDoorS2G
import Derived.Laws.CopyOwn
import Derived.Deep.RegionLaw
import Derived.Deep.RegionHeld3
import Derived.Test.YtechbeegbhlppaaGreatDoorS2Jd
import Derived.Test.YtechbeegbhlppaaGreatDoorS2S
namespace Go.Proofs.YtechbeegbhlppaaGreatDoor
set_option linter.unusedVariables false
set_option linter.unusedSimpArgs false
open Go.RowKit
attribute [local go_sem] cell_onto
set_option maxRecDepth 100000 in
set_option maxHeartbeats 2000000 in
theorem bits_Mul64_one (n:Nat) (hn:n ≤ 12) (w:World):Calls Tryz.prog 311 #[.int .u64 1,.int .u64 n] w (RetS (.tuple #[.int .u64 0,.int .u64 n]) w):=by
 match n,hn with
 | 0,_=>(go_enter Tryz.func311,Tryz.ntmps311;go_wp2_with fail;go_ret2;exact ⟨rfl,rfl⟩)
 | 1,_=>(go_enter Tryz.func311,Tryz.ntmps311;go_wp2_with fail;go_ret2;exact ⟨rfl,rfl⟩)
 | 2,_=>(go_enter Tryz.func311,Tryz.ntmps311;go_wp2_with fail;go_ret2;exact ⟨rfl,rfl⟩)
 | 3,_=>(go_enter Tryz.func311,Tryz.ntmps311;go_wp2_with fail;go_ret2;exact ⟨rfl,rfl⟩)
 | 4,_=>(go_enter Tryz.func311,Tryz.ntmps311;go_wp2_with fail;go_ret2;exact ⟨rfl,rfl⟩)
 | 5,_=>(go_enter Tryz.func311,Tryz.ntmps311;go_wp2_with fail;go_ret2;exact ⟨rfl,rfl⟩)
 | 6,_=>(go_enter Tryz.func311,Tryz.ntmps311;go_wp2_with fail;go_ret2;exact ⟨rfl,rfl⟩)
 | 7,_=>(go_enter Tryz.func311,Tryz.ntmps311;go_wp2_with fail;go_ret2;exact ⟨rfl,rfl⟩)
 | 8,_=>(go_enter Tryz.func311,Tryz.ntmps311;go_wp2_with fail;go_ret2;exact ⟨rfl,rfl⟩)
 | 9,_=>(go_enter Tryz.func311,Tryz.ntmps311;go_wp2_with fail;go_ret2;exact ⟨rfl,rfl⟩)
 | 10,_=>(go_enter Tryz.func311,Tryz.ntmps311;go_wp2_with fail;go_ret2;exact ⟨rfl,rfl⟩)
 | 11,_=>(go_enter Tryz.func311,Tryz.ntmps311;go_wp2_with fail;go_ret2;exact ⟨rfl,rfl⟩)
 | 12,_=>(go_enter Tryz.func311,Tryz.ntmps311;go_wp2_with fail;go_ret2;exact ⟨rfl,rfl⟩)
theorem bits_Mul_one (n:Nat) (hn:n ≤ 12) (w:World):Calls Tryz.prog 260 #[.int .u64 1,.int .u64 n] w (RetS (.tuple #[.int .u64 0,.int .u64 n]) w):=by
 go_enter Tryz.func260,Tryz.ntmps260
 go_wp2_with fail
 refine Calls.mono (bits_Mul64_one n hn w) ?_
 rintro e w1 ⟨rfl,rfl⟩
 go_wp2_with fail
 go_ret2
 exact ⟨rfl,rfl⟩
theorem wpList_make_cells {P:Program} (w:World) {ops:Array Oper} {rest:List Oper} {o:Oper} {a:Act} {Q:Exit → Act → World → Prop}
  (hg:o.guard=none) (l c:Operand) (t:TypeId) (hop:o.op=Op.makeSlice t l c) (e:TypeId) (bytes:Nat) (h1:P.underlying t=some (.slice e))
  (h2:(P.info? e).map (fun i=>(i.zero.isSome,i.size,i.bytes))=some (true,1,bytes)) (n:Nat) (hl:a.eval l=.int .i64 n) (hc:a.eval c=.int .i64 n)
  (hb:bytes * n ≤ 281474976710656) (hn:n ≤ maxLen)
  (hK:∀ w' (cur:List Value),Ext w w' → Hid (w'.heap[w.heap.size]? = some (.cells cur.toArray e (0,0))) → cur.length=n → wpList P ops Q rest (a.put o.dst (.slice (some ⟨w.heap.size,0,none⟩) n n)) w'):wpList P ops Q (o :: rest) a w:=by
 obtain ⟨i,hi,hzz⟩:=Option.map_eq_some_iff.1 h2
 simp only [Prod.mk.injEq] at hzz
 obtain ⟨z1,z2,z3⟩:=hzz
 obtain ⟨z,hz⟩:=Option.isSome_iff_exists.1 z1
 have hb' : (i.bytes:Int) * (n:Int) ≤ 281474976710656:=by
  have h:((i.bytes * n:Nat):Int) ≤ 281474976710656:=by rw [z3];omega
  rwa [Int.natCast_mul] at h
 have hn' : (n:Int) ≤ 9223372036854775807:=by unfold maxLen at hn;omega
 have hr:=run_make (P:=P) w t e i z h1 hi hz .i64 .i64 n n (by omega) (by omega) hb' hn'
 simp only [Int.toNat_natCast] at hr
 refine wpList_plain hg fun K hK' => ?_
 unfold Oper.wp
 simp [execOp,hop,hl,hc,hr,Result.andThen]
 have hh:(w.alloc (.cells (madeCells z.cells (n * i.size)) e)).heap[w.heap.size]? = some (.cells (madeCells z.cells (n * i.size)) e):=by
  show (w.heap.push _)[w.heap.size]? = _
  simp
 exact hK' _ _ (hK _ (madeCells z.cells (n * i.size)).toList ((Ext.refl w).alloc _) (show _=_ by simpa using hh) (by simp [size_madeCells,z2]))
theorem splice_all {cu cs:List Value} {m n:Nat} {x:Int} (h:∀ i,i < m → cu[i]? = some (.int .i64 x)) (hcs:cs=cu.take (min m (n - m))) (hmn:m < n) (hl:cu.length=n) :
  ∀ i,i < m+cs.length → (splice cu m cs)[i]? = some (.int .i64 x):=by
 intro i hi
 have hlc:cs.length=min m (n - m):=by rw [hcs,List.length_take];omega
 unfold splice
 by_cases e:i < m
 ·rw [List.getElem?_append_left (by rw [List.length_take];omega),List.getElem?_take,if_pos e]
  exact h i e
 ·rw [List.getElem?_append_right (by rw [List.length_take];omega),List.length_take,Nat.min_eq_left (by omega),List.getElem?_append_left (by omega),hcs,List.getElem?_take,if_pos (by omega)]
  exact h _ (by omega)
theorem Own.of_cells {w:World} {g n:Nat} {cu:List Value} {x:Int} {T:TypeId} (hg:w.heap[g]? = some (.cells cu.toArray T (0,0))) (h:∀ i,i < n → cu[i]? = some (.int .i64 x)) (hn:n ≤ 1048576) (hl:cu.length=n) :
  Own w g 1 (.slice (some ⟨g,0,none⟩) n n) n (intCell (List.replicate n x)):=by
 refine ⟨by unfold maxLen;omega,_,_,rfl,Nat.le_refl _,fun h0=>⟨?_,0,rfl,fun i hi=>⟨?_,?_⟩⟩⟩
 ·rcases Nat.lt_or_ge g w.heap.size with e | e
  ·exact e
  ·rw [Array.getElem?_eq_none (by omega)] at hg;cases hg
 ·have hi' : i < n:=by omega
  unfold World.cell?
  rw [Nat.zero_add]
  simp only [hg]
  have:=h i hi'
  have e2:intCell (List.replicate n x) i=.int .i64 x:=by unfold intCell inAt;simp [List.getD,hi']
  rw [e2]
  simpa using this
 ·unfold World.frozen?
  simp only [hg]
  simp
set_option maxRecDepth 100000 in
set_option maxHeartbeats 2000000 in
theorem slices_Repeat (v:Value) (x:Int) (n:Nat) (hn:n ≤ 12) (h0:0 < n) (w:World) (h:Ints w 0 w.heap.size v [x]) :
  Calls Tryz.prog 223 #[v,.int .i64 n] w (NewRow 1 n (intCell (List.replicate n x)) w):=by
 obtain ⟨A,c,rfl,hl,hc⟩:=h.len
 obtain ⟨b,off,rfl,_,hb,h1⟩:=h.at_ (i:=0) (by simp)
 have H:=qh h
 clear h
 have hh1:(decide ((n:Int) < 0))=false:=decide_eq_false (by omega)
 have Hsrc:Hid (∀ w', Ext w w' → w'.cell? ⟨b,off+0,none⟩=some (.int .i64 x)):=qh (fun w' hx=>(hx.cell (p:=⟨b,off+0,none⟩) hb).trans (by simpa [inAt] using h1))
 go_enter Tryz.func223,Tryz.ntmps223
 go_wp2_with fail
 refine Calls.mono (bits_Mul_one n hn w) ?_
 rintro e w1 ⟨rfl,rfl⟩
 go_wp2_with (first | (at_make;refine wpList_make_cells _ rfl _ _ 67 rfl 2 8 Tryz.underlying67 (by kernel_rfl) n rfl rfl (by omega) (by unfold maxLen;omega) ?_;intro w0 cur hx0 hb0 hcl) | (refine wpList_copy_splice rfl _ _ 67 67 rfl 2 Tryz.underlying67 (by kernel_rfl) _ _ _ _ _ _ rfl rfl w.heap.size 0 cur 2 hb0.out [.int .i64 x] (by show 1=min 1 n;omega) (fun _=>⟨rfl,_,rfl,fun j v hj=>by match j,hj with | 0,hj=>simp at hj;subst hj;exact Hsrc.out _ hx0⟩) (by show 0+1 ≤ cur.length;omega) (by intro v hv;simp at hv;subst hv;rfl) w.heap.size w hx0 (Nat.le_refl _) ?_;intro w2 hb2 hx2))
 have Hb2:Hid (w2.heap[w.heap.size]? = some (.cells (splice cur 0 [Value.int .i64 x]).toArray 2 (0,0))):=hb2
 have hlen2:(splice cur 0 [Value.int .i64 x]).length=n:=by rw [length_splice _ _ _ (by show 0+1 ≤ cur.length;omega)];exact hcl
 have hfst:∀ i,i < 1 → (splice cur 0 [Value.int .i64 x])[i]? = some (.int .i64 x):=by
  intro i hi
  match i,hi with
  | 0,_=>simp [splice]
 generalize splice cur 0 [Value.int .i64 x]=c0 at Hb2 hlen2 hfst
 have Hfst:=qh hfst
 have Hlen2:=qh hlen2
 have Hx2:Hid (Ext w w2):=qh hx2
 clear hb2 hb0 hfst hlen2 hcl hx2 hx0
 go_loopg [8] (n - 1) (fun q i wr=>∃ (m:Nat) (cu:List Value),0 < m∧m ≤ n∧q=n - m∧i=.int .i64 m∧Ext w wr∧Hid (wr.heap[w.heap.size]? = some (.cells cu.toArray 2 (0,0)))∧cu.length=n∧∀ i,i < m → cu[i]? = some (.int .i64 x))
 case atStart=>exact ⟨1,c0,by omega,by omega,rfl,rfl,Hx2.out,Hb2,Hlen2.out,Hfst.out⟩
 case round =>
  obtain ⟨m,cu,hm0,hmn,hq,rfl,hxr,hcu,hcl,hall⟩:=hrel
  have Hall:=qh hall
  have Hcl:=qh hcl
  have Hq:=qh hq
  have Hcu:=qh hcu.out
  clear hall hcl hq hcu
  by_cases hlt:m < n
  ·have hcl:cu.length=n:=Hcl.out
   have hclm:cu.length ≤ 12:=by omega
   go_wp2_with fail
   have q4:¬ (n=m):=by omega
   obtain ⟨cs,hcs⟩:∃ cs,cs=cu.take (min m (n - m)):=⟨_,rfl⟩
   have Hcs:=qh hcs
   have hqm:cs.length=min m (n - m):=by rw [hcs,List.length_take];omega
   have Hqm:Hid (cs.length=Nat.min m (n - m)):=qh hqm
   obtain ⟨q,hql⟩:∃ q,cs.length=q:=⟨_,rfl⟩
   have Hq1:Hid (q=min m (n - m)):=qh (hql.symm.trans hqm)
   have Hfit:Hid (m+cs.length ≤ cu.length):=qh (by rw [hqm,hcl];omega)
   have Hone:Hid (∀ v ∈ cs,v.oneCell' = true):=qh (fun v hv=>by
    rw [hcs] at hv
    obtain ⟨i,hi,e⟩:=List.getElem_of_mem hv
    have hi' : i < m:=by rw [List.length_take] at hi;omega
    have:=Hall.out i hi'
    rw [List.getElem_take] at e
    rw [List.getElem?_eq_getElem (by rw [List.length_take] at hi;omega)] at this
    injection this with this
    rw [← e,this];rfl)
   have Hsrc2:Hid (∀ w' : World,w'.heap[w.heap.size]? = some (.cells cu.toArray 2 (0,0)) → ∀ j v,cs[j]? = some v → w'.cell? (Addr.add ⟨w.heap.size,0,none⟩ j)=some v):=qh (fun w' hw j v hj=>by
    rw [hcs] at hj
    have h1:cu[j]? = some v:=by
     rw [List.getElem?_take] at hj
     split at hj
     ·exact hj
     ·cases hj
    rw [Addr.add_lit]
    unfold World.cell?
    simp only [hw]
    simpa using h1)
   have Hall2:=qh (splice_all Hall.out hcs hlt (by omega))
   have Hlen2:=qh (length_splice cu m cs Hfit.out)
   have W1:IntKind.i64.wrap ((m:Int)+(q:Int))=(m:Int)+(q:Int):=IntWalk.i64_in _ (by have:=Hq1.out;omega)
   clear hcs hqm Hsrc Hall
   go_region_held3 (fun w' => True) (trivial) ((refine step_copy_splice rfl (.tmp 41) (.tmp 44) 67 67 rfl 2 Tryz.underlying67 (by kernel_rfl) _ (some ⟨w.heap.size,0,none⟩) (n - m) (n - m) m n rfl rfl w.heap.size m cu 2 Hcu.out cs Hqm.out (fun _=>⟨rfl,_,rfl,Hsrc2.out _ Hcu.out⟩) Hfit.out Hone.out w.heap.size w (by exact hxr.drew) (Nat.le_refl _) ?_;intro w4 hg4 hb4))
   go_wp2_with fail
   go_roundg (n - (m+q))
   case measure=>have:=Hq1.out;have:=Hq.out;omega
   case rel=>exact ⟨m+q,splice cu m cs,by omega,by have:=Hq1.out;omega,rfl,by go_num,hb4,hg4,by rw [Hlen2.out,Hcl.out],by rw [← hql];exact Hall2.out⟩
  ·obtain rfl:m=n:=by omega
   go_wp2_with fail
   go_ret
   refine ⟨_,_,rfl,hxr,fun _=>Nat.le_refl _,?_⟩
   exact Own.of_cells Hcu.out Hall.out (by omega) Hcl.out
end Go.Proofs.YtechbeegbhlppaaGreatDoor
namespace Go.Proofs.YtechbeegbhlppaaGreatDoor
set_option linter.unusedVariables false
set_option linter.unusedSimpArgs false
open Go.RowKit
structure MatC (w:World) (lo b off n c:Nat) (gs os cs:Nat → Nat) (M:Mat):Prop where
 nc:n ≤ c
 lob:lo ≤ b
 bw:b < w.heap.size
 cell:∀ i,i < n → w.cell? ⟨b,off+i,none⟩=some (.slice (some ⟨gs i,os i,none⟩) n (cs i))
 cap:∀ i,i < n → n ≤ cs i
 log:∀ i,i < n → lo ≤ gs i
 gw:∀ i,i < n → gs i < w.heap.size
 gb:∀ i,i < n → gs i ≠ b
 at_:∀ i j,i < n → j < n → w.cell? ⟨gs i,os i+j,none⟩=some (.int .i64 (M i j))
 fz:∀ i j,i < n → j < n → w.frozen? ⟨gs i,os i+j,none⟩=false
 dis:∀ i k,i < n → k < n → i ≠ k → gs i ≠ gs k
theorem MatC.ext {w w' : World} {lo b off n c:Nat} {gs os cs:Nat → Nat} {M:Mat} (h:MatC w lo b off n c gs os cs M) (hx:Ext w w'):MatC w' lo b off n c gs os cs M :=
 ⟨h.nc,h.lob,Nat.lt_of_lt_of_le h.bw hx.size,fun i hi=>(hx.cell (p:=⟨b,off+i,none⟩) h.bw).trans (h.cell i hi),h.cap,h.log,fun i hi=>Nat.lt_of_lt_of_le (h.gw i hi) hx.size,h.gb,
  fun i j hi hj=>(hx.cell (p:=⟨gs i,os i+j,none⟩) (h.gw i hi)).trans (h.at_ i j hi hj),fun i j hi hj=>(hx.frozen (p:=⟨gs i,os i+j,none⟩) (h.gw i hi)).trans (h.fz i j hi hj),h.dis⟩
theorem MatC.set {w:World} {lo b off n c:Nat} {gs os cs:Nat → Nat} {M:Mat} (h:MatC w lo b off n c gs os cs M) {i j:Nat} (hi:i < n) (hj:j < n) (x:Int):MatC (w.setCell ⟨gs i,os i+j,none⟩ (.int .i64 x)) lo b off n c gs os cs (set2 M i j x):=by
 have hsz:(w.setCell ⟨gs i,os i+j,none⟩ (.int .i64 x)).heap.size=w.heap.size:=by simp [World.setCell]
 refine ⟨h.nc,h.lob,by rw [hsz];exact h.bw,fun a ha=>?_,h.cap,h.log,fun a ha=>by rw [hsz];exact h.gw a ha,h.gb,fun a d ha hd=>?_,fun a d ha hd=>(World.frozen?_setCell w _ _ _).trans (h.fz a d ha hd),h.dis⟩
 ·exact (World.cell?_setCell_other w ⟨gs i,os i+j,none⟩ ⟨b,off+a,none⟩ _ (fun e=>by injection e with e _;exact h.gb i hi e)).trans (h.cell a ha)
 ·by_cases e:a=i∧d=j
  ·obtain ⟨rfl,rfl⟩:=e
   rw [set2_at]
   exact World.cell?_setCell_same w ⟨gs a,os a+d,none⟩ _ (h.at_ a d ha hd)
  ·rw [set2_ne e]
   refine (World.cell?_setCell_other w ⟨gs i,os i+j,none⟩ ⟨gs a,os a+d,none⟩ _ (fun hh=>?_)).trans (h.at_ a d ha hd)
   injection hh with h1 h2
   by_cases ea:a=i
   ·subst ea
    exact e ⟨rfl,by omega⟩
   ·exact h.dis a i ha hi ea h1.symm
theorem MatC.congr {w:World} {lo b off n c:Nat} {gs os cs:Nat → Nat} {M M' : Mat} (h:MatC w lo b off n c gs os cs M) (he:∀ i j,i < n → j < n → M i j=M' i j):MatC w lo b off n c gs os cs M' :=
 ⟨h.nc,h.lob,h.bw,h.cell,h.cap,h.log,h.gw,h.gb,fun i j hi hj=>by rw [← he i j hi hj];exact h.at_ i j hi hj,h.fz,h.dis⟩
structure MatG (w:World) (T:TypeId) (lo:Nat) (u:Value) (n j:Nat) (gs os cs:Nat → Nat) (M:Mat):Prop where
 row:w.ownsRow lo T 1 u j (cellsOf (j * 1) (fun i=>.slice (some ⟨gs i,os i,none⟩) n (cs i)))
 cap:∀ i,i < j → n ≤ cs i
 log:∀ i,i < j → lo ≤ gs i
 gw:∀ i,i < j → gs i < w.heap.size
 gu:∀ i,i < j → u.ownBlock ≠ some (gs i)
 at_:∀ i k,i < j → k < n → w.cell? ⟨gs i,os i+k,none⟩=some (.int .i64 (M i k))
 fz:∀ i k,i < j → k < n → w.frozen? ⟨gs i,os i+k,none⟩=false
 dis:∀ i k,i < j → k < j → i ≠ k → gs i ≠ gs k
theorem MatG.start {w:World} {T:TypeId} {lo n:Nat} {u:Value} {M:Mat} (h:w.ownsRow lo T 1 u 0 []):MatG w T lo u n 0 (fun _=>0) (fun _=>0) (fun _=>0) M :=
 ⟨by simpa [cellsOf] using h,fun i hi=>absurd hi (by omega),fun i hi=>absurd hi (by omega),fun i hi=>absurd hi (by omega),fun i hi=>absurd hi (by omega),fun i k hi=>absurd hi (by omega),fun i k hi=>absurd hi (by omega),fun i k hi=>absurd hi (by omega)⟩
theorem MatG.ext {w w' : World} {T:TypeId} {lo n j:Nat} {u:Value} {gs os cs:Nat → Nat} {M:Mat} (h:MatG w T lo u n j gs os cs M) (hx:Ext w w'):MatG w' T lo u n j gs os cs M :=
 ⟨row_ext h.row hx,h.cap,h.log,fun i hi=>Nat.lt_of_lt_of_le (h.gw i hi) hx.size,h.gu,fun i k hi hk=>(hx.cell (p:=⟨gs i,os i+k,none⟩) (h.gw i hi)).trans (h.at_ i k hi hk),fun i k hi hk=>(hx.frozen (p:=⟨gs i,os i+k,none⟩) (h.gw i hi)).trans (h.fz i k hi hk),h.dis⟩
theorem MatG.done {w:World} {T:TypeId} {lo n:Nat} {u:Value} {gs os cs:Nat → Nat} {M:Mat} (h:MatG w T lo u n n gs os cs M) (hn:0 < n):∃ b off c,u=.slice (some ⟨b,off,none⟩) n c∧MatC w lo b off n c gs os cs M:=by
 obtain ⟨g,hg,ho⟩:=Own.of_owned h.row
 obtain ⟨hm,A,c,rfl,hc,hr⟩:=ho
 obtain ⟨hb,off,rfl,h3⟩:=hr hn
 obtain ⟨hg1,hg2⟩:=hg hn
 refine ⟨g,off,c,rfl,hc,hg2,hb,fun i hi=>(h3 i (by omega)).1,h.cap,h.log,h.gw,fun i hi e=>?_,h.at_,h.fz,h.dis⟩
 exact h.gu i hi (by rw [hg1,e])
theorem MatG.push {w w' : World} {T:TypeId} {lo n j:Nat} {u u' : Value} {gs os cs:Nat → Nat} {M:Mat} (h:MatG w T lo u n j gs os cs M) {g o c0:Nat}
  (hgw:g < w.heap.size) (hgl:lo ≤ g) (hgu:u.ownBlock ≠ some g) (hgd:∀ i,i < j → gs i ≠ g) (hc:n ≤ c0)
  (hat:∀ k,k < n → w.cell? ⟨g,o+k,none⟩=some (.int .i64 (M j k))∧w.frozen? ⟨g,o+k,none⟩=false)
  (hp:Put lo w u w' u') (hr:w'.ownsRow lo T 1 u' (j+1) (cellsOf (j * 1) (fun i=>.slice (some ⟨gs i,os i,none⟩) n (cs i)) ++ cellsOf (1 * 1) (fun _=>.slice (some ⟨g,o,none⟩) n c0))) :
  MatG w' T lo u' n (j+1) (fun i=>if i=j then g else gs i) (fun i=>if i=j then o else os i) (fun i=>if i=j then c0 else cs i) M:=by
 have hsz:=hp.size
 have keep:∀ (k:Nat),k < w.heap.size → u.ownBlock ≠ some k → (∀ x,w'.cell? ⟨k,x,none⟩=w.cell? ⟨k,x,none⟩)∧u'.ownBlock ≠ some k:=fun k hk hu=>by
  refine ⟨fun x=>hp.1.cell (p:=⟨k,x,none⟩) hk (fun hh=>hu hh.2.2),fun e=>?_⟩
  rcases hp.2 k e with ⟨_,_,e2⟩ | h2
  ·exact hu e2
  ·omega
 have keepF:∀ (k:Nat),k < w.heap.size → u.ownBlock ≠ some k → ∀ x,w'.frozen? ⟨k,x,none⟩=w.frozen? ⟨k,x,none⟩:=fun k hk hu x=>hp.1.frozen (p:=⟨k,x,none⟩) hk (fun hh=>hu hh.2.2)
 refine ⟨?_,fun i hi=>?_,fun i hi=>?_,fun i hi=>?_,fun i hi=>?_,fun i k hi hk=>?_,fun i k hi hk=>?_,fun i k hi hk hne=>?_⟩
 ·rw [cellsOf_append,show j * 1+1 * 1=(j+1) * 1 by omega] at hr
  have e:cellsOf ((j+1) * 1) (fun i=>if i < j * 1 then (fun i=>Value.slice (some ⟨gs i,os i,none⟩) n (cs i)) i else Value.slice (some ⟨g,o,none⟩) n c0)=cellsOf ((j+1) * 1) (fun i=>Value.slice (some ⟨if i=j then g else gs i,if i=j then o else os i,none⟩) n (if i=j then c0 else cs i)):=cellsOf_congr (fun i hi=>by
   by_cases e:i=j
   ·rw [if_neg (by omega),if_pos e,if_pos e,if_pos e]
   ·rw [if_pos (by omega),if_neg e,if_neg e,if_neg e])
  rw [e] at hr
  exact hr
 ·split
  ·exact hc
  ·exact h.cap i (by omega)
 ·split
  ·exact hgl
  ·exact h.log i (by omega)
 ·split
  ·omega
  ·have:=h.gw i (by omega);omega
 ·split
  ·exact (keep g hgw hgu).2
  ·exact (keep _ (h.gw i (by omega)) (h.gu i (by omega))).2
 ·by_cases e:i=j
  ·simp only [if_pos e]
   rw [(keep g hgw hgu).1,e]
   exact (hat k hk).1
  ·simp only [if_neg e]
   rw [(keep _ (h.gw i (by omega)) (h.gu i (by omega))).1]
   exact h.at_ i k (by omega) hk
 ·by_cases e:i=j
  ·simp only [if_pos e]
   rw [keepF g hgw hgu]
   exact (hat k hk).2
  ·simp only [if_neg e]
   rw [keepF _ (h.gw i (by omega)) (h.gu i (by omega))]
   exact h.fz i k (by omega) hk
 ·by_cases e:i=j
  ·rw [if_pos e,if_neg (by omega)]
   exact fun h2=>hgd k (by omega) h2.symm
  ·rw [if_neg e]
   by_cases e2:k=j
   ·rw [if_pos e2];exact hgd i (by omega)
   ·rw [if_neg e2];exact h.dis i k (by omega) (by omega) hne
end Go.Proofs.YtechbeegbhlppaaGreatDoor
