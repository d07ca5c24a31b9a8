/- Texts merged (a claim holds at most sixty files): Lib, Vx, Math, Nf, Nm, In, Pa. -/
import Derived.WalkKit
import Derived.WalkSpells
import Derived.WalkLawsBesides
import Derived.Deep.LoopGhost
import Derived.BigQuiet
import Derived.Lib.Hide
namespace Go.Proofs.YtechbeegbhlppaaGreatDoor
set_option linter.unusedVariables false
set_option linter.unusedSimpArgs false
open Go.RowKit
def Ext (w w' : World):Prop:=Below w.heap.size w w'
theorem Ext.refl (w:World):Ext w w:=Below.refl _ _
theorem Ext.size {w w' : World} (h:Ext w w'):w.heap.size ≤ w'.heap.size:=Below.size h
theorem Ext.trans {a b c:World} (h:Ext a b) (k:Ext b c):Ext a c:=Below.trans h (Below.mono k h.size)
theorem Ext.alloc {a w:World} (h:Ext a w) (o:Obj):Ext a (w.alloc o):=Below.alloc h h.size o
theorem Ext.drew {a w:World} (h:Ext a w):Ext a w.drew:=Below.drew h
theorem Ext.drewN {a w:World} (h:Ext a w) (n:Nat):Ext a (w.drewN n):=⟨h.os,h.tape,h.output,h.size,h.block⟩
theorem Ext.setCell {a w:World} (h:Ext a w) {p:Addr} (hp:a.heap.size ≤ p.block) (u:Value):Ext a (w.setCell p u):=Below.setCell h hp u
theorem exts {a b:World} (h:Ext a b:=by repeat (first | exact Ext.refl _ | assumption | refine Ext.alloc ?_ _ | refine Ext.drew ?_ | refine Ext.drewN ?_ _ | refine Ext.setCell ?_ (by first | (simp;done) | (simp;omega) | omega) _ | refine Ext.trans ?_ (by assumption))):Ext a b:=h
theorem qh {p:Prop} (h:p):RowKit.Hid p:=Lib.hid h
theorem Ext.cell {w w' : World} (h:Ext w w') {p:Addr} (hp:p.block < w.heap.size):w'.cell? p=w.cell? p:=Below.cell h hp
theorem Ext.frozen {w w' : World} (h:Ext w w') {p:Addr} (hp:p.block < w.heap.size):w'.frozen? p=w.frozen? p:=Below.frozen h hp
theorem Ext.and_cell {w w' : World} {g i:Nat} {c:Value} {r:Prop} (hg:g < w.heap.size) (hc:w.cell? ⟨g,i,none⟩=some c) (hx:Ext w w') (hr:r):w'.cell? ⟨g,i,none⟩=some c∧r :=
 ⟨(hx.cell (p:=⟨g,i,none⟩) hg).trans hc,hr⟩
noncomputable def onto (w x:World):World:=@ite _ (Ext w x) (Classical.propDecidable _) x w
theorem onto_ext (w x:World):Ext w (onto w x):=by
 unfold onto
 by_cases h:Ext w x
 ·rw [if_pos h];exact h
 ·rw [if_neg h];exact Ext.refl _
theorem onto_of {w x:World} (h:Ext w x):∃ y,x=onto w y:=⟨x,by unfold onto;rw [if_pos h]⟩
theorem cell_onto {w x:World} {a:Addr} (h:a.block < w.heap.size):(onto w x).cell? a=w.cell? a:=(onto_ext w x).cell h
theorem wp_region_onto {P:Program} {id:Nat} {Q:Exit → Act → World → Prop} {a:Act} {w:World} {l:List Oper} (hm:P.follows .mixedOrders=true) (hB:Region.lexB .any l.toArray=true)
  (h:wpQuiet P l.toArray (fun w' => ∃ x,w' = onto w x) (fun a' => ∀ w', (∃ x,w' = onto w x) → Q .normal a' w') l a):(Code.region id l.toArray true).wp P Q a w :=
 wp_region_quiet (C:=fun w' => ∃ x,w' = onto w x) hm hB (onto_of ((Ext.refl w).drew)) (by simpa using h)
theorem onto_end {P:Program} {ops:Array Oper} {C:World → Prop} {Q:Exit → Act → World → Prop} {a:Act} {w:World} (h:∀ w1,Ext w w1 → Q .normal a w1) :
  wpQuiet P ops C (fun a' => ∀ w', (∃ x,w' = onto w x) → Q .normal a' w') [] a:=by
 refine wpQuiet_nil ?_
 rintro _ ⟨x,rfl⟩
 exact h _ (onto_ext w x)
theorem onto_call {P:Program} {f:FuncId} {args:Array Value} {w x:World} {v:Value}
  (h:Calls P f args (onto w x) fun e w' => e=.returned v∧Ext (onto w x) w'):Calls P f args (onto w x) fun e w'' => e=.returned v∧∃ y,w'' = onto w y :=
 h.mono fun _ _ ⟨he,hm⟩=>⟨he,onto_of ((onto_ext w x).trans hm)⟩
def RetS (v:Value) (w:World) (e:Ending) (w' : World):Prop:=e=.returned v∧w=w'
def RetX (v:Value) (w:World) (e:Ending) (w' : World):Prop:=e=.returned v∧Ext w w'
theorem onto_callS {P:Program} {f:FuncId} {args:Array Value} {w x:World} {v:Value}
  (h:Calls P f args (onto w x) (RetS v (onto w x))):Calls P f args (onto w x) fun e w'' => e=.returned v∧∃ y,w'' = onto w y :=
 h.mono fun _ _ ⟨he,hm⟩=>⟨he,x,hm.symm⟩
theorem onto_callX {P:Program} {f:FuncId} {args:Array Value} {w x:World} {v:Value}
  (h:Calls P f args (onto w x) (RetX v (onto w x))):Calls P f args (onto w x) fun e w'' => e=.returned v∧∃ y,w'' = onto w y:=onto_call h
noncomputable def B (p:Prop):Bool:=@decide p (Classical.propDecidable p)
theorem B_iff {p:Prop}:B p=true ↔ p:=by unfold B;simp
theorem B_true {p:Prop} (h:p):B p=true:=B_iff.2 h
theorem B_false {p:Prop} (h:¬p):B p=false:=by
 cases hb:B p with
 | false=>rfl
 | true=>exact absurd (B_iff.1 hb) h
theorem B_not {p:Prop}:B p=false ↔ ¬p:=⟨(fun h hp=>(by rw [B_true hp] at h;cases h)),B_false⟩
theorem B_eq {b:Bool} {p:Prop} (h:b=true ↔ p):b=B p:=by rw [Bool.eq_iff_iff,B_iff];exact h
theorem B_congr {p q:Prop} (h:p ↔ q):B p=B q:=by rw [propext h]
theorem ret_bool {a b:Bool} (h:a=b):Ending.returned (.bool a)=Ending.returned (.bool b):=by rw [h]
theorem ret_int {k:IntKind} {a b:Int} (h:a=b):Ending.returned (.int k a)=Ending.returned (.int k b):=by rw [h]
theorem onto_callXb {P:Program} {f:FuncId} {args:Array Value} {w x:World} {b b' : Bool} (hb:b=b')
  (h:Calls P f args (onto w x) (RetX (.bool b) (onto w x))):Calls P f args (onto w x) fun e w'' => e=.returned (.bool b')∧∃ y,w'' = onto w y:=by
 subst hb;exact onto_call h
def Row (w:World) (lo hi sz:Nat) (v:Value) (n:Nat) (f:Nat → Value):Prop :=
 n ≤ maxLen∧∃ A c,v=.slice A n c∧n ≤ c∧(0 < n → ∃ b off,A=some ⟨b,off,none⟩∧lo ≤ b∧b < hi∧∀ i,i < n * sz → w.cell? ⟨b,off+i,none⟩=some (f i))
theorem Row.ext {w w' : World} {lo hi sz n:Nat} {v:Value} {f:Nat → Value} (h:Row w lo hi sz v n f) (hx:Ext w w') (hh:hi ≤ w.heap.size):Row w' lo hi sz v n f:=by
 obtain ⟨hm,A,c,hv,hc,hr⟩:=h
 refine ⟨hm,A,c,hv,hc,fun hn=>?_⟩
 obtain ⟨b,off,hA,h1,h2,h3⟩:=hr hn
 exact ⟨b,off,hA,h1,h2,fun i hi=>(hx.cell (p:=⟨b,off+i,none⟩) (by show b < _;omega)).trans (h3 i hi)⟩
theorem Row.mono {w:World} {lo hi lo' hi' sz n:Nat} {v:Value} {f:Nat → Value} (h:Row w lo hi sz v n f) (h1:lo' ≤ lo) (h2:hi ≤ hi'):Row w lo' hi' sz v n f:=by
 obtain ⟨hm,A,c,hv,hc,hr⟩:=h
 refine ⟨hm,A,c,hv,hc,fun hn=>?_⟩
 obtain ⟨b,off,hA,h3,h4,h5⟩:=hr hn
 exact ⟨b,off,hA,by omega,by omega,h5⟩
def Own (w:World) (b sz:Nat) (v:Value) (n:Nat) (f:Nat → Value):Prop :=
 n ≤ maxLen∧∃ A c,v=.slice A n c∧n ≤ c∧(0 < n → b < w.heap.size∧∃ off,A=some ⟨b,off,none⟩∧∀ i,i < n * sz → w.cell? ⟨b,off+i,none⟩=some (f i)∧w.frozen? ⟨b,off+i,none⟩=false)
theorem Own.row {w:World} {b lo hi sz n:Nat} {v:Value} {f:Nat → Value} (h:Own w b sz v n f) (h1:0 < n → lo ≤ b∧b < hi):Row w lo hi sz v n f:=by
 obtain ⟨hm,A,c,hv,hc,hr⟩:=h
 refine ⟨hm,A,c,hv,hc,fun hn=>?_⟩
 obtain ⟨h2,off,hA,h3⟩:=hr hn
 exact ⟨b,off,hA,(h1 hn).1,(h1 hn).2,fun i hi=>(h3 i hi).1⟩
def Boxed (w:World) (g:Nat) (cs:List Value):Prop:=g < w.heap.size∧∀ i u,cs[i]? = some u → w.cell? ⟨g,i,none⟩=some u∧w.frozen? ⟨g,i,none⟩=false
theorem Boxed.ext {w w' : World} {g:Nat} {cs:List Value} (h:Boxed w g cs) (hx:Ext w w'):Boxed w' g cs :=
 ⟨Nat.lt_of_lt_of_le h.1 hx.size,fun i u hu=>⟨(hx.cell (p:=⟨g,i,none⟩) h.1).trans (h.2 i u hu).1,(hx.frozen (p:=⟨g,i,none⟩) h.1).trans (h.2 i u hu).2⟩⟩
theorem Boxed.new (w:World) (cs:List Value) (T:TypeId):Boxed (w.alloc (.cells cs.toArray T)) w.heap.size cs:=by
 have hh:(w.alloc (.cells cs.toArray T)).heap[w.heap.size]? = some (.cells cs.toArray T):=by
  show (w.heap.push _)[w.heap.size]? = _
  simp
 refine ⟨by simp,fun i u hu=>⟨?_,?_⟩⟩
 ·unfold World.cell?
  rw [hh]
  simpa using hu
 ·unfold World.frozen?
  rw [hh]
  simp
theorem Boxed.at0 {w:World} {g:Nat} {a:Value} {cs:List Value} (h:Boxed w g (a :: cs)):w.cell? ⟨g,0,none⟩=some a:=(h.2 0 a rfl).1
theorem Boxed.at1 {w:World} {g:Nat} {a b:Value} {cs:List Value} (h:Boxed w g (a :: b :: cs)):w.cell? ⟨g,1,none⟩=some b:=(h.2 1 b rfl).1
theorem Boxed.at2 {w:World} {g:Nat} {a b c:Value} {cs:List Value} (h:Boxed w g (a :: b :: c :: cs)):w.cell? ⟨g,2,none⟩=some c:=(h.2 2 c rfl).1
theorem Boxed.at3 {w:World} {g:Nat} {a b c d:Value} {cs:List Value} (h:Boxed w g (a :: b :: c :: d :: cs)):w.cell? ⟨g,3,none⟩=some d:=(h.2 3 d rfl).1
theorem Boxed.fz {w:World} {g:Nat} {cs:List Value} (h:Boxed w g cs) (i:Nat) (hi:i < cs.length):w.frozen? ⟨g,i,none⟩=false:=(h.2 i _ (List.getElem?_eq_getElem hi)).2
theorem Boxed.set {w:World} {g:Nat} {cs:List Value} (h:Boxed w g cs) (j:Nat) (x:Value) (hj:j < cs.length):Boxed (w.setCell ⟨g,j,none⟩ x) g (cs.set j x):=by
 refine ⟨by simpa [World.setCell] using h.1,fun i u hu=>⟨?_,?_⟩⟩
 ·by_cases e:j=i
  ·subst e
   rw [List.getElem?_set_self hj] at hu
   injection hu with hu
   subst hu
   exact World.cell?_setCell_same w ⟨g,j,none⟩ x (h.2 j _ (List.getElem?_eq_getElem hj)).1
  ·rw [List.getElem?_set_ne e] at hu
   exact (World.cell?_setCell_other w ⟨g,j,none⟩ ⟨g,i,none⟩ x (fun hh=>e (by injection hh))).trans (h.2 i u hu).1
 ·have hi:i < cs.length:=by
   have:=(List.getElem?_eq_some_iff.1 hu).1
   simpa using this
  exact (World.frozen?_setCell w ⟨g,j,none⟩ ⟨g,i,none⟩ x).trans (h.fz i hi)
theorem Boxed.setOther {w:World} {g:Nat} {cs:List Value} (h:Boxed w g cs) {p:Addr} (hp:g ≠ p.block) (u:Value):Boxed (w.setCell p u) g cs:=by
 have hb:=Below.heap_setCell w p u g hp
 exact ⟨by simpa [World.setCell] using h.1,fun i x hx=>⟨(World.cell?_of_block (w:=w) (a:=⟨g,i,none⟩) hb).trans (h.2 i x hx).1,(World.frozen?_of_block (w:=w) (a:=⟨g,i,none⟩) hb).trans (h.2 i x hx).2⟩⟩
def Blk (w:World) (g N:Nat) (f:Nat → Value):Prop:=g < w.heap.size∧∀ i,i < N → w.cell? ⟨g,i,none⟩=some (f i)∧w.frozen? ⟨g,i,none⟩=false
theorem Blk.ext {w w' : World} {g N:Nat} {f:Nat → Value} (h:Blk w g N f) (hx:Ext w w'):Blk w' g N f :=
 ⟨Nat.lt_of_lt_of_le h.1 hx.size,fun i hi=>⟨(hx.cell (p:=⟨g,i,none⟩) h.1).trans (h.2 i hi).1,(hx.frozen (p:=⟨g,i,none⟩) h.1).trans (h.2 i hi).2⟩⟩
theorem Blk.set {w:World} {g N:Nat} {f:Nat → Value} (h:Blk w g N f) (j:Nat) (u:Value) (hj:j < N):Blk (w.setCell ⟨g,j,none⟩ u) g N (fun i=>if i=j then u else f i):=by
 refine ⟨by simpa [World.setCell] using h.1,fun i hi=>⟨?_,?_⟩⟩
 ·by_cases e:i=j
  ·subst e
   simp only [if_true]
   exact World.cell?_setCell_same w ⟨g,i,none⟩ u (h.2 i hi).1
  ·show _=some (if i=j then u else f i)
   rw [if_neg e]
   exact (World.cell?_setCell_other w ⟨g,j,none⟩ ⟨g,i,none⟩ u (fun hh=>e (by injection hh with _ h2;exact h2.symm))).trans (h.2 i hi).1
 ·exact (World.frozen?_setCell w ⟨g,j,none⟩ ⟨g,i,none⟩ u).trans (h.2 i hi).2
theorem Blk.setOther {w:World} {g N:Nat} {f:Nat → Value} (h:Blk w g N f) {p:Addr} (hp:g ≠ p.block) (u:Value):Blk (w.setCell p u) g N f:=by
 have hb:=Below.heap_setCell w p u g hp
 refine ⟨by simpa [World.setCell] using h.1,fun i hi=>⟨?_,?_⟩⟩
 ·exact (World.cell?_of_block (w:=w) (a:=⟨g,i,none⟩) hb).trans (h.2 i hi).1
 ·exact (World.frozen?_of_block (w:=w) (a:=⟨g,i,none⟩) hb).trans (h.2 i hi).2
theorem Blk.own {w:World} {g N n sz c:Nat} {f f' : Nat → Value} (h:Blk w g N f) (hN:n * sz ≤ N) (hn:n ≤ maxLen) (hc:n ≤ c) (hf:∀ i,i < n * sz → f i=f' i) :
  Own w g sz (.slice (some ⟨g,0,none⟩) n c) n f' :=
 ⟨hn,_,_,rfl,hc,fun _=>⟨h.1,0,rfl,fun i hi=>by rw [Nat.zero_add,← hf i hi];exact h.2 i (by omega)⟩⟩
theorem wpList_make_blk {P:Program} (w:World) {ops:Array Oper} {rest:List Oper} {o:Oper} {a:Act} {Q:Exit → Act → World → Prop}
  (hg:o.guard=none) (l c:Operand) (t:TypeId) (hop:o.op=Op.makeSlice t l c) (e:TypeId) (size bytes:Nat) (h1:P.underlying t=some (.slice e))
  (h2:(P.info? e).map (fun i=>(i.zero.isSome,i.size,i.bytes))=some (true,size,bytes)) (n:Nat) (hl:a.eval l=.int .i64 n) (hc:a.eval c=.int .i64 n)
  (hb:bytes * n ≤ 281474976710656) (hn:n ≤ maxLen)
  (hK:∀ w' f,Ext w w' → Blk w' w.heap.size (n * size) f → wpList P ops Q rest (a.put o.dst (.slice (some ⟨w.heap.size,0,none⟩) n n)) w'):wpList P ops Q (o :: rest) a w:=by
 obtain ⟨i,hi,hzz⟩:=Option.map_eq_some_iff.1 h2
 simp only [Prod.mk.injEq] at hzz
 obtain ⟨z1,z2,z3⟩:=hzz
 obtain ⟨z,hz⟩:=Option.isSome_iff_exists.1 z1
 have hb' : (i.bytes:Int) * (n:Int) ≤ 281474976710656:=by
  have h:((i.bytes * n:Nat):Int) ≤ 281474976710656:=by rw [z3];omega
  rwa [Int.natCast_mul] at h
 have hn' : (n:Int) ≤ 9223372036854775807:=by unfold maxLen at hn;omega
 have hr:=run_make (P:=P) w t e i z h1 hi hz .i64 .i64 n n (by omega) (by omega) hb' hn'
 simp only [Int.toNat_natCast] at hr
 refine wpList_plain hg fun K hK' => ?_
 unfold Oper.wp
 simp [execOp,hop,hl,hc,hr,Result.andThen]
 have hh:(w.alloc (.cells (madeCells z.cells (n * i.size)) e)).heap[w.heap.size]? = some (.cells (madeCells z.cells (n * i.size)) e):=by
  show (w.heap.push _)[w.heap.size]? = _
  simp
 refine hK' _ _ (hK _ (fun j=>(madeCells z.cells (n * i.size))[j]!) ((Ext.refl w).alloc _) ⟨by simp,fun j hj=>⟨?_,?_⟩⟩)
 ·unfold World.cell?
  rw [hh]
  have hs:j < (madeCells z.cells (n * i.size)).size:=by rw [size_madeCells,z2];exact hj
  simp [hs]
 ·unfold World.frozen?
  rw [hh]
  simp
theorem Own.of_row {w:World} {base n sz:Nat} {e:TypeId} {v:Value} {xs:List Value} {f:Nat → Value} (h:w.ownsRow base e sz v n xs) (hf:∀ i,i < n * sz → xs[i]? = some (f i)) :
  ∃ g,(0 < n → base ≤ g)∧Own w g sz v n f:=by
 obtain ⟨hlen,hv⟩:=h
 rcases hv with ⟨rfl,rfl⟩ | ⟨g,cap,cur,rfl,hb,hh,hnc,hcm,hcs,ht⟩
 ·exact ⟨base,fun hn=>absurd hn (by omega),Nat.zero_le _,none,0,rfl,Nat.le_refl _,fun hn=>absurd hn (by omega)⟩
 ·have hlt:g < w.heap.size:=by
   rcases Nat.lt_or_ge g w.heap.size with hlt | hge
   ·exact hlt
   ·rw [Array.getElem?_eq_none hge] at hh;cases hh
  refine ⟨g,fun _=>hb,by omega,_,cap,rfl,hnc,fun hn=>⟨hlt,0,rfl,fun i hi=>⟨?_,?_⟩⟩⟩
  ·have h2:=hf i hi
   rw [← ht,List.getElem?_take_of_lt hi] at h2
   unfold World.cell?
   rw [hh]
   simpa using h2
  ·unfold World.frozen?
   rw [hh]
   simp
theorem row_ext {w w' : World} {base sz n:Nat} {e:TypeId} {v:Value} {xs:List Value} (h:w.ownsRow base e sz v n xs) (hx:Ext w w'):w'.ownsRow base e sz v n xs:=by
 obtain ⟨h1,h2⟩:=h
 refine ⟨h1,?_⟩
 rcases h2 with h2 | ⟨g,cap,cur,hv,hg,hh,r⟩
 ·exact .inl h2
 ·have hlt:g < w.heap.size:=by
   rcases Nat.lt_or_ge g w.heap.size with hlt | hge
   ·exact hlt
   ·rw [Array.getElem?_eq_none hge] at hh;cases hh
  exact .inr ⟨g,cap,cur,hv,hg,(hx.block g hlt).trans hh,r⟩
theorem nil_row (w:World) (base:Nat) (e:TypeId) (sz:Nat):w.ownsRow base e sz (.slice none 0 0) 0 []:=World.ownsRow_nil w base e sz
structure Sp where
 fr:Int
 to:Int
structure Lk where
 be:Int
 af:Int
 le:Int
 mo:Int
structure Net where
 sets:List (List Sp)
 links:List Lk
def spAt (l:List Sp) (i:Nat):Sp:=l.getD i ⟨0,0⟩
def lkAt (l:List Lk) (i:Nat):Lk:=l.getD i ⟨0,0,0,0⟩
def setAt (l:List (List Sp)) (i:Nat):List Sp:=l.getD i []
def inAt (l:List Int) (i:Nat):Int:=l.getD i 0
def spanCell (l:List Sp) (i:Nat):Value:=if i % 2=0 then .int .i64 (spAt l (i / 2)).fr else .int .i64 (spAt l (i / 2)).to
def linkCell (l:List Lk) (i:Nat):Value :=
 if i % 4=0 then .int .i64 (lkAt l (i / 4)).be else if i % 4=1 then .int .i64 (lkAt l (i / 4)).af else if i % 4=2 then .int .i64 (lkAt l (i / 4)).le else .int .i64 (lkAt l (i / 4)).mo
def intCell (l:List Int) (i:Nat):Value:=.int .i64 (inAt l i)
def Spans (w:World) (lo hi:Nat) (v:Value) (l:List Sp):Prop:=Row w lo hi 2 v l.length (spanCell l)
def Links (w:World) (lo hi:Nat) (v:Value) (l:List Lk):Prop:=Row w lo hi 4 v l.length (linkCell l)
def Ints (w:World) (lo hi:Nat) (v:Value) (l:List Int):Prop:=Row w lo hi 1 v l.length (intCell l)
def Sets (w:World) (lo hi:Nat) (v:Value) (l:List (List Sp)):Prop :=
 ∃ f:Nat → Value,Row w lo hi 1 v l.length f∧∀ i,i < l.length → Spans w lo hi (f i) (setAt l i)
section
variable {w w' : World} {lo hi lo' hi' : Nat} {v:Value}
theorem Spans.ext {l:List Sp} (h:Spans w lo hi v l) (hx:Ext w w') (hh:hi ≤ w.heap.size):Spans w' lo hi v l:=Row.ext h hx hh
theorem Links.ext {l:List Lk} (h:Links w lo hi v l) (hx:Ext w w') (hh:hi ≤ w.heap.size):Links w' lo hi v l:=Row.ext h hx hh
theorem Ints.ext {l:List Int} (h:Ints w lo hi v l) (hx:Ext w w') (hh:hi ≤ w.heap.size):Ints w' lo hi v l:=Row.ext h hx hh
theorem Sets.ext {l:List (List Sp)} (h:Sets w lo hi v l) (hx:Ext w w') (hh:hi ≤ w.heap.size):Sets w' lo hi v l:=by
 obtain ⟨f,h1,h2⟩:=h
 exact ⟨f,h1.ext hx hh,fun i hi=>(h2 i hi).ext hx hh⟩
theorem Spans.mono {l:List Sp} (h:Spans w lo hi v l) (h1:lo' ≤ lo) (h2:hi ≤ hi'):Spans w lo' hi' v l:=Row.mono h h1 h2
theorem Links.mono {l:List Lk} (h:Links w lo hi v l) (h1:lo' ≤ lo) (h2:hi ≤ hi'):Links w lo' hi' v l:=Row.mono h h1 h2
theorem Ints.mono {l:List Int} (h:Ints w lo hi v l) (h1:lo' ≤ lo) (h2:hi ≤ hi'):Ints w lo' hi' v l:=Row.mono h h1 h2
theorem Sets.mono {l:List (List Sp)} (h:Sets w lo hi v l) (h1:lo' ≤ lo) (h2:hi ≤ hi'):Sets w lo' hi' v l:=by
 obtain ⟨f,h3,h4⟩:=h
 exact ⟨f,h3.mono h1 h2,fun i hi=>(h4 i hi).mono h1 h2⟩
theorem Spans.up {l:List Sp} (h:Spans w 0 w.heap.size v l) (hx:Ext w w'):Spans w' 0 w'.heap.size v l:=(h.ext hx (Nat.le_refl _)).mono (Nat.le_refl _) hx.size
theorem Links.up {l:List Lk} (h:Links w 0 w.heap.size v l) (hx:Ext w w'):Links w' 0 w'.heap.size v l:=(h.ext hx (Nat.le_refl _)).mono (Nat.le_refl _) hx.size
theorem Ints.up {l:List Int} (h:Ints w 0 w.heap.size v l) (hx:Ext w w'):Ints w' 0 w'.heap.size v l:=(h.ext hx (Nat.le_refl _)).mono (Nat.le_refl _) hx.size
theorem Sets.up {l:List (List Sp)} (h:Sets w 0 w.heap.size v l) (hx:Ext w w'):Sets w' 0 w'.heap.size v l:=(h.ext hx (Nat.le_refl _)).mono (Nat.le_refl _) hx.size
def NetIn (w:World) (s k:Value) (n:Net):Prop:=Sets w 0 w.heap.size s n.sets∧Links w 0 w.heap.size k n.links
theorem NetIn.up {s k:Value} {n:Net} (h:NetIn w s k n) (hx:Ext w w'):NetIn w' s k n:=⟨h.1.up hx,h.2.up hx⟩
theorem Spans.len {l:List Sp} (h:Spans w lo hi v l):∃ A c,v=.slice A l.length c∧l.length ≤ 9223372036854775807∧l.length ≤ c:=by
 obtain ⟨hn,A,c,e,hc,_⟩:=h
 exact ⟨A,c,e,by unfold maxLen at hn;omega,hc⟩
theorem Links.len {l:List Lk} (h:Links w lo hi v l):∃ A c,v=.slice A l.length c∧l.length ≤ 9223372036854775807∧l.length ≤ c:=by
 obtain ⟨hn,A,c,e,hc,_⟩:=h
 exact ⟨A,c,e,by unfold maxLen at hn;omega,hc⟩
theorem Ints.len {l:List Int} (h:Ints w lo hi v l):∃ A c,v=.slice A l.length c∧l.length ≤ 9223372036854775807∧l.length ≤ c:=by
 obtain ⟨hn,A,c,e,hc,_⟩:=h
 exact ⟨A,c,e,by unfold maxLen at hn;omega,hc⟩
theorem Sets.len {l:List (List Sp)} (h:Sets w lo hi v l):∃ A c,v=.slice A l.length c∧l.length ≤ 9223372036854775807∧l.length ≤ c:=by
 obtain ⟨_,⟨hn,A,c,e,hc,_⟩,_⟩:=h
 exact ⟨A,c,e,by unfold maxLen at hn;omega,hc⟩
theorem Spans.at_ {A:Option Addr} {c:Nat} {l:List Sp} {m i:Nat} (h:Spans w lo hi (.slice A m c) l) (hi' : i < l.length) :
  ∃ b off,A=some ⟨b,off,none⟩∧lo ≤ b∧b < hi∧w.cell? ⟨b,off+i * 2,none⟩=some (.int .i64 (spAt l i).fr)∧w.cell? ⟨b,off+i * 2+1,none⟩=some (.int .i64 (spAt l i).to):=by
 obtain ⟨hn,A', c', e,hc,hr⟩:=h
 injection e with e1 e2 e3
 obtain ⟨b,off,hA,h1,h2,h3⟩:=hr (by omega)
 refine ⟨b,off,by rw [e1,hA],h1,h2,?_,?_⟩
 ·rw [h3 (i * 2) (by omega)];unfold spanCell;rw [if_pos (by omega),show i * 2 / 2=i from by omega]
 ·rw [Nat.add_assoc,h3 (i * 2+1) (by omega)];unfold spanCell;rw [if_neg (by omega),show (i * 2+1) / 2=i from by omega]
theorem Links.at_ {A:Option Addr} {c:Nat} {l:List Lk} {m i:Nat} (h:Links w lo hi (.slice A m c) l) (hi' : i < l.length) :
  ∃ b off,A=some ⟨b,off,none⟩∧lo ≤ b∧b < hi∧w.cell? ⟨b,off+i * 4,none⟩=some (.int .i64 (lkAt l i).be)∧w.cell? ⟨b,off+i * 4+1,none⟩=some (.int .i64 (lkAt l i).af) ∧
   w.cell? ⟨b,off+i * 4+2,none⟩=some (.int .i64 (lkAt l i).le)∧w.cell? ⟨b,off+i * 4+3,none⟩=some (.int .i64 (lkAt l i).mo):=by
 obtain ⟨hn,A', c', e,hc,hr⟩:=h
 injection e with e1 e2 e3
 obtain ⟨b,off,hA,h1,h2,h3⟩:=hr (by omega)
 refine ⟨b,off,by rw [e1,hA],h1,h2,?_,?_,?_,?_⟩
 ·rw [h3 (i * 4) (by omega)];unfold linkCell;rw [if_pos (by omega),show i * 4 / 4=i from by omega]
 ·rw [Nat.add_assoc,h3 (i * 4+1) (by omega)];unfold linkCell;rw [if_neg (by omega),if_pos (by omega),show (i * 4+1) / 4=i from by omega]
 ·rw [Nat.add_assoc,h3 (i * 4+2) (by omega)];unfold linkCell;rw [if_neg (by omega),if_neg (by omega),if_pos (by omega),show (i * 4+2) / 4=i from by omega]
 ·rw [Nat.add_assoc,h3 (i * 4+3) (by omega)];unfold linkCell;rw [if_neg (by omega),if_neg (by omega),if_neg (by omega),show (i * 4+3) / 4=i from by omega]
theorem Ints.at_ {A:Option Addr} {c:Nat} {l:List Int} {m i:Nat} (h:Ints w lo hi (.slice A m c) l) (hi' : i < l.length) :
  ∃ b off,A=some ⟨b,off,none⟩∧lo ≤ b∧b < hi∧w.cell? ⟨b,off+i,none⟩=some (.int .i64 (inAt l i)):=by
 obtain ⟨hn,A', c', e,hc,hr⟩:=h
 injection e with e1 e2 e3
 obtain ⟨b,off,hA,h1,h2,h3⟩:=hr (by omega)
 exact ⟨b,off,by rw [e1,hA],h1,h2,h3 i (by omega)⟩
theorem Sets.at_ {A:Option Addr} {c:Nat} {l:List (List Sp)} {m i:Nat} (h:Sets w lo hi (.slice A m c) l) (hi' : i < l.length) :
  ∃ b off u,A=some ⟨b,off,none⟩∧lo ≤ b∧b < hi∧w.cell? ⟨b,off+i,none⟩=some u∧Spans w lo hi u (setAt l i):=by
 obtain ⟨f,⟨hn,A', c', e,hc,hr⟩,hf⟩:=h
 injection e with e1 e2 e3
 obtain ⟨b,off,hA,h1,h2,h3⟩:=hr (by omega)
 exact ⟨b,off,f i,by rw [e1,hA],h1,h2,h3 i (by omega),hf i hi'⟩
end
theorem Own.lt {w:World} {b sz n:Nat} {v:Value} {f:Nat → Value} (h:Own w b sz v n f) (hn:0 < n):b < w.heap.size:=by
 obtain ⟨_,A,c,_,_,hr⟩:=h
 exact (hr hn).1
theorem Own.any {w:World} {b sz n:Nat} {v:Value} {f:Nat → Value} (h:Own w b sz v n f) (hn:¬ 0 < n) (b' : Nat):Own w b' sz v n f:=by
 obtain ⟨hm,A,c,e,hc,_⟩:=h
 exact ⟨hm,A,c,e,hc,fun h0=>absurd h0 hn⟩
theorem Own.ext {w w' : World} {b sz n:Nat} {v:Value} {f:Nat → Value} (h:Own w b sz v n f) (hx:Ext w w'):Own w' b sz v n f:=by
 obtain ⟨hm,A,c,hv,hc,hr⟩:=h
 refine ⟨hm,A,c,hv,hc,fun hn=>?_⟩
 obtain ⟨hb,off,hA,h3⟩:=hr hn
 exact ⟨Nat.lt_of_lt_of_le hb hx.size,off,hA,fun i hi=>⟨(hx.cell (p:=⟨b,off+i,none⟩) hb).trans (h3 i hi).1,(hx.frozen (p:=⟨b,off+i,none⟩) hb).trans (h3 i hi).2⟩⟩
theorem Own.setOther {w:World} {b sz n:Nat} {v:Value} {f:Nat → Value} (h:Own w b sz v n f) {p:Addr} (hp:0 < n → b ≠ p.block) (u:Value):Own (w.setCell p u) b sz v n f:=by
 obtain ⟨hm,A,c,hv,hc,hr⟩:=h
 refine ⟨hm,A,c,hv,hc,fun hn=>?_⟩
 obtain ⟨hb,off,hA,h3⟩:=hr hn
 have hbl:=Below.heap_setCell w p u b (hp hn)
 exact ⟨by simpa [World.setCell] using hb,off,hA,fun i hi=>⟨(World.cell?_of_block (w:=w) (a:=⟨b,off+i,none⟩) hbl).trans (h3 i hi).1,(World.frozen?_of_block (w:=w) (a:=⟨b,off+i,none⟩) hbl).trans (h3 i hi).2⟩⟩
def OwnSets (w:World) (lo hi:Nat) (v:Value) (l:List (List Sp)):Prop :=
 ∃ (g0:Nat) (f:Nat → Value) (g:Nat → Nat),Own w g0 1 v l.length f∧(0 < l.length → lo ≤ g0∧g0 < hi) ∧
  (∀ i,i < l.length → Own w (g i) 2 (f i) (setAt l i).length (spanCell (setAt l i))∧(0 < (setAt l i).length → lo ≤ g i∧g i < hi∧g i ≠ g0)) ∧
  (∀ i j,i < l.length → j < l.length → i ≠ j → 0 < (setAt l i).length → 0 < (setAt l j).length → g i ≠ g j)
theorem OwnSets.ext {w w' : World} {lo hi:Nat} {v:Value} {l:List (List Sp)} (h:OwnSets w lo hi v l) (hx:Ext w w'):OwnSets w' lo hi v l:=by
 obtain ⟨g0,f,g,h1,h2,h3,h4⟩:=h
 exact ⟨g0,f,g,h1.ext hx,h2,fun i hi=>⟨(h3 i hi).1.ext hx,(h3 i hi).2⟩,h4⟩
theorem OwnSets.setOther {w:World} {lo hi:Nat} {v:Value} {l:List (List Sp)} (h:OwnSets w lo hi v l) {p:Addr} (hp:p.block < lo ∨ hi ≤ p.block) (u:Value):OwnSets (w.setCell p u) lo hi v l:=by
 obtain ⟨g0,f,g,h1,h2,h3,h4⟩:=h
 exact ⟨g0,f,g,h1.setOther (fun hn=>by have:=h2 hn;omega) u,h2,fun i hi=>⟨(h3 i hi).1.setOther (fun hn=>by have:=(h3 i hi).2 hn;omega) u,(h3 i hi).2⟩,h4⟩
theorem OwnSets.len {w:World} {lo hi:Nat} {v:Value} {l:List (List Sp)} (h:OwnSets w lo hi v l):∃ A c,v=.slice A l.length c:=by
 obtain ⟨g0,f,g,⟨_,A,c,e,_⟩,_⟩:=h
 exact ⟨A,c,e⟩
theorem Own.len {w:World} {b sz n:Nat} {v:Value} {f:Nat → Value} (h:Own w b sz v n f):∃ A c,v=.slice A n c:=by
 obtain ⟨_,A,c,e,_⟩:=h
 exact ⟨A,c,e⟩
theorem OwnSets.sets {w:World} {lo hi:Nat} {v:Value} {l:List (List Sp)} (h:OwnSets w lo hi v l):Sets w lo hi v l:=by
 obtain ⟨g0,f,g,h1,h2,h3,h4⟩:=h
 exact ⟨f,h1.row h2,fun i hi=>(h3 i hi).1.row (fun hn=>⟨((h3 i hi).2 hn).1,((h3 i hi).2 hn).2.1⟩)⟩
structure Off (S:Nat → Prop) (w w' : World):Prop where
 os:w'.os=w.os
 tape:w'.tape=w.tape
 output:w'.output=w.output
 size:w.heap.size ≤ w'.heap.size
 block:∀ k,k < w.heap.size → ¬ S k → w'.heap[k]? = w.heap[k]?
theorem Off.refl (S:Nat → Prop) (w:World):Off S w w:=⟨rfl,rfl,rfl,Nat.le_refl _,fun _ _ _=>rfl⟩
theorem Off.of_ext {S:Nat → Prop} {w w' : World} (h:Ext w w'):Off S w w' := ⟨h.os,h.tape,h.output,h.size,fun k hk _=>h.block k hk⟩
theorem Off.trans {S:Nat → Prop} {a b c:World} (h:Off S a b) (k:Off S b c):Off S a c :=
 ⟨k.os.trans h.os,k.tape.trans h.tape,k.output.trans h.output,Nat.le_trans h.size k.size,fun i hi hs=>(k.block i (Nat.lt_of_lt_of_le hi h.size) hs).trans (h.block i hi hs)⟩
theorem Off.mono {S S' : Nat → Prop} {a b:World} (h:Off S a b) (hs:∀ k,S k → S' k):Off S' a b:=⟨h.os,h.tape,h.output,h.size,fun i hi hn=>h.block i hi (fun hh=>hn (hs i hh))⟩
theorem Off.setCell {S:Nat → Prop} {a w:World} (h:Off S a w) {p:Addr} (hp:S p.block ∨ a.heap.size ≤ p.block) (u:Value):Off S a (w.setCell p u) :=
 ⟨h.os,h.tape,h.output,by simpa [World.setCell] using h.size,fun k hk hs=>(Below.heap_setCell w p u k (fun e=>by subst e;rcases hp with hp | hp;exact hs hp;omega)).trans (h.block k hk hs)⟩
theorem Off.ext {S:Nat → Prop} {w w' : World} (h:Off S w w') (hs:∀ k,¬ S k):Ext w w' := ⟨h.os,h.tape,h.output,h.size,fun k hk=>h.block k hk (hs k)⟩
theorem Off.cell {S:Nat → Prop} {w w' : World} (h:Off S w w') {p:Addr} (hp:p.block < w.heap.size) (hs:¬ S p.block):w'.cell? p=w.cell? p:=World.cell?_of_block (w:=w) (h.block p.block hp hs)
theorem Off.frozen {S:Nat → Prop} {w w' : World} (h:Off S w w') {p:Addr} (hp:p.block < w.heap.size) (hs:¬ S p.block):w'.frozen? p=w.frozen? p:=World.frozen?_of_block (w:=w) (h.block p.block hp hs)
theorem Ext.off {S:Nat → Prop} {a w w' : World} (h:Ext a w) (hx:Off S w w') (hs:∀ k,k < a.heap.size → ¬ S k):Ext a w' :=
 ⟨hx.os.trans h.os,hx.tape.trans h.tape,hx.output.trans h.output,Nat.le_trans h.size hx.size,fun k hk=>(hx.block k (Nat.lt_of_lt_of_le hk h.size) (hs k hk)).trans (h.block k hk)⟩
section
variable {S:Nat → Prop} {w w' : World} {lo hi:Nat} {v:Value}
theorem Row.off {sz n:Nat} {f:Nat → Value} (h:Row w lo hi sz v n f) (hx:Off S w w') (hs:∀ k,lo ≤ k → k < hi → ¬ S k) (hh:hi ≤ w.heap.size):Row w' lo hi sz v n f:=by
 obtain ⟨hm,A,c,hv,hc,hr⟩:=h
 refine ⟨hm,A,c,hv,hc,fun hn=>?_⟩
 obtain ⟨b,off,hA,h1,h2,h3⟩:=hr hn
 exact ⟨b,off,hA,h1,h2,fun i hi=>(hx.cell (p:=⟨b,off+i,none⟩) (by show b < _;omega) (hs b h1 h2)).trans (h3 i hi)⟩
theorem Own.off {b sz n:Nat} {f:Nat → Value} (h:Own w b sz v n f) (hx:Off S w w') (hs:0 < n → ¬ S b):Own w' b sz v n f:=by
 obtain ⟨hm,A,c,hv,hc,hr⟩:=h
 refine ⟨hm,A,c,hv,hc,fun hn=>?_⟩
 obtain ⟨hb,off,hA,h3⟩:=hr hn
 exact ⟨Nat.lt_of_lt_of_le hb hx.size,off,hA,fun i hi=>⟨(hx.cell (p:=⟨b,off+i,none⟩) hb (hs hn)).trans (h3 i hi).1,(hx.frozen (p:=⟨b,off+i,none⟩) hb (hs hn)).trans (h3 i hi).2⟩⟩
theorem Boxed.off {g:Nat} {cs:List Value} (h:Boxed w g cs) (hx:Off S w w') (hs:¬ S g):Boxed w' g cs :=
 ⟨Nat.lt_of_lt_of_le h.1 hx.size,fun i u hu=>⟨(hx.cell (p:=⟨g,i,none⟩) h.1 hs).trans (h.2 i u hu).1,(hx.frozen (p:=⟨g,i,none⟩) h.1 hs).trans (h.2 i u hu).2⟩⟩
theorem Sets.off {l:List (List Sp)} (h:Sets w lo hi v l) (hx:Off S w w') (hs:∀ k,lo ≤ k → k < hi → ¬ S k) (hh:hi ≤ w.heap.size):Sets w' lo hi v l:=by
 obtain ⟨f,h1,h2⟩:=h
 exact ⟨f,h1.off hx hs hh,fun i hi=>Row.off (h2 i hi) hx hs hh⟩
theorem OwnSets.off {l:List (List Sp)} (h:OwnSets w lo hi v l) (hx:Off S w w') (hs:∀ k,lo ≤ k → k < hi → ¬ S k):OwnSets w' lo hi v l:=by
 obtain ⟨g0,f,g,h1,h2,h3,h4⟩:=h
 exact ⟨g0,f,g,h1.off hx (fun hn=>hs _ (h2 hn).1 (h2 hn).2),h2,fun i hi=>⟨(h3 i hi).1.off hx (fun hn=>hs _ ((h3 i hi).2 hn).1 ((h3 i hi).2 hn).2.1),(h3 i hi).2⟩,h4⟩
theorem Own.set {b sz n off c:Nat} {f:Nat → Value} (h:Own w b sz (.slice (some ⟨b,off,none⟩) n c) n f) (j:Nat) (u:Value) (hj:j < n * sz):Own (w.setCell ⟨b,off+j,none⟩ u) b sz (.slice (some ⟨b,off,none⟩) n c) n (fun i=>if i=j then u else f i):=by
 obtain ⟨hm,A,c', hv,hc,hr⟩:=h
 refine ⟨hm,A,c', hv,hc,fun hn=>?_⟩
 obtain ⟨hb,off', hA,h3⟩:=hr hn
 subst hA
 injection hv with e1 e2 e3
 injection e1 with e1
 injection e1 with _ e1
 subst e1
 refine ⟨by simpa [World.setCell] using hb,off,rfl,fun i hi=>⟨?_,?_⟩⟩
 ·by_cases e:i=j
  ·subst e
   simp only [if_true]
   exact World.cell?_setCell_same w ⟨b,off+i,none⟩ u (h3 i hi).1
  ·show _=some (if i=j then u else f i)
   rw [if_neg e]
   exact (World.cell?_setCell_other w ⟨b,off+j,none⟩ ⟨b,off+i,none⟩ u (fun hh=>e (by injection hh with _ h2;omega))).trans (h3 i hi).1
 ·exact (World.frozen?_setCell w ⟨b,off+j,none⟩ ⟨b,off+i,none⟩ u).trans (h3 i hi).2
theorem Own.at_ {b sz n c:Nat} {A:Option Addr} {f:Nat → Value} (h:Own w b sz (.slice A n c) n f) (hn:0 < n):∃ off,A=some ⟨b,off,none⟩∧b < w.heap.size∧∀ i,i < n * sz → w.cell? ⟨b,off+i,none⟩=some (f i)∧w.frozen? ⟨b,off+i,none⟩=false:=by
 obtain ⟨hm,A', c', hv,hc,hr⟩:=h
 obtain ⟨hb,off,hA,h3⟩:=hr hn
 injection hv with e1 e2 e3
 subst e1
 exact ⟨off,hA,hb,h3⟩
theorem Own.congr {b sz n:Nat} {f f' : Nat → Value} (h:Own w b sz v n f) (hf:∀ i,i < n * sz → f i=f' i):Own w b sz v n f' := by
 obtain ⟨hm,A,c,hv,hc,hr⟩:=h
 refine ⟨hm,A,c,hv,hc,fun hn=>?_⟩
 obtain ⟨hb,off,hA,h3⟩:=hr hn
 exact ⟨hb,off,hA,fun i hi=>by rw [← hf i hi];exact h3 i hi⟩
end
def DayOk (n:Int):Prop:=0 ≤ n∧n ≤ 730499
def SpOk (s:Sp):Prop:=DayOk s.fr∧DayOk s.to∧s.fr ≤ s.to
def StepOk (l:List Sp) (i:Nat):Prop:=SpOk (spAt l i)∧(0 < i → (spAt l (i - 1)).to+2 ≤ (spAt l i).fr)
def SetOk (l:List Sp):Prop:=l.length ≤ 300∧∀ i,i < l.length → StepOk l i
def LkOk (l:Lk) (n:Nat):Prop:=(0 ≤ l.be∧l.be ≤ n - 1)∧(0 ≤ l.af∧l.af ≤ n - 1)∧l.be ≠ l.af∧(-730499 ≤ l.le∧l.le ≤ 730499)∧(-730499 ≤ l.mo∧l.mo ≤ 730499)∧l.le ≤ l.mo
def NetOk (n:Net):Prop:=n.sets.length ≤ 8∧n.links.length ≤ 20∧(∀ i,i < n.sets.length → SetOk (setAt n.sets i))∧∀ i,i < n.links.length → LkOk (lkAt n.links i) n.sets.length
noncomputable def dsAdd (p:Int → Prop) (s:List Sp) (n:Int):List Sp :=
 bif B (p n) then (bif B (∃ x,s.getLast? = some x∧x.to=n - 1) then s.set (s.length - 1) ⟨(s.getD (s.length - 1) ⟨0,0⟩).fr,n⟩ else s ++ [⟨n,n⟩]) else s
noncomputable def dsTo (p:Int → Prop) (fr:Int):Nat → List Sp
 | 0=>[]
 | k+1=>dsAdd p (dsTo p fr k) (fr+k)
theorem dsTo_len (p:Int → Prop) (fr:Int):∀ k,(dsTo p fr k).length ≤ k
 | 0=>Nat.le_refl _
 | k+1=>by
  have h:=dsTo_len p fr k
  show (dsAdd p (dsTo p fr k) (fr+k)).length ≤ k+1
  unfold dsAdd
  cases B (p (fr+k)) with
  | false=>show (dsTo p fr k).length ≤ k+1;omega
  | true =>
   cases B (∃ x,(dsTo p fr k).getLast? = some x∧x.to=fr+k - 1) with
   | false=>show (dsTo p fr k ++ [_]).length ≤ k+1;rw [List.length_append];show _+1 ≤ _;omega
   | true=>show (List.set _ _ _).length ≤ k+1;rw [List.length_set];omega
end Go.Proofs.YtechbeegbhlppaaGreatDoor
namespace Go.Proofs.YtechbeegbhlppaaGreatDoor
set_option linter.unusedVariables false
set_option linter.unusedSimpArgs false
open Go.RowKit
def daysTo (l:List Sp):Nat → Int
 | 0=>0
 | k+1=>daysTo l k+((spAt l k).to - (spAt l k).fr+1)
def days (l:List Sp):Int:=daysTo l l.length
def HasDay (l:List Sp) (d:Int):Prop:=∃ i,i < l.length∧(spAt l i).fr ≤ d∧d ≤ (spAt l i).to
def NfL:Int → List Sp → Prop
 | _,[]=>True
 | lo,s :: r=>lo ≤ s.fr∧s.fr ≤ s.to∧NfL (s.to+2) r
def HasL (l:List Sp) (d:Int):Prop:=∃ s,s ∈ l∧s.fr ≤ d∧d ≤ s.to
theorem NfL.mono:∀ {l:List Sp} {a b:Int},NfL a l → b ≤ a → NfL b l
 | [],_,_,_,_=>trivial
 | _ :: _,_,_,h,hb=>⟨by have:=h.1;omega,h.2⟩
theorem NfL.ge:∀ {l:List Sp} {a d:Int},NfL a l → HasL l d → a ≤ d
 | [],_,_,_,⟨_,h,_⟩=>by cases h
 | s :: r,a,d,h,⟨t,ht,h1,h2⟩=>by
  rcases List.mem_cons.1 ht with e | e
  ·subst e;have:=h.1;omega
  ·have:=NfL.ge h.2.2 ⟨t,e,h1,h2⟩
   have:=h.1
   have:=h.2.1
   omega
theorem NfL.eq:∀ {a b:List Sp} {x y:Int},NfL x a → NfL y b → (∀ d,HasL a d ↔ HasL b d) → a=b
 | [],[],_,_,_,_,_=>rfl
 | [],t :: q,_,_,_,hb,h=>by
  obtain ⟨s,hs,_⟩:=(h t.fr).2 ⟨t,by simp,Int.le_refl _,hb.2.1⟩
  cases hs
 | s :: r,[],_,_,ha,_,h=>by
  obtain ⟨t,ht,_⟩:=(h s.fr).1 ⟨s,by simp,Int.le_refl _,ha.2.1⟩
  cases ht
 | s :: r,t :: q,x,y,ha,hb,h=>by
  have case2:∀ {s:Sp} {r:List Sp} {d x:Int},NfL x (s :: r) → HasL (s :: r) d → (s.fr ≤ d∧d ≤ s.to) ∨ (s.to+2 ≤ d∧HasL r d):=by
   intro s r d x hn ⟨u,hu,h1,h2⟩
   rcases List.mem_cons.1 hu with e | e
   ·subst e;exact .inl ⟨h1,h2⟩
   ·exact .inr ⟨NfL.ge hn.2.2 ⟨u,e,h1,h2⟩,u,e,h1,h2⟩
  have a1:=case2 hb ((h s.fr).1 ⟨s,by simp,Int.le_refl _,ha.2.1⟩)
  have a2:=case2 ha ((h t.fr).2 ⟨t,by simp,Int.le_refl _,hb.2.1⟩)
  have b1:=case2 hb ((h s.to).1 ⟨s,by simp,ha.2.1,Int.le_refl _⟩)
  have b2:=case2 ha ((h t.to).2 ⟨t,by simp,hb.2.1,Int.le_refl _⟩)
  have ha' := ha.2.1
  have hb' := hb.2.1
  have hfr:s.fr=t.fr:=by omega
  have hto:s.to=t.to:=by
   rcases Int.lt_trichotomy s.to t.to with e | e | e
   ·have:=case2 ha ((h (s.to+1)).2 ⟨t,by simp,by omega,by omega⟩)
    omega
   ·exact e
   ·have:=case2 hb ((h (t.to+1)).1 ⟨s,by simp,by omega,by omega⟩)
    omega
  have est:s=t:=by cases s;cases t;simp_all
  subst est
  have hrq:r=q:=by
   refine NfL.eq ha.2.2 hb.2.2 (fun d=>⟨fun hd=>?_,fun hd=>?_⟩)
   ·have h1:=NfL.ge ha.2.2 hd
    obtain ⟨u,hu,h2,h3⟩:=hd
    rcases case2 hb ((h d).1 ⟨u,by simp [hu],h2,h3⟩) with h4 | h4
    ·omega
    ·exact h4.2
   ·have h1:=NfL.ge hb.2.2 hd
    obtain ⟨u,hu,h2,h3⟩:=hd
    rcases case2 ha ((h d).2 ⟨u,by simp [hu],h2,h3⟩) with h4 | h4
    ·omega
    ·exact h4.2
  rw [hrq]
def Nf (l:List Sp):Prop:=∀ i,i < l.length → (spAt l i).fr ≤ (spAt l i).to∧(0 < i → (spAt l (i - 1)).to+2 ≤ (spAt l i).fr)
theorem nfL_of:∀ {l:List Sp} {lo:Int},(l ≠ [] → lo ≤ (spAt l 0).fr) → Nf l → NfL lo l
 | [],_,_,_=>trivial
 | s :: r,lo,h0,h=>by
  refine ⟨h0 (by simp),(h 0 (by simp)).1,nfL_of (fun hr=>?_) (fun i hi=>⟨(h (i+1) (by simp;omega)).1,fun hi0=>?_⟩)⟩
  ·have hl:0 < r.length:=by
    cases r with
    | nil=>exact absurd rfl hr
    | cons _ _=>simp
   exact (h 1 (by simp;omega)).2 (by omega)
  ·have:=(h (i+1) (by simp;omega)).2 (by omega)
   have e:i+1 - 1=(i - 1)+1:=by omega
   rw [e] at this
   exact this
theorem hasL_iff {l:List Sp} {d:Int}:HasL l d ↔ HasDay l d:=by
 constructor
 ·rintro ⟨s,hs,h1,h2⟩
  obtain ⟨i,hi,e⟩:=List.getElem_of_mem hs
  have e2:spAt l i=s:=by
   unfold spAt
   rw [List.getD_eq_getElem?_getD,List.getElem?_eq_getElem hi]
   exact e
  exact ⟨i,hi,by rw [e2];exact h1,by rw [e2];exact h2⟩
 ·rintro ⟨i,hi,h1,h2⟩
  refine ⟨spAt l i,?_,h1,h2⟩
  unfold spAt
  rw [List.getD_eq_getElem?_getD,List.getElem?_eq_getElem hi]
  exact List.getElem_mem hi
theorem Nf.eq {a b:List Sp} (ha:Nf a) (hb:Nf b) (h:∀ d,HasDay a d ↔ HasDay b d):a=b :=
 NfL.eq (x:=(spAt a 0).fr) (y:=(spAt b 0).fr) (nfL_of (fun _=>Int.le_refl _) ha) (nfL_of (fun _=>Int.le_refl _) hb) (fun d=>by rw [hasL_iff,hasL_iff];exact h d)
theorem SetOk.nf {l:List Sp} (h:SetOk l):Nf l:=fun i hi=>⟨(h.2 i hi).1.2.2,(h.2 i hi).2⟩
theorem spAt_app {l:List Sp} {x:Sp} {i:Nat} (hi:i < l.length+1):spAt (l ++ [x]) i=if i=l.length then x else spAt l i:=by
 unfold spAt
 rw [List.getD_eq_getElem?_getD,List.getD_eq_getElem?_getD]
 by_cases h2:i=l.length
 ·subst h2;simp
 ·rw [if_neg h2,List.getElem?_append_left (by omega)]
theorem spAt_set {l:List Sp} {x:Sp} {j i:Nat}:spAt (l.set j x) i=if i=j∧i < l.length then x else spAt l i:=by
 unfold spAt
 rw [List.getD_eq_getElem?_getD,List.getD_eq_getElem?_getD,List.getElem?_set]
 by_cases h:j=i
 ·subst h
  by_cases h2:j < l.length
  ·simp [h2]
  ·simp [h2,List.getElem?_eq_none (Nat.le_of_not_lt h2)]
 ·rw [if_neg h,if_neg (fun hh=>h hh.1.symm)]
def In (s:Sp) (d:Int):Prop:=s.fr ≤ d∧d ≤ s.to
theorem hasDay_app {l:List Sp} {x:Sp} {d:Int}:HasDay (l ++ [x]) d ↔ HasDay l d ∨ In x d:=by
 constructor
 ·rintro ⟨i,hi,h⟩
  have hi' : i < l.length+1:=by simpa using hi
  rw [spAt_app hi'] at h
  by_cases e:i=l.length
  ·rw [if_pos e] at h;exact .inr h
  ·rw [if_neg e] at h;exact .inl ⟨i,by omega,h⟩
 ·rintro (⟨i,hi,h⟩ | h)
  ·refine ⟨i,by simp;omega,?_⟩
   rw [spAt_app (by omega),if_neg (by omega)];exact h
  ·refine ⟨l.length,by simp,?_⟩
   rw [spAt_app (by omega),if_pos rfl];exact h
def joinS (out:List Sp) (s:Sp):List Sp :=
 if out ≠ []∧s.fr ≤ (spAt out (out.length - 1)).to+1 then out.set (out.length - 1) ⟨(spAt out (out.length - 1)).fr,max (spAt out (out.length - 1)).to s.to⟩ else out ++ [s]
def joinTo (l:List Sp):Nat → List Sp
 | 0=>[]
 | j+1=>joinS (joinTo l j) (spAt l j)
def joinL (l:List Sp):List Sp:=joinTo l l.length
theorem joinS_len (out:List Sp) (s:Sp):(joinS out s).length ≤ out.length+1:=by
 unfold joinS
 split
 ·simp
 ·simp
theorem joinTo_len (l:List Sp):∀ j,(joinTo l j).length ≤ j
 | 0=>by simp [joinTo]
 | j+1=>by
  have:=joinTo_len l j
  have:=joinS_len (joinTo l j) (spAt l j)
  show (joinS (joinTo l j) (spAt l j)).length ≤ _
  omega
structure JoinOk (l out:List Sp) (j:Nat):Prop where
 nf:Nf out
 days:∀ d,HasDay out d ↔ ∃ i,i < j∧In (spAt l i) d
 last:out ≠ [] → ∃ i,i < j∧(spAt out (out.length - 1)).fr ≤ (spAt l i).fr
theorem JoinOk.step {l out:List Sp} {j:Nat} (h:JoinOk l out j) (hs:(spAt l j).fr ≤ (spAt l j).to) (ho:∀ i,i < j → (spAt l i).fr ≤ (spAt l j).fr):JoinOk l (joinS out (spAt l j)) (j+1):=by
 obtain ⟨h1,h2,h3⟩:=h
 unfold joinS
 split
 ·rename_i hc
  obtain ⟨hne,hle⟩:=hc
  have hpos:0 < out.length:=List.length_pos_iff.2 hne
  obtain ⟨q,hq,hqf⟩:=h3 hne
  have hqj:=ho q hq
  have hl:=(h1 (out.length - 1) (by omega)).1
  refine ⟨fun i hi=>?_,fun d=>?_,fun _=>⟨q,by omega,?_⟩⟩
  ·have hi' : i < out.length:=by simpa using hi
   have hi1:=h1 i hi'
   rw [spAt_set]
   by_cases e:i=out.length - 1
   ·rw [if_pos ⟨e,hi'⟩]
    subst e
    refine ⟨by show (spAt out (out.length - 1)).fr ≤ max _ _;omega,fun h0=>?_⟩
    rw [spAt_set,if_neg (by omega)]
    exact hi1.2 h0
   ·rw [if_neg (fun hh=>e hh.1)]
    refine ⟨hi1.1,fun h0=>?_⟩
    rw [spAt_set,if_neg (by omega)]
    exact hi1.2 h0
  ·have key:HasDay (out.set (out.length - 1) ⟨(spAt out (out.length - 1)).fr,max (spAt out (out.length - 1)).to (spAt l j).to⟩) d ↔ HasDay out d ∨ In (spAt l j) d:=by
    constructor
    ·rintro ⟨i,hi,hh⟩
     have hi' : i < out.length:=by simpa using hi
     rw [spAt_set] at hh
     by_cases e:i=out.length - 1
     ·rw [if_pos ⟨e,hi'⟩] at hh
      obtain ⟨ha,hb⟩:=hh
      have ha' : (spAt out (out.length - 1)).fr ≤ d:=ha
      have hb' : d ≤ max (spAt out (out.length - 1)).to (spAt l j).to:=hb
      by_cases hd:d ≤ (spAt out (out.length - 1)).to
      ·exact .inl ⟨out.length - 1,by omega,ha', hd⟩
      ·exact .inr ⟨by omega,by omega⟩
     ·rw [if_neg (fun h=>e h.1)] at hh
      exact .inl ⟨i,hi', hh⟩
    ·rintro (⟨i,hi,ha,hb⟩ | ⟨ha,hb⟩)
     ·refine ⟨i,by simpa using hi,?_⟩
      rw [spAt_set]
      by_cases e:i=out.length - 1
      ·rw [if_pos ⟨e,hi⟩];subst e;exact ⟨ha,by show d ≤ max _ _;omega⟩
      ·rw [if_neg (fun h=>e h.1)];exact ⟨ha,hb⟩
     ·refine ⟨out.length - 1,by simp;omega,?_⟩
      rw [spAt_set,if_pos ⟨rfl,by omega⟩]
      exact ⟨by show (spAt out (out.length - 1)).fr ≤ d;omega,by show d ≤ max _ _;omega⟩
   rw [key,h2]
   constructor
   ·rintro (⟨i,hi,hh⟩ | hh)
    ·exact ⟨i,by omega,hh⟩
    ·exact ⟨j,by omega,hh⟩
   ·rintro ⟨i,hi,hh⟩
    by_cases e:i=j
    ·subst e;exact .inr hh
    ·exact .inl ⟨i,by omega,hh⟩
  ·rw [List.length_set,spAt_set,if_pos ⟨rfl,by omega⟩]
   exact hqf
 ·rename_i hc
  refine ⟨fun i hi=>?_,fun d=>?_,fun _=>⟨j,by omega,?_⟩⟩
  ·have hi' : i < out.length+1:=by simpa using hi
   rw [spAt_app hi']
   by_cases e:i=out.length
   ·rw [if_pos e]
    refine ⟨hs,fun h0=>?_⟩
    rw [spAt_app (by omega),if_neg (by omega)]
    have hne:out ≠ []:=List.length_pos_iff.1 (by omega)
    have:¬ (spAt l j).fr ≤ (spAt out (out.length - 1)).to+1:=fun hh=>hc ⟨hne,hh⟩
    rw [e]
    omega
   ·rw [if_neg e,spAt_app (by omega),if_neg (by omega)]
    exact h1 i (by omega)
  ·rw [hasDay_app,h2]
   constructor
   ·rintro (⟨i,hi,hh⟩ | hh)
    ·exact ⟨i,by omega,hh⟩
    ·exact ⟨j,by omega,hh⟩
   ·rintro ⟨i,hi,hh⟩
    by_cases e:i=j
    ·subst e;exact .inr hh
    ·exact .inl ⟨i,by omega,hh⟩
  ·rw [List.length_append,spAt_app (by simp)]
   rw [if_pos (by simp)]
   exact Int.le_refl _
def SortedF (l:List Sp):Prop:=∀ i k,i < k → k < l.length → (spAt l i).fr ≤ (spAt l k).fr
def FromTo (l:List Sp):Prop:=∀ i,i < l.length → (spAt l i).fr ≤ (spAt l i).to
theorem joinTo_ok {l:List Sp} (h1:SortedF l) (h2:FromTo l):∀ j,j ≤ l.length → JoinOk l (joinTo l j) j
 | 0,_=>⟨fun i hi=>absurd hi (by simp [joinTo]),fun d=>⟨fun ⟨i,hi,_⟩=>absurd hi (by simp [joinTo]),fun ⟨i,hi,_⟩=>absurd hi (by omega)⟩,fun h=>absurd rfl h⟩
 | j+1,hj=>(joinTo_ok h1 h2 j (by omega)).step (h2 j (by omega)) (fun i hi=>h1 i j hi (by omega))
theorem joinL_ok {l:List Sp} (h1:SortedF l) (h2:FromTo l):Nf (joinL l)∧∀ d,HasDay (joinL l) d ↔ HasDay l d:=by
 obtain ⟨a,b,_⟩:=joinTo_ok h1 h2 l.length (Nat.le_refl _)
 exact ⟨a,fun d=>b d⟩
structure MetSt where
 i:Nat
 k:Nat
 out:List Sp
def metS (a b:List Sp) (i k:Nat):Sp:=⟨max (spAt a i).fr (spAt b k).fr,min (spAt a i).to (spAt b k).to⟩
def metOut (a b:List Sp) (i k:Nat) (out:List Sp):List Sp:=if (metS a b i k).fr ≤ (metS a b i k).to then out ++ [metS a b i k] else out
def metNext (a b:List Sp) (s:MetSt):MetSt :=
 if s.i < a.length∧s.k < b.length then
  (if (spAt a s.i).to < (spAt b s.k).to then ⟨s.i+1,s.k,metOut a b s.i s.k s.out⟩ else ⟨s.i,s.k+1,metOut a b s.i s.k s.out⟩)
 else s
def metTo (a b:List Sp):Nat → MetSt
 | 0=>⟨0,0,[]⟩
 | t+1=>metNext a b (metTo a b t)
def metL (a b:List Sp):List Sp:=(metTo a b (a.length+b.length)).out
theorem metTo_sum (a b:List Sp):∀ t,(metTo a b t).i ≤ a.length∧(metTo a b t).k ≤ b.length∧((metTo a b t).i+(metTo a b t).k=t ∨ ¬ ((metTo a b t).i < a.length∧(metTo a b t).k < b.length))
 | 0=>⟨Nat.zero_le _,Nat.zero_le _,.inl rfl⟩
 | t+1=>by
  obtain ⟨h1,h2,h3⟩:=metTo_sum a b t
  have e:metTo a b (t+1)=metNext a b (metTo a b t):=rfl
  rw [e]
  generalize metTo a b t=s at *
  by_cases h:s.i < a.length∧s.k < b.length
  ·have h4:s.i+s.k=t:=h3.elim id (fun hh=>absurd h hh)
   by_cases h5:(spAt a s.i).to < (spAt b s.k).to
   ·have e2:metNext a b s=⟨s.i+1,s.k,metOut a b s.i s.k s.out⟩:=by unfold metNext;rw [if_pos h,if_pos h5]
    rw [e2]
    exact ⟨h.1,h2,.inl (by show s.i+1+s.k=t+1;omega)⟩
   ·have e2:metNext a b s=⟨s.i,s.k+1,metOut a b s.i s.k s.out⟩:=by unfold metNext;rw [if_pos h,if_neg h5]
    rw [e2]
    exact ⟨h1,h.2,.inl (by show s.i+(s.k+1)=t+1;omega)⟩
  ·have e2:metNext a b s=s:=by unfold metNext;rw [if_neg h]
   rw [e2]
   exact ⟨h1,h2,.inr h⟩
theorem metTo_end {a b:List Sp} {t:Nat} (h:¬ ((metTo a b t).i < a.length∧(metTo a b t).k < b.length)):∀ q,metTo a b (t+q)=metTo a b t
 | 0=>rfl
 | q+1=>by
  show metNext a b (metTo a b (t+q))=_
  rw [metTo_end h q]
  unfold metNext
  rw [if_neg h]
theorem metL_end {a b:List Sp} {t:Nat} (h:¬ ((metTo a b t).i < a.length∧(metTo a b t).k < b.length)) (ht:t ≤ a.length+b.length):(metTo a b t).out=metL a b:=by
 unfold metL
 obtain ⟨q,hq⟩:∃ q,a.length+b.length=t+q:=⟨a.length+b.length - t,by omega⟩
 rw [hq,metTo_end h q]
structure MetOk (a b:List Sp) (s:MetSt):Prop where
 nf:Nf s.out
 gap:s.out ≠ [] → s.i < a.length → s.k < b.length → (spAt s.out (s.out.length - 1)).to+2 ≤ max (spAt a s.i).fr (spAt b s.k).fr
 days:∀ d,HasDay s.out d ↔ ∃ p q,p < a.length∧q < b.length∧(p < s.i ∨ q < s.k)∧In (spAt a p) d∧In (spAt b q) d
theorem Nf.mono {l:List Sp} (h:Nf l) {p:Nat}:∀ q,p < q → q < l.length → (spAt l p).to+2 ≤ (spAt l q).fr
 | 0,h1,_=>by omega
 | q+1,h1,h2=>by
  have h3:=(h (q+1) h2).2 (by omega)
  have e:q+1 - 1=q:=by omega
  rw [e] at h3
  by_cases e2:p=q
  ·subst e2;exact h3
  ·have h4:=Nf.mono (p:=p) h q (by omega) (by omega)
   have h5:=(h q (by omega)).1
   omega
theorem MetOk.step {a b:List Sp} {s:MetSt} (ha:Nf a) (hb:Nf b) (h:MetOk a b s):MetOk a b (metNext a b s):=by
 unfold metNext
 by_cases hc:s.i < a.length∧s.k < b.length
 ·rw [if_pos hc]
  obtain ⟨h1,h2,h3⟩:=h
  obtain ⟨hi,hk⟩:=hc
  have hno:Nf (metOut a b s.i s.k s.out)∧(metOut a b s.i s.k s.out ≠ [] → (spAt (metOut a b s.i s.k s.out) ((metOut a b s.i s.k s.out).length - 1)).to+2 ≤ max (spAt a s.i).fr (spAt b s.k).fr ∨ (spAt (metOut a b s.i s.k s.out) ((metOut a b s.i s.k s.out).length - 1)).to=min (spAt a s.i).to (spAt b s.k).to) ∧
    ∀ d,HasDay (metOut a b s.i s.k s.out) d ↔ HasDay s.out d ∨ (In (spAt a s.i) d∧In (spAt b s.k) d):=by
   unfold metOut
   split
   ·rename_i hle
    refine ⟨fun i hi' => ?_,fun _=>.inr ?_,fun d=>?_⟩
    ·have hi2:i < s.out.length+1:=by simpa using hi'
     rw [spAt_app hi2]
     by_cases e:i=s.out.length
     ·rw [if_pos e]
      refine ⟨hle,fun h0=>?_⟩
      rw [spAt_app (by omega),if_neg (by omega)]
      have:=h2 (List.length_pos_iff.1 (by omega)) hi hk
      rw [e]
      exact this
     ·rw [if_neg e,spAt_app (by omega),if_neg (by omega)]
      exact h1 i (by omega)
    ·rw [List.length_append,spAt_app (by simp),if_pos (by simp)]
     rfl
    ·rw [hasDay_app]
     have:In (metS a b s.i s.k) d ↔ (In (spAt a s.i) d∧In (spAt b s.k) d):=by
      show (max (spAt a s.i).fr (spAt b s.k).fr ≤ d∧d ≤ min (spAt a s.i).to (spAt b s.k).to) ↔ ((spAt a s.i).fr ≤ d∧d ≤ (spAt a s.i).to)∧((spAt b s.k).fr ≤ d∧d ≤ (spAt b s.k).to)
      omega
     rw [this]
   ·rename_i hle
    refine ⟨h1,fun h0=>.inl (h2 h0 hi hk),fun d=>⟨fun hh=>.inl hh,fun hh=>hh.elim id (fun ⟨⟨x1,x2⟩,x3,x4⟩=>absurd (show max (spAt a s.i).fr (spAt b s.k).fr ≤ min (spAt a s.i).to (spAt b s.k).to by omega) hle)⟩⟩
  obtain ⟨n1,n2,n3⟩:=hno
  by_cases h5:(spAt a s.i).to < (spAt b s.k).to
  ·rw [if_pos h5]
   refine ⟨n1,fun h0 hi' hk' => ?_,fun d=>?_⟩
   ·have hi'' : s.i+1 < a.length:=hi'
    have h6:=ha.mono (p:=s.i) (s.i+1) (by omega) hi''
    have h7:=(ha s.i hi).1
    show _ ≤ max (spAt a (s.i+1)).fr (spAt b s.k).fr
    rcases n2 h0 with e | e
    ·have e' : (spAt (metOut a b s.i s.k s.out) ((metOut a b s.i s.k s.out).length - 1)).to+2 ≤ max (spAt a s.i).fr (spAt b s.k).fr:=e
     show (spAt (metOut a b s.i s.k s.out) ((metOut a b s.i s.k s.out).length - 1)).to+2 ≤ _
     omega
    ·show (spAt (metOut a b s.i s.k s.out) ((metOut a b s.i s.k s.out).length - 1)).to+2 ≤ _
     rw [e]
     omega
   ·show HasDay (metOut a b s.i s.k s.out) d ↔ ∃ p q,p < a.length∧q < b.length∧(p < s.i+1 ∨ q < s.k)∧In (spAt a p) d∧In (spAt b q) d
    rw [n3,h3]
    constructor
    ·rintro (⟨p,q,x1,x2,x3,x4,x5⟩ | ⟨x1,x2⟩)
     ·exact ⟨p,q,x1,x2,by omega,x4,x5⟩
     ·exact ⟨s.i,s.k,hi,hk,.inl (by omega),x1,x2⟩
    ·rintro ⟨p,q,x1,x2,x3,x4,x5⟩
     by_cases e:p < s.i ∨ q < s.k
     ·exact .inl ⟨p,q,x1,x2,e,x4,x5⟩
     ·obtain rfl:p=s.i:=by omega
      by_cases e2:q=s.k
      ·subst e2;exact .inr ⟨x4,x5⟩
      ·have:=hb.mono (p:=s.k) q (by omega) x2
       have:=x4.2
       have:=x5.1
       omega
  ·rw [if_neg h5]
   refine ⟨n1,fun h0 hi' hk' => ?_,fun d=>?_⟩
   ·have hk'' : s.k+1 < b.length:=hk'
    have h6:=hb.mono (p:=s.k) (s.k+1) (by omega) hk''
    have h7:=(hb s.k hk).1
    show _ ≤ max (spAt a s.i).fr (spAt b (s.k+1)).fr
    rcases n2 h0 with e | e
    ·have e' : (spAt (metOut a b s.i s.k s.out) ((metOut a b s.i s.k s.out).length - 1)).to+2 ≤ max (spAt a s.i).fr (spAt b s.k).fr:=e
     show (spAt (metOut a b s.i s.k s.out) ((metOut a b s.i s.k s.out).length - 1)).to+2 ≤ _
     omega
    ·show (spAt (metOut a b s.i s.k s.out) ((metOut a b s.i s.k s.out).length - 1)).to+2 ≤ _
     rw [e]
     omega
   ·show HasDay (metOut a b s.i s.k s.out) d ↔ ∃ p q,p < a.length∧q < b.length∧(p < s.i ∨ q < s.k+1)∧In (spAt a p) d∧In (spAt b q) d
    rw [n3,h3]
    constructor
    ·rintro (⟨p,q,x1,x2,x3,x4,x5⟩ | ⟨x1,x2⟩)
     ·exact ⟨p,q,x1,x2,by omega,x4,x5⟩
     ·exact ⟨s.i,s.k,hi,hk,.inr (by omega),x1,x2⟩
    ·rintro ⟨p,q,x1,x2,x3,x4,x5⟩
     by_cases e:p < s.i ∨ q < s.k
     ·exact .inl ⟨p,q,x1,x2,e,x4,x5⟩
     ·obtain rfl:q=s.k:=by omega
      by_cases e2:p=s.i
      ·subst e2;exact .inr ⟨x4,x5⟩
      ·have:=ha.mono (p:=s.i) p (by omega) x1
       have:=x5.2
       have:=x4.1
       omega
 ·rw [if_neg hc];exact h
theorem metTo_ok {a b:List Sp} (ha:Nf a) (hb:Nf b):∀ t,MetOk a b (metTo a b t)
 | 0=>⟨fun i hi=>absurd hi (by simp [metTo]),fun h=>absurd rfl h,fun d=>⟨fun ⟨i,hi,_⟩=>absurd hi (by simp [metTo]),fun ⟨p,q,_,_,h,_⟩=>by simp [metTo] at h⟩⟩
 | t+1=>(metTo_ok ha hb t).step ha hb
theorem metL_ok {a b:List Sp} (ha:Nf a) (hb:Nf b):Nf (metL a b)∧∀ d,HasDay (metL a b) d ↔ HasDay a d∧HasDay b d:=by
 obtain ⟨h1,_,h3⟩:=metTo_ok ha hb (a.length+b.length)
 refine ⟨h1,fun d=>?_⟩
 have hs:=metTo_sum a b (a.length+b.length)
 show HasDay (metTo a b (a.length+b.length)).out d ↔ _
 rw [h3]
 constructor
 ·rintro ⟨p,q,x1,x2,_,x4,x5⟩
  exact ⟨⟨p,x1,x4⟩,q,x2,x5⟩
 ·rintro ⟨⟨p,x1,x4⟩,q,x2,x5⟩
  refine ⟨p,q,x1,x2,?_,x4,x5⟩
  rcases hs.2.2 with e | e
  ·omega
  ·omega
theorem metOut_len (a b:List Sp) (i k:Nat) (out:List Sp):(metOut a b i k out).length ≤ out.length+1:=by
 unfold metOut
 split <;> simp
theorem metTo_len (a b:List Sp):∀ t,(metTo a b t).out.length ≤ t
 | 0=>by simp [metTo]
 | t+1=>by
  have ih:=metTo_len a b t
  have:=metOut_len a b (metTo a b t).i (metTo a b t).k (metTo a b t).out
  have e:metTo a b (t+1)=metNext a b (metTo a b t):=rfl
  rw [e]
  generalize metTo a b t=s at *
  unfold metNext
  split
  ·split
   ·show (metOut a b s.i s.k s.out).length ≤ t+1;omega
   ·show (metOut a b s.i s.k s.out).length ≤ t+1;omega
  ·omega
def posS:List Sp → Int → Nat
 | [],_=>0
 | t :: r,x=>if t.fr ≤ x then posS r x+1 else 0
def PosOk (l:List Sp) (x:Int) (p:Nat):Prop:=p ≤ l.length∧(∀ i,i < p → (spAt l i).fr ≤ x)∧(p < l.length → x < (spAt l p).fr)
theorem posS_eq:∀ {l:List Sp} {x:Int} {p:Nat},PosOk l x p → posS l x=p
 | [],_,p,h=>by have:=h.1;simp at this;subst this;rfl
 | t :: r,x,0,h=>by
  have:=h.2.2 (by simp)
  show (if t.fr ≤ x then _ else _)=0
  rw [if_neg (by have e:(spAt (t :: r) 0).fr=t.fr:=rfl;omega)]
 | t :: r,x,p+1,h=>by
  have h0:t.fr ≤ x:=h.2.1 0 (by omega)
  show (if t.fr ≤ x then posS r x+1 else 0)=p+1
  rw [if_pos h0,posS_eq (l:=r) (x:=x) (p:=p) ⟨by have:=h.1;simp at this;omega,fun i hi=>h.2.1 (i+1) (by omega),fun hp=>h.2.2 (by simp;omega)⟩]
theorem posS_ok:∀ (l:List Sp) (x:Int),PosOk l x (posS l x)
 | [],_=>⟨Nat.le_refl _,fun i hi=>absurd hi (by simp [posS]),fun h=>absurd h (by simp [posS])⟩
 | t :: r,x=>by
  obtain ⟨h1,h2,h3⟩:=posS_ok r x
  unfold posS
  by_cases h:t.fr ≤ x
  ·rw [if_pos h]
   refine ⟨by simp;omega,fun i hi=>?_,fun hp=>h3 (by simp at hp;omega)⟩
   match i,hi with
   | 0,_=>exact h
   | i+1,hi=>exact h2 i (by omega)
  ·rw [if_neg h]
   exact ⟨Nat.zero_le _,fun i hi=>absurd hi (by omega),fun _=>by show x < t.fr;omega⟩
def SpBd' (s:Sp):Prop:=(-4611686018427387904 ≤ s.fr∧s.fr ≤ 4611686018427387904)∧(-4611686018427387904 ≤ s.to∧s.to ≤ 4611686018427387904)
def insS (l:List Sp) (s:Sp):List Sp:=l.take (posS l s.fr) ++ s :: l.drop (posS l s.fr)
theorem insS_len (l:List Sp) (s:Sp):(insS l s).length=l.length+1:=by
 have:=(posS_ok l s.fr).1
 simp [insS]
 omega
theorem spAt_ins (l:List Sp) (s:Sp) (i:Nat):spAt (insS l s) i=if i < posS l s.fr then spAt l i else if i=posS l s.fr then s else spAt l (i - 1):=by
 have hp:=(posS_ok l s.fr).1
 unfold spAt insS
 rw [List.getD_eq_getElem?_getD,List.getD_eq_getElem?_getD,List.getD_eq_getElem?_getD]
 have ht:(l.take (posS l s.fr)).length=posS l s.fr:=by rw [List.length_take];omega
 by_cases h:i < posS l s.fr
 ·rw [if_pos h,List.getElem?_append_left (by omega),List.getElem?_take,if_pos h]
 ·rw [if_neg h,List.getElem?_append_right (by omega),ht]
  by_cases h2:i=posS l s.fr
  ·rw [if_pos h2,h2,Nat.sub_self];rfl
  ·rw [if_neg h2]
   obtain ⟨q,hq⟩:∃ q,i=posS l s.fr+1+q:=⟨i - (posS l s.fr+1),by omega⟩
   rw [hq,show posS l s.fr+1+q - posS l s.fr=q+1 by omega,List.getElem?_cons_succ,List.getElem?_drop,show posS l s.fr+1+q - 1=posS l s.fr+q by omega]
theorem insS_sorted {l:List Sp} {s:Sp} (h:SortedF l):SortedF (insS l s):=by
 obtain ⟨h1,h2,h3⟩:=posS_ok l s.fr
 intro i k hik hk
 rw [insS_len] at hk
 rw [spAt_ins,spAt_ins]
 by_cases c1:k < posS l s.fr
 ·rw [if_pos c1,if_pos (by omega)]
  exact h i k hik (by omega)
 ·rw [if_neg c1]
  by_cases c2:k=posS l s.fr
  ·rw [if_pos c2,if_pos (by omega)]
   exact h2 i (by omega)
  ·rw [if_neg c2]
   have hp:(spAt l (posS l s.fr)).fr ≤ (spAt l (k - 1)).fr:=by
    by_cases e:posS l s.fr=k - 1
    ·rw [e];exact Int.le_refl _
    ·exact h _ _ (by omega) (by omega)
   have hx:=h3 (by omega)
   by_cases c3:i < posS l s.fr
   ·rw [if_pos c3]
    have:=h2 i c3
    omega
   ·rw [if_neg c3]
    by_cases c4:i=posS l s.fr
    ·rw [if_pos c4];omega
    ·rw [if_neg c4]
     exact h (i - 1) (k - 1) (by omega) (by omega)
theorem insS_all {l:List Sp} {s:Sp} {P:Sp → Prop}:(∀ i,i < l.length+1 → P (spAt (insS l s) i)) ↔ (∀ i,i < l.length → P (spAt l i))∧P s:=by
 have hp:=(posS_ok l s.fr).1
 constructor
 ·intro h
  refine ⟨fun i hi=>?_,?_⟩
  ·by_cases c:i < posS l s.fr
   ·have:=h i (by omega);rwa [spAt_ins,if_pos c] at this
   ·have:=h (i+1) (by omega)
    rwa [spAt_ins,if_neg (by omega),if_neg (by omega),Nat.add_sub_cancel] at this
  ·have:=h (posS l s.fr) (by omega)
   rwa [spAt_ins,if_neg (by omega),if_pos rfl] at this
 ·rintro ⟨h1,h2⟩ i hi
  rw [spAt_ins]
  by_cases c:i < posS l s.fr
  ·rw [if_pos c];exact h1 i (by omega)
  ·rw [if_neg c]
   by_cases c2:i=posS l s.fr
   ·rw [if_pos c2];exact h2
   ·rw [if_neg c2];exact h1 (i - 1) (by omega)
theorem hasDay_ins {l:List Sp} {s:Sp} {d:Int}:HasDay (insS l s) d ↔ HasDay l d ∨ In s d:=by
 have h:=insS_all (l:=l) (s:=s) (P:=fun t=>¬ In t d)
 constructor
 ·rintro ⟨i,hi,hh⟩
  refine Classical.byContradiction fun hn=>?_
  have h1:(∀ i,i < l.length → ¬ In (spAt l i) d)∧¬ In s d:=⟨fun i hi hh=>hn (.inl ⟨i,hi,hh⟩),fun hh=>hn (.inr hh)⟩
  exact h.2 h1 i (by rw [insS_len] at hi;exact hi) hh
 ·intro hh
  refine Classical.byContradiction fun hn=>?_
  have h1:=h.1 (fun i hi hi2=>hn ⟨i,by rw [insS_len];exact hi,hi2⟩)
  rcases hh with ⟨i,hi,hh⟩ | hh
  ·exact h1.1 i hi hh
  ·exact h1.2 hh
def sortTo (l:List Sp):Nat → List Sp
 | 0=>[]
 | j+1=>insS (sortTo l j) (spAt l j)
theorem sortTo_len (l:List Sp):∀ j,(sortTo l j).length=j
 | 0=>rfl
 | j+1=>by show (insS _ _).length=_;rw [insS_len,sortTo_len l j]
theorem sortTo_sorted (l:List Sp):∀ j,SortedF (sortTo l j)
 | 0=>fun i k _ hk=>absurd hk (by simp [sortTo])
 | j+1=>insS_sorted (sortTo_sorted l j)
theorem sortTo_days (l:List Sp) {d:Int}:∀ j,HasDay (sortTo l j) d ↔ ∃ i,i < j∧In (spAt l i) d
 | 0=>⟨fun ⟨i,hi,_⟩=>absurd hi (by simp [sortTo]),fun ⟨i,hi,_⟩=>absurd hi (by omega)⟩
 | j+1=>by
  show HasDay (insS _ _) d ↔ _
  rw [hasDay_ins,sortTo_days l j]
  constructor
  ·rintro (⟨i,hi,hh⟩ | hh)
   ·exact ⟨i,by omega,hh⟩
   ·exact ⟨j,by omega,hh⟩
  ·rintro ⟨i,hi,hh⟩
   by_cases e:i=j
   ·subst e;exact .inr hh
   ·exact .inl ⟨i,by omega,hh⟩
theorem sortTo_fromTo {l:List Sp} (h:FromTo l):∀ j,j ≤ l.length → FromTo (sortTo l j)
 | 0,_=>fun i hi=>absurd hi (by simp [sortTo])
 | j+1,hj=>fun i hi=>by
  have hi' : i < (sortTo l j).length+1:=by rw [sortTo_len] at hi ⊢;omega
  exact (insS_all (P:=fun t=>t.fr ≤ t.to)).2 ⟨sortTo_fromTo h j (by omega),h j (by omega)⟩ i hi'
def mkL (l:List Sp):List Sp:=joinL (sortTo l l.length)
theorem mkL_ok {l:List Sp} (h:FromTo l):Nf (mkL l)∧∀ d,HasDay (mkL l) d ↔ HasDay l d:=by
 obtain ⟨h1,h2⟩:=joinL_ok (sortTo_sorted l l.length) (sortTo_fromTo h l.length (Nat.le_refl _))
 exact ⟨h1,fun d=>(h2 d).trans (sortTo_days l l.length)⟩
theorem joinS_all {out:List Sp} {s:Sp} {P:Int → Prop} (hm:∀ a b,P a → P b → P (max a b)) (h:∀ i,i < out.length → P (spAt out i).to) (hs:P s.to):∀ i,i < (joinS out s).length → P (spAt (joinS out s) i).to:=by
 intro i hi
 unfold joinS at hi ⊢
 split at hi
 ·rename_i hc
  rw [if_pos hc]
  have hi' : i < out.length:=by simpa using hi
  rw [spAt_set]
  by_cases e:i=out.length - 1∧i < out.length
  ·rw [if_pos e]
   exact hm _ _ (h _ (by omega)) hs
  ·rw [if_neg e];exact h i hi'
 ·rename_i hc
  rw [if_neg hc]
  have hi' : i < out.length+1:=by simpa using hi
  rw [spAt_app hi']
  by_cases e:i=out.length
  ·rw [if_pos e];exact hs
  ·rw [if_neg e];exact h i (by omega)
theorem joinTo_all {l:List Sp} {P:Int → Prop} (hm:∀ a b,P a → P b → P (max a b)) (h:∀ i,i < l.length → P (spAt l i).to):∀ j,j ≤ l.length → ∀ i,i < (joinTo l j).length → P (spAt (joinTo l j) i).to
 | 0,_=>fun i hi=>absurd hi (by simp [joinTo])
 | j+1,hj=>joinS_all hm (joinTo_all hm h j (by omega)) (h j (by omega))
theorem sortTo_all {l:List Sp} {P:Sp → Prop} (h:∀ i,i < l.length → P (spAt l i)):∀ j,j ≤ l.length → ∀ i,i < j → P (spAt (sortTo l j) i)
 | 0,_=>fun i hi=>absurd hi (by omega)
 | j+1,hj=>fun i hi=>insS_all.2 ⟨fun i hi=>sortTo_all h j (by omega) i (by rwa [sortTo_len] at hi),h j (by omega)⟩ i (by rw [sortTo_len];exact hi)
def ShOk (L M:List Sp) (k:Nat):Prop:=M.length=L.length∧∀ i,i < L.length → spAt M i=if k < i then spAt L (i - 1) else spAt L i
theorem ShOk.start (L:List Sp):ShOk L L (L.length - 1):=⟨rfl,fun i hi=>by rw [if_neg (by omega)]⟩
theorem ShOk.step {L M:List Sp} {k:Nat} (h:ShOk L M (k+1)) (hk:k+1 < L.length):ShOk L (M.set (k+1) (spAt M k)) k:=by
 obtain ⟨h1,h2⟩:=h
 refine ⟨by rw [List.length_set,h1],fun i hi=>?_⟩
 rw [spAt_set]
 by_cases e:i=k+1
 ·rw [if_pos ⟨e,by omega⟩,h2 k (by omega),if_neg (by omega),if_pos (by omega),e]
  rfl
 ·rw [if_neg (fun hh=>e hh.1),h2 i hi]
  by_cases e2:k+1 < i
  ·rw [if_pos e2,if_pos (by omega)]
  ·rw [if_neg e2,if_neg (by omega)]
theorem list_extS {a b:List Sp} (hl:a.length=b.length) (h:∀ i,i < a.length → spAt a i=spAt b i):a=b:=by
 refine List.ext_getElem hl (fun i h1 h2=>?_)
 have:=h i h1
 unfold spAt at this
 rw [List.getD_eq_getElem?_getD,List.getD_eq_getElem?_getD,List.getElem?_eq_getElem h1,List.getElem?_eq_getElem h2] at this
 exact this
theorem ShOk.done {l M:List Sp} {s z:Sp} (h:ShOk (l ++ [z]) M (posS l s.fr)):M.set (posS l s.fr) s=insS l s:=by
 obtain ⟨h1,h2⟩:=h
 have hp:=(posS_ok l s.fr).1
 have hM:M.length=l.length+1:=by rw [h1];simp
 refine list_extS (by rw [List.length_set,insS_len,hM]) (fun i hi=>?_)
 rw [List.length_set,hM] at hi
 rw [spAt_set,spAt_ins]
 by_cases c:i=posS l s.fr
 ·rw [if_pos ⟨c,by omega⟩,if_neg (by omega),if_pos c]
 ·rw [if_neg (fun hh=>c hh.1),h2 i (by simp;omega)]
  by_cases c2:i < posS l s.fr
  ·rw [if_neg (by omega),if_pos c2,spAt_app (by omega),if_neg (by omega)]
  ·rw [if_pos (by omega),if_neg c2,if_neg c,spAt_app (by omega),if_neg (by omega)]
def SetD (l:List Sp):Prop:=Nf l∧∀ i,i < l.length → DayOk (spAt l i).fr∧DayOk (spAt l i).to
theorem SetOk.d {l:List Sp} (h:SetOk l):SetD l:=⟨h.nf,fun i hi=>⟨(h.2 i hi).1.1,(h.2 i hi).1.2.1⟩⟩
theorem SetD.ok {l:List Sp} (h:SetD l) (hl:l.length ≤ 300):SetOk l:=⟨hl,fun i hi=>⟨⟨(h.2 i hi).1,(h.2 i hi).2,(h.1 i hi).1⟩,(h.1 i hi).2⟩⟩
theorem SetD.fr {l:List Sp} (h:SetD l):∀ i,i < l.length → 2 * (i:Int) ≤ (spAt l i).fr
 | 0,hi=>by have:=(h.2 0 hi).1.1;omega
 | i+1,hi=>by
  have h1:=SetD.fr h i (by omega)
  have h2:=(h.1 (i+1) hi).2 (by omega)
  have h3:=(h.1 i (by omega)).1
  rw [show i+1 - 1=i by omega] at h2
  omega
theorem SetD.len {l:List Sp} (h:SetD l):l.length ≤ 365250:=by
 rcases Nat.eq_zero_or_pos l.length with h0 | h0
 ·omega
 ·have h1:=h.fr (l.length - 1) (by omega)
  have h2:=(h.2 (l.length - 1) (by omega)).1.2
  omega
theorem SetD.day {l:List Sp} (h:SetD l) {d:Int} (hd:HasDay l d):DayOk d:=by
 obtain ⟨i,hi,h1,h2⟩:=hd
 obtain ⟨⟨a,b⟩,⟨c,e⟩⟩:=h.2 i hi
 exact ⟨by omega,by omega⟩
theorem setD_of {l:List Sp} (h:Nf l) (hd:∀ d,HasDay l d → DayOk d):SetD l:=⟨h,fun i hi=>⟨hd _ ⟨i,hi,Int.le_refl _,(h i hi).1⟩,hd _ ⟨i,hi,(h i hi).1,Int.le_refl _⟩⟩⟩
theorem SetD.bd {l:List Sp} (h:SetD l):∀ i,i < l.length → SpBd' (spAt l i):=fun i hi=>by
 obtain ⟨⟨a,b⟩,⟨c,e⟩⟩:=h.2 i hi
 exact ⟨⟨by omega,by omega⟩,⟨by omega,by omega⟩⟩
end Go.Proofs.YtechbeegbhlppaaGreatDoor
