/- How slices of structs of strings and numbers read: from the reading to rows of cells. (Printed by genO.py.) -/
import Derived.Test.YtechbeegbhlppaaGreatDoorS2Open
import Derived.Test.YtechbeegbhlppaaGreatDoorS2Jd
import Derived.OpenShut
namespace Go.Proofs.YtechbeegbhlppaaGreatDoor
set_option linter.unusedVariables false
set_option linter.unusedSimpArgs false
open Go.RowKit Go.ChangeShapes Go.WideShapes Go.Deep Go.Joins
section
variable {H:Type} {enc:TypeId × Value → H} {P:Program} {w:World} {base:Nat} {spare:Nat → Bool} {held:Bool}
theorem open_cells {t e:TypeId} {fs:Array Field} {fuel:Nat} {cs:List Value} {x:DataW H × List MemPlace} (ht:P.underlying t=some (.slice e)) (he:P.underlying e=some (.struct fs))
  (hone:oneCellFields P fs=true) (hC:P.cellsOf e=fs.size) (hk:0 < fs.size) (h:DataW.trod enc P w base spare held fuel t cs=some x) :
  ∃ A len cap,cs=[.slice A len cap]∧len ≤ cap∧len ≤ maxLen∧(0 < len → ∃ b off,A=some ⟨b,off,none⟩∧b < w.heap.size ∧
   ∀ q j f,q < len → fs[j]? = some f → ∃ (c:Value) (n:Nat) (y:DataW H × List MemPlace),w.cell? ⟨b,off+(q * fs.size+j),none⟩=some c∧DataW.trod enc P w base spare held n f.type [c]=some y):=by
 rcases open_slice ht h with ⟨h0,_⟩ | ⟨a,len,cap,m,n,D,Pl,hcs,hb,hl,hm,hmm,hx,hi⟩
 ·exact ⟨none,0,0,h0,Nat.le_refl _,Nat.zero_le _,fun hn=>absurd hn (by omega)⟩
 ·have hlm:len ≤ m:=by rw [hmm];split <;> omega
  have hcell:∀ q j f,q < len → fs[j]? = some f → ∃ (c:Value) (n:Nat) (y:DataW H × List MemPlace),w.cell? (a.add (q * fs.size+j))=some c∧DataW.trod enc P w base spare held n f.type [c]=some y:=by
   intro q j f hq hfj
   have hr:j < fs.size:=(Array.getElem?_eq_some_iff.1 hfj).1
   obtain ⟨cs', hc,ht'⟩:=hi q (by omega)
   obtain ⟨_,hcl,hat⟩:=World.cells?_some hc
   obtain ⟨ys,n', _,_,hlen,hyl,hf⟩:=DataW.trod_struct he ht'
   rw [hC] at hat hcl hc
   obtain ⟨ho,hk1⟩:=hone_of hone _ f hfj
   have h1:=hf _ f hfj
   rw [ho,hk1] at h1
   have hcj:j < cs'.length:=by omega
   have hd:(cs'.drop j).take 1=[cs'[j]]:=by
    rw [List.drop_eq_getElem_cons hcj]
    rfl
   rw [hd] at h1
   have hyj:ys[j]? = some (ys[j]'(by omega)):=List.getElem?_eq_getElem (by omega)
   refine ⟨cs'[j],n', _,?_,h1.trans hyj⟩
   have hc1:=hat j hr
   rw [Go.Deep.add_add,List.getElem?_eq_getElem hcj] at hc1
   exact hc1
  refine ⟨some a,len,cap,hcs,hl,by omega,fun h0=>?_⟩
  obtain ⟨f0,hf0⟩:∃ f,fs[0]? = some f:=⟨fs[0],Array.getElem?_eq_getElem hk⟩
  obtain ⟨c0,_,_,hc0,_⟩:=hcell 0 0 f0 h0 hf0
  have ha0:a.add (0 * fs.size+0)=a:=by simp [Addr.add]
  rw [ha0] at hc0
  have hsp:=spot_of_cell hc0
  have hlt:=World.block_lt_of_cell? w a hc0
  have hae:a=⟨a.block,a.off,none⟩:=by rw [← hsp]
  refine ⟨a.block,a.off,by rw [← hae],hlt,fun q j f hq hfj=>?_⟩
  obtain ⟨c,n', y,h1,h2⟩:=hcell q j f hq hfj
  refine ⟨c,n', y,?_,h2⟩
  rw [hae,Addr.add_lit] at h1
  exact h1
theorem open_strs {t e:TypeId} {fuel:Nat} {cs:List Value} {x:DataW H × List MemPlace} (ht:P.underlying t=some (.slice e)) (he:P.underlying e=some .string) (hC:P.cellsOf e=1) (h:DataW.trod enc P w base spare held fuel t cs=some x) :
  ∃ v l,cs=[v]∧Strs w 0 w.heap.size v l∧∀ i,i < l.length → (strAt l i).size ≤ maxLen:=by
 rcases open_slice ht h with ⟨h0,_⟩ | ⟨a,len,cap,m,n,D,Pl,hcs,hb,hl,hm,hmm,hx,hi⟩
 ·exact ⟨_,[],h0,⟨Nat.zero_le _,none,0,rfl,Nat.le_refl _,fun hn=>absurd hn (by simp)⟩,fun i hi=>absurd hi (by simp)⟩
 ·have hlm:len ≤ m:=by rw [hmm];split <;> omega
  have hone:∀ i,i < len → ∃ z:ByteArray,w.cell? (a.add i)=some (.string z)∧z.size ≤ maxLen:=by
   intro i hil
   obtain ⟨cs', hc,ht'⟩:=hi i (by omega)
   obtain ⟨_,hcl,hat⟩:=World.cells?_some hc
   obtain ⟨z,rfl,_,hz⟩:=DataW.trod_string he ht'
   refine ⟨z,?_,hz⟩
   have:=hat 0 (by rw [hC];omega)
   rw [Go.Deep.add_add,hC] at this
   simpa using this
  haveI:Inhabited ByteArray:=⟨⟨#[]⟩⟩
  obtain ⟨F,hF⟩:=choose_lt (p:=fun i (z:ByteArray)=>w.cell? (a.add i)=some (.string z)∧z.size ≤ maxLen) hone
  have hlen:((List.range len).map F).length=len:=by simp
  have hg:∀ i,i < len → strAt ((List.range len).map F) i=F i:=fun i hil=>by
   unfold strAt
   simp [List.getD,hil]
  refine ⟨_,(List.range len).map F,hcs,?_,fun i hil=>?_⟩
  ·unfold Strs
   rw [hlen]
   refine ⟨by omega,some a,cap,rfl,hl,fun h0=>?_⟩
   have hz0:=(hF 0 h0).1
   have ha0:a.add 0=a:=by simp [Addr.add]
   rw [ha0] at hz0
   have hsp:=spot_of_cell hz0
   have hlt:=World.block_lt_of_cell? w a hz0
   have hae:a=⟨a.block,a.off,none⟩:=by rw [← hsp]
   refine ⟨a.block,a.off,by rw [← hae],Nat.zero_le _,hlt,fun i hil=>?_⟩
   have:=(hF i (by omega)).1
   rw [hae,Addr.add_lit] at this
   rw [this]
   unfold strCell
   rw [hg i (by omega)]
  ·rw [hlen] at hil
   rw [hg i hil]
   exact (hF i hil).2
theorem open_nsps {t e:TypeId} {fs:Array Field} {fuel:Nat} {cs:List Value} {x:DataW H × List MemPlace} (ht:P.underlying t=some (.slice e)) (he:P.underlying e=some (.struct fs))
  (hone:oneCellFields P fs=true) (hC:P.cellsOf e=3) (hfs:fs.size=3) (h0:∀ f,fs[0]? = some f → P.underlying f.type=some .string) (h1:∀ f,fs[1]? = some f → P.underlying f.type=some (.int .i64)) (h2:∀ f,fs[2]? = some f → P.underlying f.type=some (.int .i64)) (h:DataW.trod enc P w base spare held fuel t cs=some x) :
  ∃ v l,cs=[v]∧Nsps w 0 w.heap.size v l∧∀ i,i < l.length → (nspAt l i).nm.size ≤ maxLen:=by
 obtain ⟨A,len,cap,hcs,hlc,hm,hr⟩:=open_cells ht he hone (by omega) (by omega) h
 by_cases hp0:0 < len
 ·obtain ⟨b,off,hA,hb,hc⟩:=hr hp0
  have hel:∀ q,q < len → ∃ s:Nsp,w.cell? ⟨b,off+(q * fs.size+0),none⟩=some (.string s.nm)∧w.cell? ⟨b,off+(q * fs.size+1),none⟩=some (.int .i64 s.fr)∧w.cell? ⟨b,off+(q * fs.size+2),none⟩=some (.int .i64 s.to)∧s.nm.size ≤ maxLen:=by
   intro q hq
   obtain ⟨f0,hf0⟩:∃ f,fs[0]? = some f:=⟨fs[0],Array.getElem?_eq_getElem (by omega)⟩
   obtain ⟨c0,n0,y0,hc0,ht0⟩:=hc q 0 f0 hq hf0
   obtain ⟨z0,e0,_,g0⟩:=DataW.trod_string (h0 f0 hf0) ht0
   injection e0 with e0
   subst e0
   obtain ⟨f1,hf1⟩:∃ f,fs[1]? = some f:=⟨fs[1],Array.getElem?_eq_getElem (by omega)⟩
   obtain ⟨c1,n1,y1,hc1,ht1⟩:=hc q 1 f1 hq hf1
   obtain ⟨z1,e1,_,_⟩:=DataW.trod_int (h1 f1 hf1) ht1
   injection e1 with e1
   subst e1
   obtain ⟨f2,hf2⟩:∃ f,fs[2]? = some f:=⟨fs[2],Array.getElem?_eq_getElem (by omega)⟩
   obtain ⟨c2,n2,y2,hc2,ht2⟩:=hc q 2 f2 hq hf2
   obtain ⟨z2,e2,_,_⟩:=DataW.trod_int (h2 f2 hf2) ht2
   injection e2 with e2
   subst e2
   exact ⟨⟨z0,z1,z2⟩,hc0,hc1,hc2,g0⟩
  haveI:Inhabited Nsp:=⟨⟨⟨#[]⟩,0,0⟩⟩
  obtain ⟨G,hG⟩:=choose_lt (p:=fun q (s:Nsp)=>w.cell? ⟨b,off+(q * fs.size+0),none⟩=some (.string s.nm)∧w.cell? ⟨b,off+(q * fs.size+1),none⟩=some (.int .i64 s.fr)∧w.cell? ⟨b,off+(q * fs.size+2),none⟩=some (.int .i64 s.to)∧s.nm.size ≤ maxLen) hel
  have hlen:((List.range len).map G).length=len:=by simp
  have hg:∀ i,i < len → nspAt ((List.range len).map G) i=G i:=fun i hil=>by
   unfold nspAt
   simp [List.getD,hil]
  refine ⟨_,(List.range len).map G,hcs,?_,fun i hil=>?_⟩
  ·unfold Nsps
   rw [hlen]
   refine ⟨hm,A,cap,rfl,hlc,fun _=>⟨b,off,hA,Nat.zero_le _,hb,fun i hi=>?_⟩⟩
   have hq:i / 3 < len:=by omega
   obtain ⟨g0,g1,g2,_⟩:=hG (i / 3) hq
   rw [hfs] at g0 g1 g2
   unfold nspCell
   rw [hg _ hq]
   by_cases e0:i % 3=0
   ·rw [if_pos e0,← g0];congr 3;omega
   by_cases e1:i % 3=1
   ·rw [if_neg e0,if_pos e1,← g1];congr 3;omega
   rw [if_neg e0,if_neg e1,← g2];congr 3;omega
  ·rw [hlen] at hil
   rw [hg i hil]
   obtain ⟨_,_,_,s0⟩:=hG i hil
   exact s0
 ·obtain rfl:len=0:=by omega
  exact ⟨_,[],hcs,⟨Nat.zero_le _,A,cap,rfl,Nat.zero_le _,fun hn=>absurd hn (by simp)⟩,fun i hi=>absurd hi (by simp)⟩
theorem open_trms {t e:TypeId} {fs:Array Field} {fuel:Nat} {cs:List Value} {x:DataW H × List MemPlace} (ht:P.underlying t=some (.slice e)) (he:P.underlying e=some (.struct fs))
  (hone:oneCellFields P fs=true) (hC:P.cellsOf e=4) (hfs:fs.size=4) (h0:∀ f,fs[0]? = some f → P.underlying f.type=some .string) (h1:∀ f,fs[1]? = some f → P.underlying f.type=some .string) (h2:∀ f,fs[2]? = some f → P.underlying f.type=some (.int .i64)) (h3:∀ f,fs[3]? = some f → P.underlying f.type=some (.int .i64)) (h:DataW.trod enc P w base spare held fuel t cs=some x) :
  ∃ v l,cs=[v]∧Trms w 0 w.heap.size v l∧∀ i,i < l.length → (trmAt l i).of.size ≤ maxLen∧(trmAt l i).pe.size ≤ maxLen:=by
 obtain ⟨A,len,cap,hcs,hlc,hm,hr⟩:=open_cells ht he hone (by omega) (by omega) h
 by_cases hp0:0 < len
 ·obtain ⟨b,off,hA,hb,hc⟩:=hr hp0
  have hel:∀ q,q < len → ∃ s:Trm,w.cell? ⟨b,off+(q * fs.size+0),none⟩=some (.string s.of)∧w.cell? ⟨b,off+(q * fs.size+1),none⟩=some (.string s.pe)∧w.cell? ⟨b,off+(q * fs.size+2),none⟩=some (.int .i64 s.fr)∧w.cell? ⟨b,off+(q * fs.size+3),none⟩=some (.int .i64 s.to)∧s.of.size ≤ maxLen∧s.pe.size ≤ maxLen:=by
   intro q hq
   obtain ⟨f0,hf0⟩:∃ f,fs[0]? = some f:=⟨fs[0],Array.getElem?_eq_getElem (by omega)⟩
   obtain ⟨c0,n0,y0,hc0,ht0⟩:=hc q 0 f0 hq hf0
   obtain ⟨z0,e0,_,g0⟩:=DataW.trod_string (h0 f0 hf0) ht0
   injection e0 with e0
   subst e0
   obtain ⟨f1,hf1⟩:∃ f,fs[1]? = some f:=⟨fs[1],Array.getElem?_eq_getElem (by omega)⟩
   obtain ⟨c1,n1,y1,hc1,ht1⟩:=hc q 1 f1 hq hf1
   obtain ⟨z1,e1,_,g1⟩:=DataW.trod_string (h1 f1 hf1) ht1
   injection e1 with e1
   subst e1
   obtain ⟨f2,hf2⟩:∃ f,fs[2]? = some f:=⟨fs[2],Array.getElem?_eq_getElem (by omega)⟩
   obtain ⟨c2,n2,y2,hc2,ht2⟩:=hc q 2 f2 hq hf2
   obtain ⟨z2,e2,_,_⟩:=DataW.trod_int (h2 f2 hf2) ht2
   injection e2 with e2
   subst e2
   obtain ⟨f3,hf3⟩:∃ f,fs[3]? = some f:=⟨fs[3],Array.getElem?_eq_getElem (by omega)⟩
   obtain ⟨c3,n3,y3,hc3,ht3⟩:=hc q 3 f3 hq hf3
   obtain ⟨z3,e3,_,_⟩:=DataW.trod_int (h3 f3 hf3) ht3
   injection e3 with e3
   subst e3
   exact ⟨⟨z0,z1,z2,z3⟩,hc0,hc1,hc2,hc3,g0,g1⟩
  haveI:Inhabited Trm:=⟨⟨⟨#[]⟩,⟨#[]⟩,0,0⟩⟩
  obtain ⟨G,hG⟩:=choose_lt (p:=fun q (s:Trm)=>w.cell? ⟨b,off+(q * fs.size+0),none⟩=some (.string s.of)∧w.cell? ⟨b,off+(q * fs.size+1),none⟩=some (.string s.pe)∧w.cell? ⟨b,off+(q * fs.size+2),none⟩=some (.int .i64 s.fr)∧w.cell? ⟨b,off+(q * fs.size+3),none⟩=some (.int .i64 s.to)∧s.of.size ≤ maxLen∧s.pe.size ≤ maxLen) hel
  have hlen:((List.range len).map G).length=len:=by simp
  have hg:∀ i,i < len → trmAt ((List.range len).map G) i=G i:=fun i hil=>by
   unfold trmAt
   simp [List.getD,hil]
  refine ⟨_,(List.range len).map G,hcs,?_,fun i hil=>?_⟩
  ·unfold Trms
   rw [hlen]
   refine ⟨hm,A,cap,rfl,hlc,fun _=>⟨b,off,hA,Nat.zero_le _,hb,fun i hi=>?_⟩⟩
   have hq:i / 4 < len:=by omega
   obtain ⟨g0,g1,g2,g3,_,_⟩:=hG (i / 4) hq
   rw [hfs] at g0 g1 g2 g3
   unfold trmCell
   rw [hg _ hq]
   by_cases e0:i % 4=0
   ·rw [if_pos e0,← g0];congr 3;omega
   by_cases e1:i % 4=1
   ·rw [if_neg e0,if_pos e1,← g1];congr 3;omega
   by_cases e2:i % 4=2
   ·rw [if_neg e0,if_neg e1,if_pos e2,← g2];congr 3;omega
   rw [if_neg e0,if_neg e1,if_neg e2,← g3];congr 3;omega
  ·rw [hlen] at hil
   rw [hg i hil]
   obtain ⟨_,_,_,_,s0,s1⟩:=hG i hil
   exact ⟨s0,s1⟩
 ·obtain rfl:len=0:=by omega
  exact ⟨_,[],hcs,⟨Nat.zero_le _,A,cap,rfl,Nat.zero_le _,fun hn=>absurd hn (by simp)⟩,fun i hi=>absurd hi (by simp)⟩
theorem open_wys {t e:TypeId} {fs:Array Field} {fuel:Nat} {cs:List Value} {x:DataW H × List MemPlace} (ht:P.underlying t=some (.slice e)) (he:P.underlying e=some (.struct fs))
  (hone:oneCellFields P fs=true) (hC:P.cellsOf e=3) (hfs:fs.size=3) (h0:∀ f,fs[0]? = some f → P.underlying f.type=some (.int .i64)) (h1:∀ f,fs[1]? = some f → P.underlying f.type=some (.int .i64)) (h2:∀ f,fs[2]? = some f → P.underlying f.type=some (.int .i64)) (h:DataW.trod enc P w base spare held fuel t cs=some x) :
  ∃ v l,cs=[v]∧Wys w 0 w.heap.size v l:=by
 obtain ⟨A,len,cap,hcs,hlc,hm,hr⟩:=open_cells ht he hone (by omega) (by omega) h
 by_cases hp0:0 < len
 ·obtain ⟨b,off,hA,hb,hc⟩:=hr hp0
  have hel:∀ q,q < len → ∃ s:Wy,w.cell? ⟨b,off+(q * fs.size+0),none⟩=some (.int .i64 s.a)∧w.cell? ⟨b,off+(q * fs.size+1),none⟩=some (.int .i64 s.b)∧w.cell? ⟨b,off+(q * fs.size+2),none⟩=some (.int .i64 s.d):=by
   intro q hq
   obtain ⟨f0,hf0⟩:∃ f,fs[0]? = some f:=⟨fs[0],Array.getElem?_eq_getElem (by omega)⟩
   obtain ⟨c0,n0,y0,hc0,ht0⟩:=hc q 0 f0 hq hf0
   obtain ⟨z0,e0,_,_⟩:=DataW.trod_int (h0 f0 hf0) ht0
   injection e0 with e0
   subst e0
   obtain ⟨f1,hf1⟩:∃ f,fs[1]? = some f:=⟨fs[1],Array.getElem?_eq_getElem (by omega)⟩
   obtain ⟨c1,n1,y1,hc1,ht1⟩:=hc q 1 f1 hq hf1
   obtain ⟨z1,e1,_,_⟩:=DataW.trod_int (h1 f1 hf1) ht1
   injection e1 with e1
   subst e1
   obtain ⟨f2,hf2⟩:∃ f,fs[2]? = some f:=⟨fs[2],Array.getElem?_eq_getElem (by omega)⟩
   obtain ⟨c2,n2,y2,hc2,ht2⟩:=hc q 2 f2 hq hf2
   obtain ⟨z2,e2,_,_⟩:=DataW.trod_int (h2 f2 hf2) ht2
   injection e2 with e2
   subst e2
   exact ⟨⟨z0,z1,z2⟩,hc0,hc1,hc2⟩
  haveI:Inhabited Wy:=⟨⟨0,0,0⟩⟩
  obtain ⟨G,hG⟩:=choose_lt (p:=fun q (s:Wy)=>w.cell? ⟨b,off+(q * fs.size+0),none⟩=some (.int .i64 s.a)∧w.cell? ⟨b,off+(q * fs.size+1),none⟩=some (.int .i64 s.b)∧w.cell? ⟨b,off+(q * fs.size+2),none⟩=some (.int .i64 s.d)) hel
  have hlen:((List.range len).map G).length=len:=by simp
  have hg:∀ i,i < len → wyAt ((List.range len).map G) i=G i:=fun i hil=>by
   unfold wyAt
   simp [List.getD,hil]
  refine ⟨_,(List.range len).map G,hcs,?_⟩
  ·unfold Wys
   rw [hlen]
   refine ⟨hm,A,cap,rfl,hlc,fun _=>⟨b,off,hA,Nat.zero_le _,hb,fun i hi=>?_⟩⟩
   have hq:i / 3 < len:=by omega
   obtain ⟨g0,g1,g2⟩:=hG (i / 3) hq
   rw [hfs] at g0 g1 g2
   unfold wyCell
   rw [hg _ hq]
   by_cases e0:i % 3=0
   ·rw [if_pos e0,← g0];congr 3;omega
   by_cases e1:i % 3=1
   ·rw [if_neg e0,if_pos e1,← g1];congr 3;omega
   rw [if_neg e0,if_neg e1,← g2];congr 3;omega
 ·obtain rfl:len=0:=by omega
  exact ⟨_,[],hcs,⟨Nat.zero_le _,A,cap,rfl,Nat.zero_le _,fun hn=>absurd hn (by simp)⟩⟩
theorem open_clss {t e:TypeId} {fs:Array Field} {fuel:Nat} {cs:List Value} {x:DataW H × List MemPlace} (ht:P.underlying t=some (.slice e)) (he:P.underlying e=some (.struct fs))
  (hone:oneCellFields P fs=true) (hC:P.cellsOf e=8) (hfs:fs.size=8) (h0:∀ f,fs[0]? = some f → P.underlying f.type=some (.int .i64)) (h1:∀ f,fs[1]? = some f → P.underlying f.type=some (.int .i64)) (h2:∀ f,fs[2]? = some f → P.underlying f.type=some (.int .i64)) (h3:∀ f,fs[3]? = some f → P.underlying f.type=some (.int .i64)) (h4:∀ f,fs[4]? = some f → P.underlying f.type=some (.int .i64)) (h5:∀ f,fs[5]? = some f → P.underlying f.type=some (.int .i64)) (h6:∀ f,fs[6]? = some f → P.underlying f.type=some (.int .i64)) (h7:∀ f,fs[7]? = some f → P.underlying f.type=some .string) (h:DataW.trod enc P w base spare held fuel t cs=some x) :
  ∃ v l,cs=[v]∧Clss w 0 w.heap.size v l∧∀ i,i < l.length → (clsAt l i).kg.size ≤ maxLen:=by
 obtain ⟨A,len,cap,hcs,hlc,hm,hr⟩:=open_cells ht he hone (by omega) (by omega) h
 by_cases hp0:0 < len
 ·obtain ⟨b,off,hA,hb,hc⟩:=hr hp0
  have hel:∀ q,q < len → ∃ s:Cls,w.cell? ⟨b,off+(q * fs.size+0),none⟩=some (.int .i64 s.ki)∧w.cell? ⟨b,off+(q * fs.size+1),none⟩=some (.int .i64 s.nu)∧w.cell? ⟨b,off+(q * fs.size+2),none⟩=some (.int .i64 s.mo)∧w.cell? ⟨b,off+(q * fs.size+3),none⟩=some (.int .i64 s.fe)∧w.cell? ⟨b,off+(q * fs.size+4),none⟩=some (.int .i64 s.re)∧w.cell? ⟨b,off+(q * fs.size+5),none⟩=some (.int .i64 s.wd)∧w.cell? ⟨b,off+(q * fs.size+6),none⟩=some (.int .i64 s.st)∧w.cell? ⟨b,off+(q * fs.size+7),none⟩=some (.string s.kg)∧s.kg.size ≤ maxLen:=by
   intro q hq
   obtain ⟨f0,hf0⟩:∃ f,fs[0]? = some f:=⟨fs[0],Array.getElem?_eq_getElem (by omega)⟩
   obtain ⟨c0,n0,y0,hc0,ht0⟩:=hc q 0 f0 hq hf0
   obtain ⟨z0,e0,_,_⟩:=DataW.trod_int (h0 f0 hf0) ht0
   injection e0 with e0
   subst e0
   obtain ⟨f1,hf1⟩:∃ f,fs[1]? = some f:=⟨fs[1],Array.getElem?_eq_getElem (by omega)⟩
   obtain ⟨c1,n1,y1,hc1,ht1⟩:=hc q 1 f1 hq hf1
   obtain ⟨z1,e1,_,_⟩:=DataW.trod_int (h1 f1 hf1) ht1
   injection e1 with e1
   subst e1
   obtain ⟨f2,hf2⟩:∃ f,fs[2]? = some f:=⟨fs[2],Array.getElem?_eq_getElem (by omega)⟩
   obtain ⟨c2,n2,y2,hc2,ht2⟩:=hc q 2 f2 hq hf2
   obtain ⟨z2,e2,_,_⟩:=DataW.trod_int (h2 f2 hf2) ht2
   injection e2 with e2
   subst e2
   obtain ⟨f3,hf3⟩:∃ f,fs[3]? = some f:=⟨fs[3],Array.getElem?_eq_getElem (by omega)⟩
   obtain ⟨c3,n3,y3,hc3,ht3⟩:=hc q 3 f3 hq hf3
   obtain ⟨z3,e3,_,_⟩:=DataW.trod_int (h3 f3 hf3) ht3
   injection e3 with e3
   subst e3
   obtain ⟨f4,hf4⟩:∃ f,fs[4]? = some f:=⟨fs[4],Array.getElem?_eq_getElem (by omega)⟩
   obtain ⟨c4,n4,y4,hc4,ht4⟩:=hc q 4 f4 hq hf4
   obtain ⟨z4,e4,_,_⟩:=DataW.trod_int (h4 f4 hf4) ht4
   injection e4 with e4
   subst e4
   obtain ⟨f5,hf5⟩:∃ f,fs[5]? = some f:=⟨fs[5],Array.getElem?_eq_getElem (by omega)⟩
   obtain ⟨c5,n5,y5,hc5,ht5⟩:=hc q 5 f5 hq hf5
   obtain ⟨z5,e5,_,_⟩:=DataW.trod_int (h5 f5 hf5) ht5
   injection e5 with e5
   subst e5
   obtain ⟨f6,hf6⟩:∃ f,fs[6]? = some f:=⟨fs[6],Array.getElem?_eq_getElem (by omega)⟩
   obtain ⟨c6,n6,y6,hc6,ht6⟩:=hc q 6 f6 hq hf6
   obtain ⟨z6,e6,_,_⟩:=DataW.trod_int (h6 f6 hf6) ht6
   injection e6 with e6
   subst e6
   obtain ⟨f7,hf7⟩:∃ f,fs[7]? = some f:=⟨fs[7],Array.getElem?_eq_getElem (by omega)⟩
   obtain ⟨c7,n7,y7,hc7,ht7⟩:=hc q 7 f7 hq hf7
   obtain ⟨z7,e7,_,g7⟩:=DataW.trod_string (h7 f7 hf7) ht7
   injection e7 with e7
   subst e7
   exact ⟨⟨z0,z1,z2,z3,z4,z5,z6,z7⟩,hc0,hc1,hc2,hc3,hc4,hc5,hc6,hc7,g7⟩
  haveI:Inhabited Cls:=⟨⟨0,0,0,0,0,0,0,⟨#[]⟩⟩⟩
  obtain ⟨G,hG⟩:=choose_lt (p:=fun q (s:Cls)=>w.cell? ⟨b,off+(q * fs.size+0),none⟩=some (.int .i64 s.ki)∧w.cell? ⟨b,off+(q * fs.size+1),none⟩=some (.int .i64 s.nu)∧w.cell? ⟨b,off+(q * fs.size+2),none⟩=some (.int .i64 s.mo)∧w.cell? ⟨b,off+(q * fs.size+3),none⟩=some (.int .i64 s.fe)∧w.cell? ⟨b,off+(q * fs.size+4),none⟩=some (.int .i64 s.re)∧w.cell? ⟨b,off+(q * fs.size+5),none⟩=some (.int .i64 s.wd)∧w.cell? ⟨b,off+(q * fs.size+6),none⟩=some (.int .i64 s.st)∧w.cell? ⟨b,off+(q * fs.size+7),none⟩=some (.string s.kg)∧s.kg.size ≤ maxLen) hel
  have hlen:((List.range len).map G).length=len:=by simp
  have hg:∀ i,i < len → clsAt ((List.range len).map G) i=G i:=fun i hil=>by
   unfold clsAt
   simp [List.getD,hil]
  refine ⟨_,(List.range len).map G,hcs,?_,fun i hil=>?_⟩
  ·unfold Clss
   rw [hlen]
   refine ⟨hm,A,cap,rfl,hlc,fun _=>⟨b,off,hA,Nat.zero_le _,hb,fun i hi=>?_⟩⟩
   have hq:i / 8 < len:=by omega
   obtain ⟨g0,g1,g2,g3,g4,g5,g6,g7,_⟩:=hG (i / 8) hq
   rw [hfs] at g0 g1 g2 g3 g4 g5 g6 g7
   unfold clsCell
   rw [hg _ hq]
   by_cases e0:i % 8=0
   ·rw [if_pos e0,← g0];congr 3;omega
   by_cases e1:i % 8=1
   ·rw [if_neg e0,if_pos e1,← g1];congr 3;omega
   by_cases e2:i % 8=2
   ·rw [if_neg e0,if_neg e1,if_pos e2,← g2];congr 3;omega
   by_cases e3:i % 8=3
   ·rw [if_neg e0,if_neg e1,if_neg e2,if_pos e3,← g3];congr 3;omega
   by_cases e4:i % 8=4
   ·rw [if_neg e0,if_neg e1,if_neg e2,if_neg e3,if_pos e4,← g4];congr 3;omega
   by_cases e5:i % 8=5
   ·rw [if_neg e0,if_neg e1,if_neg e2,if_neg e3,if_neg e4,if_pos e5,← g5];congr 3;omega
   by_cases e6:i % 8=6
   ·rw [if_neg e0,if_neg e1,if_neg e2,if_neg e3,if_neg e4,if_neg e5,if_pos e6,← g6];congr 3;omega
   rw [if_neg e0,if_neg e1,if_neg e2,if_neg e3,if_neg e4,if_neg e5,if_neg e6,← g7];congr 3;omega
  ·rw [hlen] at hil
   rw [hg i hil]
   obtain ⟨_,_,_,_,_,_,_,_,s0⟩:=hG i hil
   exact s0
 ·obtain rfl:len=0:=by omega
  exact ⟨_,[],hcs,⟨Nat.zero_le _,A,cap,rfl,Nat.zero_le _,fun hn=>absurd hn (by simp)⟩,fun i hi=>absurd hi (by simp)⟩
theorem open_wits {t e:TypeId} {fs:Array Field} {fuel:Nat} {cs:List Value} {x:DataW H × List MemPlace} (ht:P.underlying t=some (.slice e)) (he:P.underlying e=some (.struct fs))
  (hone:oneCellFields P fs=true) (hC:P.cellsOf e=2) (hfs:fs.size=2) (h0:∀ f,fs[0]? = some f → P.underlying f.type=some .string) (h1:∀ f,fs[1]? = some f → P.underlying f.type=some .string) (h:DataW.trod enc P w base spare held fuel t cs=some x) :
  ∃ v l,cs=[v]∧Wits w 0 w.heap.size v l∧∀ i,i < l.length → (witAt l i).pe.size ≤ maxLen∧(witAt l i).of.size ≤ maxLen:=by
 obtain ⟨A,len,cap,hcs,hlc,hm,hr⟩:=open_cells ht he hone (by omega) (by omega) h
 by_cases hp0:0 < len
 ·obtain ⟨b,off,hA,hb,hc⟩:=hr hp0
  have hel:∀ q,q < len → ∃ s:Wit,w.cell? ⟨b,off+(q * fs.size+0),none⟩=some (.string s.pe)∧w.cell? ⟨b,off+(q * fs.size+1),none⟩=some (.string s.of)∧s.pe.size ≤ maxLen∧s.of.size ≤ maxLen:=by
   intro q hq
   obtain ⟨f0,hf0⟩:∃ f,fs[0]? = some f:=⟨fs[0],Array.getElem?_eq_getElem (by omega)⟩
   obtain ⟨c0,n0,y0,hc0,ht0⟩:=hc q 0 f0 hq hf0
   obtain ⟨z0,e0,_,g0⟩:=DataW.trod_string (h0 f0 hf0) ht0
   injection e0 with e0
   subst e0
   obtain ⟨f1,hf1⟩:∃ f,fs[1]? = some f:=⟨fs[1],Array.getElem?_eq_getElem (by omega)⟩
   obtain ⟨c1,n1,y1,hc1,ht1⟩:=hc q 1 f1 hq hf1
   obtain ⟨z1,e1,_,g1⟩:=DataW.trod_string (h1 f1 hf1) ht1
   injection e1 with e1
   subst e1
   exact ⟨⟨z0,z1⟩,hc0,hc1,g0,g1⟩
  haveI:Inhabited Wit:=⟨⟨⟨#[]⟩,⟨#[]⟩⟩⟩
  obtain ⟨G,hG⟩:=choose_lt (p:=fun q (s:Wit)=>w.cell? ⟨b,off+(q * fs.size+0),none⟩=some (.string s.pe)∧w.cell? ⟨b,off+(q * fs.size+1),none⟩=some (.string s.of)∧s.pe.size ≤ maxLen∧s.of.size ≤ maxLen) hel
  have hlen:((List.range len).map G).length=len:=by simp
  have hg:∀ i,i < len → witAt ((List.range len).map G) i=G i:=fun i hil=>by
   unfold witAt
   simp [List.getD,hil]
  refine ⟨_,(List.range len).map G,hcs,?_,fun i hil=>?_⟩
  ·unfold Wits
   rw [hlen]
   refine ⟨hm,A,cap,rfl,hlc,fun _=>⟨b,off,hA,Nat.zero_le _,hb,fun i hi=>?_⟩⟩
   have hq:i / 2 < len:=by omega
   obtain ⟨g0,g1,_,_⟩:=hG (i / 2) hq
   rw [hfs] at g0 g1
   unfold witCell
   rw [hg _ hq]
   by_cases e0:i % 2=0
   ·rw [if_pos e0,← g0];congr 3;omega
   rw [if_neg e0,← g1];congr 3;omega
  ·rw [hlen] at hil
   rw [hg i hil]
   obtain ⟨_,_,s0,s1⟩:=hG i hil
   exact ⟨s0,s1⟩
 ·obtain rfl:len=0:=by omega
  exact ⟨_,[],hcs,⟨Nat.zero_le _,A,cap,rfl,Nat.zero_le _,fun hn=>absurd hn (by simp)⟩,fun i hi=>absurd hi (by simp)⟩
end
set_option maxRecDepth 100000 in
theorem open_MarkS {H:Type} {enc:TypeId × Value → H} {w:World} {base:Nat} {spare:Nat → Bool} {held:Bool} {fuel:Nat} {cs:List Value} {x:DataW H × List MemPlace} (h:DataW.trod enc Tryz.prog w base spare held fuel 34 cs=some x) :
  ∃ v l,cs=[v]∧Nsps w 0 w.heap.size v l∧∀ i,i < l.length → (nspAt l i).nm.size ≤ maxLen :=
 open_nsps (t:=34) (e:=147) Tryz.underlying34 Tryz.underlying147 (by kernel_rfl) (by kernel_rfl) (by simp) (fun f hf=>by simp at hf;subst hf;exact Tryz.underlying9) (fun f hf=>by simp at hf;subst hf;exact Tryz.underlying2) (fun f hf=>by simp at hf;subst hf;exact Tryz.underlying2) h
set_option maxRecDepth 100000 in
theorem open_ReignS {H:Type} {enc:TypeId × Value → H} {w:World} {base:Nat} {spare:Nat → Bool} {held:Bool} {fuel:Nat} {cs:List Value} {x:DataW H × List MemPlace} (h:DataW.trod enc Tryz.prog w base spare held fuel 22 cs=some x) :
  ∃ v l,cs=[v]∧Nsps w 0 w.heap.size v l∧∀ i,i < l.length → (nspAt l i).nm.size ≤ maxLen :=
 open_nsps (t:=22) (e:=207) Tryz.underlying22 Tryz.underlying207 (by kernel_rfl) (by kernel_rfl) (by simp) (fun f hf=>by simp at hf;subst hf;exact Tryz.underlying9) (fun f hf=>by simp at hf;subst hf;exact Tryz.underlying2) (fun f hf=>by simp at hf;subst hf;exact Tryz.underlying2) h
set_option maxRecDepth 100000 in
theorem open_PersonS {H:Type} {enc:TypeId × Value → H} {w:World} {base:Nat} {spare:Nat → Bool} {held:Bool} {fuel:Nat} {cs:List Value} {x:DataW H × List MemPlace} (h:DataW.trod enc Tryz.prog w base spare held fuel 25 cs=some x) :
  ∃ v l,cs=[v]∧Nsps w 0 w.heap.size v l∧∀ i,i < l.length → (nspAt l i).nm.size ≤ maxLen :=
 open_nsps (t:=25) (e:=209) Tryz.underlying25 Tryz.underlying209 (by kernel_rfl) (by kernel_rfl) (by simp) (fun f hf=>by simp at hf;subst hf;exact Tryz.underlying9) (fun f hf=>by simp at hf;subst hf;exact Tryz.underlying2) (fun f hf=>by simp at hf;subst hf;exact Tryz.underlying2) h
set_option maxRecDepth 100000 in
theorem open_TermS {H:Type} {enc:TypeId × Value → H} {w:World} {base:Nat} {spare:Nat → Bool} {held:Bool} {fuel:Nat} {cs:List Value} {x:DataW H × List MemPlace} (h:DataW.trod enc Tryz.prog w base spare held fuel 26 cs=some x) :
  ∃ v l,cs=[v]∧Trms w 0 w.heap.size v l∧∀ i,i < l.length → (trmAt l i).of.size ≤ maxLen∧(trmAt l i).pe.size ≤ maxLen :=
 open_trms (t:=26) (e:=212) Tryz.underlying26 Tryz.underlying212 (by kernel_rfl) (by kernel_rfl) (by simp) (fun f hf=>by simp at hf;subst hf;exact Tryz.underlying9) (fun f hf=>by simp at hf;subst hf;exact Tryz.underlying9) (fun f hf=>by simp at hf;subst hf;exact Tryz.underlying2) (fun f hf=>by simp at hf;subst hf;exact Tryz.underlying2) h
set_option maxRecDepth 100000 in
theorem open_WayS {H:Type} {enc:TypeId × Value → H} {w:World} {base:Nat} {spare:Nat → Bool} {held:Bool} {fuel:Nat} {cs:List Value} {x:DataW H × List MemPlace} (h:DataW.trod enc Tryz.prog w base spare held fuel 30 cs=some x) :
  ∃ v l,cs=[v]∧Wys w 0 w.heap.size v l :=
 open_wys (t:=30) (e:=233) Tryz.underlying30 Tryz.underlying233 (by kernel_rfl) (by kernel_rfl) (by simp) (fun f hf=>by simp at hf;subst hf;exact Tryz.underlying2) (fun f hf=>by simp at hf;subst hf;exact Tryz.underlying2) (fun f hf=>by simp at hf;subst hf;exact Tryz.underlying2) h
set_option maxRecDepth 100000 in
theorem open_StayS {H:Type} {enc:TypeId × Value → H} {w:World} {base:Nat} {spare:Nat → Bool} {held:Bool} {fuel:Nat} {cs:List Value} {x:DataW H × List MemPlace} (h:DataW.trod enc Tryz.prog w base spare held fuel 33 cs=some x) :
  ∃ v l,cs=[v]∧Wys w 0 w.heap.size v l :=
 open_wys (t:=33) (e:=164) Tryz.underlying33 Tryz.underlying164 (by kernel_rfl) (by kernel_rfl) (by simp) (fun f hf=>by simp at hf;subst hf;exact Tryz.underlying2) (fun f hf=>by simp at hf;subst hf;exact Tryz.underlying2) (fun f hf=>by simp at hf;subst hf;exact Tryz.underlying2) h
set_option maxRecDepth 100000 in
theorem open_ClauseS {H:Type} {enc:TypeId × Value → H} {w:World} {base:Nat} {spare:Nat → Bool} {held:Bool} {fuel:Nat} {cs:List Value} {x:DataW H × List MemPlace} (h:DataW.trod enc Tryz.prog w base spare held fuel 90 cs=some x) :
  ∃ v l,cs=[v]∧Clss w 0 w.heap.size v l∧∀ i,i < l.length → (clsAt l i).kg.size ≤ maxLen :=
 open_clss (t:=90) (e:=214) Tryz.underlying90 Tryz.underlying214 (by kernel_rfl) (by kernel_rfl) (by simp) (fun f hf=>by simp at hf;subst hf;exact Tryz.underlying2) (fun f hf=>by simp at hf;subst hf;exact Tryz.underlying2) (fun f hf=>by simp at hf;subst hf;exact Tryz.underlying2) (fun f hf=>by simp at hf;subst hf;exact Tryz.underlying2) (fun f hf=>by simp at hf;subst hf;exact Tryz.underlying2) (fun f hf=>by simp at hf;subst hf;exact Tryz.underlying2) (fun f hf=>by simp at hf;subst hf;exact Tryz.underlying2) (fun f hf=>by simp at hf;subst hf;exact Tryz.underlying9) h
set_option maxRecDepth 100000 in
theorem open_WitnessS {H:Type} {enc:TypeId × Value → H} {w:World} {base:Nat} {spare:Nat → Bool} {held:Bool} {fuel:Nat} {cs:List Value} {x:DataW H × List MemPlace} (h:DataW.trod enc Tryz.prog w base spare held fuel 91 cs=some x) :
  ∃ v l,cs=[v]∧Wits w 0 w.heap.size v l∧∀ i,i < l.length → (witAt l i).pe.size ≤ maxLen∧(witAt l i).of.size ≤ maxLen :=
 open_wits (t:=91) (e:=216) Tryz.underlying91 Tryz.underlying216 (by kernel_rfl) (by kernel_rfl) (by simp) (fun f hf=>by simp at hf;subst hf;exact Tryz.underlying9) (fun f hf=>by simp at hf;subst hf;exact Tryz.underlying9) h
end Go.Proofs.YtechbeegbhlppaaGreatDoor
