/- Texts merged (a claim holds at most sixty files): Ow, Od. -/
import Derived.Test.YtechbeegbhlppaaGreatDoorS2Jo
import Derived.Test.YtechbeegbhlppaaGreatDoorS2Ko
namespace Go.Proofs.YtechbeegbhlppaaGreatDoor
set_option linter.unusedVariables false
set_option linter.unusedSimpArgs false
open Go.RowKit Go.ChangeShapes Go.WideShapes Go.Deep Go.Joins
section
variable {P:Program} {H:Type} {enc:TypeId × Value → H} {w:World} {base:Nat} {spare:Nat → Bool} {held:Bool}
theorem trod_part {t:TypeId} {fs:Array Field} {fuel:Nat} {cs:List Value} {x:DataW H × List MemPlace} (ht:P.underlying t=some (.struct fs)) (h:DataW.trod enc P w base spare held fuel t cs=some x) (i:Nat) (f:Field) (hf:fs[i]? = some f) (n:Nat) (hn:P.cellsOf f.type=n) :
  ∃ m y,DataW.trod enc P w base spare held m f.type ((cs.drop f.offset).take n)=some y:=by
 obtain ⟨xs,m,_,_,_,hlen,hF⟩:=DataW.trod_struct ht h
 have hi:i < fs.size:=by
  rcases Nat.lt_or_ge i fs.size with h | h
  ·exact h
  ·rw [Array.getElem?_eq_none h] at hf;cases hf
 have:=hF i f hf
 rw [hn,List.getElem?_eq_getElem (by omega)] at this
 exact ⟨m,_,this⟩
end
set_option maxRecDepth 100000 in
theorem open_world_arg {H:Type} {enc:TypeId × Value → H} {w:World} {base b0:Nat} {spare:Nat → Bool} {held:Bool} {r:Reach} {v:Value} {d:DataW H} {p:List MemPlace}
  (hv:Value.okWide Tryz.prog w r b0 36 v) (h:DataW.Trod enc Tryz.prog w base spare held 36 v d p) :
  ∃ v0 v3 v4 v5 v6 v7 v8 v9 W,v=.agg #[v0,.int .i64 W.ch.fr,.int .i64 W.ch.to,v3,v4,v5,v6,v7,v8,v9]∧WrlAt w 0 w.heap.size v0 v3 v4 v5 v6 v7 v8 v9 W∧WMx W:=by
 obtain ⟨cs,rfl,hcs⟩:=okWide_struct Tryz.underlying36 hv
 have hcs' : cs.size=10:=hcs.trans (by kernel_rfl)
 obtain ⟨c0,c1,c2,c3,c4,c5,c6,c7,c8,c9,rfl⟩:∃ c0 c1 c2 c3 c4 c5 c6 c7 c8 c9,cs=#[c0,c1,c2,c3,c4,c5,c6,c7,c8,c9]:=by
  rcases cs with ⟨l⟩
  match l,hcs' with
  | [c0,c1,c2,c3,c4,c5,c6,c7,c8,c9],_=>exact ⟨c0,c1,c2,c3,c4,c5,c6,c7,c8,c9,rfl⟩
 obtain ⟨fuel,hf⟩:=h
 have hf' : DataW.trod enc Tryz.prog w base spare held fuel 36 [c0,c1,c2,c3,c4,c5,c6,c7,c8,c9]=some (d,p):=hf
 obtain ⟨n0,y0,h0⟩:=trod_part Tryz.underlying36 hf' 0 _ rfl 3 (by kernel_rfl)
 obtain ⟨n1,y1,h1⟩:=trod_part Tryz.underlying36 hf' 1 _ rfl 2 (by kernel_rfl)
 obtain ⟨n2,y2,h2⟩:=trod_part Tryz.underlying36 hf' 2 _ rfl 2 (by kernel_rfl)
 obtain ⟨n3,y3,h3⟩:=trod_part Tryz.underlying36 hf' 3 _ rfl 1 (by kernel_rfl)
 obtain ⟨n4,y4,h4⟩:=trod_part Tryz.underlying36 hf' 4 _ rfl 1 (by kernel_rfl)
 obtain ⟨n5,y5,h5⟩:=trod_part Tryz.underlying36 hf' 5 _ rfl 1 (by kernel_rfl)
 have h0' : DataW.trod enc Tryz.prog w base spare held n0 24 [c0,c1,c2]=some y0:=h0
 have h1' : DataW.trod enc Tryz.prog w base spare held n1 28 [c3,c4]=some y1:=h1
 have h2' : DataW.trod enc Tryz.prog w base spare held n2 32 [c5,c6]=some y2:=h2
 have h3' : DataW.trod enc Tryz.prog w base spare held n3 33 [c7]=some y3:=h3
 have h4' : DataW.trod enc Tryz.prog w base spare held n4 34 [c8]=some y4:=h4
 have h5' : DataW.trod enc Tryz.prog w base spare held n5 34 [c9]=some y5:=h5
 obtain ⟨m0,z0,k0⟩:=trod_part Tryz.underlying24 h0' 0 _ rfl 1 (by kernel_rfl)
 obtain ⟨m1,z1,k1⟩:=trod_part Tryz.underlying24 h0' 1 _ rfl 1 (by kernel_rfl)
 obtain ⟨m2,z2,k2⟩:=trod_part Tryz.underlying24 h0' 2 _ rfl 1 (by kernel_rfl)
 obtain ⟨m3,z3,k3⟩:=trod_part Tryz.underlying28 h1' 0 _ rfl 1 (by kernel_rfl)
 obtain ⟨m4,z4,k4⟩:=trod_part Tryz.underlying28 h1' 1 _ rfl 1 (by kernel_rfl)
 obtain ⟨m5,z5,k5⟩:=trod_part Tryz.underlying32 h2' 0 _ rfl 1 (by kernel_rfl)
 obtain ⟨m6,z6,k6⟩:=trod_part Tryz.underlying32 h2' 1 _ rfl 1 (by kernel_rfl)
 obtain ⟨v0,l0,e0,g0,s0⟩:=open_ReignS (show DataW.trod enc Tryz.prog w base spare held m0 22 [c0]=some z0 from k0)
 obtain ⟨x1,e1,_,_⟩:=DataW.trod_int Tryz.underlying2 (show DataW.trod enc Tryz.prog w base spare held m1 2 [c1]=some z1 from k1)
 obtain ⟨x2,e2,_,_⟩:=DataW.trod_int Tryz.underlying2 (show DataW.trod enc Tryz.prog w base spare held m2 2 [c2]=some z2 from k2)
 obtain ⟨v3,l3,e3,g3,s3⟩:=open_PersonS (show DataW.trod enc Tryz.prog w base spare held m3 25 [c3]=some z3 from k3)
 obtain ⟨v4,l4,e4,g4,s4⟩:=open_TermS (show DataW.trod enc Tryz.prog w base spare held m4 26 [c4]=some z4 from k4)
 obtain ⟨v5,l5,e5,g5,s5⟩:=open_strs (t:=29) (e:=9) Tryz.underlying29 Tryz.underlying9 (by kernel_rfl) (show DataW.trod enc Tryz.prog w base spare held m5 29 [c5]=some z5 from k5)
 obtain ⟨v6,l6,e6,g6⟩:=open_WayS (show DataW.trod enc Tryz.prog w base spare held m6 30 [c6]=some z6 from k6)
 obtain ⟨v7,l7,e7,g7⟩:=open_StayS h3'
 obtain ⟨v8,l8,e8,g8,s8⟩:=open_MarkS h4'
 obtain ⟨v9,l9,e9,g9,s9⟩:=open_MarkS h5'
 simp only [List.cons.injEq,and_true] at e0 e1 e2 e3 e4 e5 e6 e7 e8 e9
 subst e0 e1 e2 e3 e4 e5 e6 e7 e8 e9
 refine ⟨_,_,_,_,_,_,_,_,⟨⟨l0,x1,x2⟩,⟨l3,l4⟩,⟨l5,l6⟩,l7,l8,l9⟩,rfl,⟨g0,g3,g4,g5,g6,g7,g8,g9⟩,?_⟩
 unfold maxLen at s0 s3 s4 s5 s8 s9
 exact ⟨fun i hi=>s0 i hi,fun i hi=>s3 i hi,fun i hi=>s4 i hi,fun i hi=>s5 i hi,fun i hi=>s8 i hi,fun i hi=>s9 i hi⟩
end Go.Proofs.YtechbeegbhlppaaGreatDoor
namespace Go.Proofs.YtechbeegbhlppaaGreatDoor
set_option linter.unusedVariables false
set_option linter.unusedSimpArgs false
open Go.RowKit Go.ChangeShapes Go.WideShapes Go.Deep Go.Joins
def dedCell (G:Nat → (Value × Value × Value) × Ded) (i:Nat):Value :=
 if i % 7=0 then .string (G (i / 7)).2.nm else if i % 7=1 then (G (i / 7)).1.1 else if i % 7=2 then (G (i / 7)).1.2.1 else if i % 7=3 then .string (G (i / 7)).2.pl else
 if i % 7=4 then .string (G (i / 7)).2.se else if i % 7=5 then .string (G (i / 7)).2.ha else (G (i / 7)).1.2.2
set_option maxRecDepth 100000 in
set_option maxHeartbeats 1000000 in
theorem open_deed {H:Type} {enc:TypeId × Value → H} {w:World} {base:Nat} {spare:Nat → Bool} {held:Bool} {fuel:Nat} {cs:List Value} {x:DataW H × List MemPlace} (hcl:cs.length=7) (h:DataW.trod enc Tryz.prog w base spare held fuel 93 cs=some x) :
  ∃ (vd vw vc:Value) (d:Ded),cs=[.string d.nm,vd,vw,.string d.pl,.string d.se,.string d.ha,vc]∧Clss w 0 w.heap.size vd d.dt∧Wits w 0 w.heap.size vw d.wi∧Strs w 0 w.heap.size vc d.ci∧DMx d:=by
 obtain ⟨c0,c1,c2,c3,c4,c5,c6,rfl⟩:∃ c0 c1 c2 c3 c4 c5 c6,cs=[c0,c1,c2,c3,c4,c5,c6]:=by
  match cs,hcl with
  | [c0,c1,c2,c3,c4,c5,c6],_=>exact ⟨c0,c1,c2,c3,c4,c5,c6,rfl⟩
 obtain ⟨n0,y0,k0⟩:=trod_part Tryz.underlying93 h 0 _ rfl 1 (by kernel_rfl)
 obtain ⟨n1,y1,k1⟩:=trod_part Tryz.underlying93 h 1 _ rfl 1 (by kernel_rfl)
 obtain ⟨n2,y2,k2⟩:=trod_part Tryz.underlying93 h 2 _ rfl 1 (by kernel_rfl)
 obtain ⟨n3,y3,k3⟩:=trod_part Tryz.underlying93 h 3 _ rfl 1 (by kernel_rfl)
 obtain ⟨n4,y4,k4⟩:=trod_part Tryz.underlying93 h 4 _ rfl 1 (by kernel_rfl)
 obtain ⟨n5,y5,k5⟩:=trod_part Tryz.underlying93 h 5 _ rfl 1 (by kernel_rfl)
 obtain ⟨n6,y6,k6⟩:=trod_part Tryz.underlying93 h 6 _ rfl 1 (by kernel_rfl)
 obtain ⟨z0,e0,_,s0⟩:=DataW.trod_string Tryz.underlying9 (show DataW.trod enc Tryz.prog w base spare held n0 9 [c0]=some y0 from k0)
 obtain ⟨v1,l1,e1,g1,s1⟩:=open_ClauseS (show DataW.trod enc Tryz.prog w base spare held n1 90 [c1]=some y1 from k1)
 obtain ⟨v2,l2,e2,g2,s2⟩:=open_WitnessS (show DataW.trod enc Tryz.prog w base spare held n2 91 [c2]=some y2 from k2)
 obtain ⟨z3,e3,_,s3⟩:=DataW.trod_string Tryz.underlying9 (show DataW.trod enc Tryz.prog w base spare held n3 9 [c3]=some y3 from k3)
 obtain ⟨z4,e4,_,s4⟩:=DataW.trod_string Tryz.underlying9 (show DataW.trod enc Tryz.prog w base spare held n4 9 [c4]=some y4 from k4)
 obtain ⟨z5,e5,_,s5⟩:=DataW.trod_string Tryz.underlying9 (show DataW.trod enc Tryz.prog w base spare held n5 9 [c5]=some y5 from k5)
 obtain ⟨v6,l6,e6,g6,s6⟩:=open_strs (t:=29) (e:=9) Tryz.underlying29 Tryz.underlying9 (by kernel_rfl) (show DataW.trod enc Tryz.prog w base spare held n6 29 [c6]=some y6 from k6)
 simp only [List.cons.injEq,and_true] at e0 e1 e2 e3 e4 e5 e6
 subst e0 e1 e2 e3 e4 e5 e6
 unfold maxLen at s0 s1 s2 s3 s4 s5 s6
 exact ⟨_,_,_,⟨z0,l1,l2,z3,z4,z5,l6⟩,rfl,g1,g2,g6,s0,fun i hi=>s1 i hi,fun i hi=>s2 i hi,s3,s4,s5,fun i hi=>s6 i hi⟩
set_option maxRecDepth 100000 in
set_option maxHeartbeats 1000000 in
theorem open_DeedS {H:Type} {enc:TypeId × Value → H} {w:World} {base:Nat} {spare:Nat → Bool} {held:Bool} {fuel:Nat} {cs:List Value} {x:DataW H × List MemPlace} (h:DataW.trod enc Tryz.prog w base spare held fuel 37 cs=some x) :
  ∃ v l,cs=[v]∧Deds w 0 w.heap.size v l∧DsMx l:=by
 have hC:Tryz.prog.cellsOf 93=7:=by kernel_rfl
 rcases open_slice Tryz.underlying37 h with ⟨h0,_⟩ | ⟨a,len,cap,m,n,D,Pl,hcs,hb,hl,hm,hmm,hx,hi⟩
 ·exact ⟨_,[],h0,⟨fun _=>undef,⟨Nat.zero_le _,none,0,rfl,Nat.le_refl _,fun hn=>absurd hn (by simp)⟩,fun i hi=>absurd hi (by simp)⟩,fun i hi=>absurd hi (by simp)⟩
 ·have hlm:len ≤ m:=by rw [hmm];split <;> omega
  have hel:∀ q,q < len → ∃ y:(Value × Value × Value) × Ded,(w.cell? (a.add (q * 7+0))=some (.string y.2.nm)∧w.cell? (a.add (q * 7+1))=some y.1.1∧w.cell? (a.add (q * 7+2))=some y.1.2.1∧w.cell? (a.add (q * 7+3))=some (.string y.2.pl) ∧
    w.cell? (a.add (q * 7+4))=some (.string y.2.se)∧w.cell? (a.add (q * 7+5))=some (.string y.2.ha)∧w.cell? (a.add (q * 7+6))=some y.1.2.2)∧Clss w 0 w.heap.size y.1.1 y.2.dt∧Wits w 0 w.heap.size y.1.2.1 y.2.wi∧Strs w 0 w.heap.size y.1.2.2 y.2.ci∧DMx y.2:=by
   intro q hq
   obtain ⟨cs', hc,ht'⟩:=hi q (by omega)
   obtain ⟨_,hcl,hat⟩:=World.cells?_some hc
   rw [hC] at hat hcl
   obtain ⟨vd,vw,vc,d,rfl,g1,g2,g3,g4⟩:=open_deed hcl ht'
   have hk:∀ j,j < 7 → w.cell? (a.add (q * 7+j))=[Value.string d.nm,vd,vw,Value.string d.pl,Value.string d.se,Value.string d.ha,vc][j]? := fun j hj=>by
    have:=hat j hj
    rw [Go.Deep.add_add] at this
    exact this
   exact ⟨((vd,vw,vc),d),⟨hk 0 (by omega),hk 1 (by omega),hk 2 (by omega),hk 3 (by omega),hk 4 (by omega),hk 5 (by omega),hk 6 (by omega)⟩,g1,g2,g3,g4⟩
  haveI:Inhabited ((Value × Value × Value) × Ded):=⟨((undef,undef,undef),⟨⟨#[]⟩,[],[],⟨#[]⟩,⟨#[]⟩,⟨#[]⟩,[]⟩)⟩
  obtain ⟨G,hG⟩:=choose_lt hel
  have hlen:((List.range len).map (fun i=>(G i).2)).length=len:=by simp
  have hg:∀ i,i < len → dedAt ((List.range len).map (fun i=>(G i).2)) i=(G i).2:=fun i hil=>by
   unfold dedAt
   simp [List.getD,hil]
  refine ⟨_,(List.range len).map (fun i=>(G i).2),hcs,⟨dedCell G,?_,fun i hil=>?_⟩,fun i hil=>?_⟩
  ·rw [hlen]
   refine ⟨by omega,some a,cap,rfl,hl,fun h0=>?_⟩
   have hz0:=(hG 0 h0).1.1
   have ha0:a.add (0 * 7+0)=a:=by simp [Addr.add]
   rw [ha0] at hz0
   have hsp:=spot_of_cell hz0
   have hlt:=World.block_lt_of_cell? w a hz0
   have hae:a=⟨a.block,a.off,none⟩:=by rw [← hsp]
   refine ⟨a.block,a.off,by rw [← hae],Nat.zero_le _,hlt,fun i hi=>?_⟩
   have hq:i / 7 < len:=by omega
   obtain ⟨g0,g1,g2,g3,g4,g5,g6⟩:=(hG (i / 7) hq).1
   rw [hae,Addr.add_lit] at g0 g1 g2 g3 g4 g5 g6
   unfold dedCell
   by_cases e0:i % 7=0
   ·rw [if_pos e0,← g0];congr 3;omega
   by_cases e1:i % 7=1
   ·rw [if_neg e0,if_pos e1,← g1];congr 3;omega
   by_cases e2:i % 7=2
   ·rw [if_neg e0,if_neg e1,if_pos e2,← g2];congr 3;omega
   by_cases e3:i % 7=3
   ·rw [if_neg e0,if_neg e1,if_neg e2,if_pos e3,← g3];congr 3;omega
   by_cases e4:i % 7=4
   ·rw [if_neg e0,if_neg e1,if_neg e2,if_neg e3,if_pos e4,← g4];congr 3;omega
   by_cases e5:i % 7=5
   ·rw [if_neg e0,if_neg e1,if_neg e2,if_neg e3,if_neg e4,if_pos e5,← g5];congr 3;omega
   rw [if_neg e0,if_neg e1,if_neg e2,if_neg e3,if_neg e4,if_neg e5,← g6];congr 3;omega
  ·rw [hlen] at hil
   rw [hg i hil]
   obtain ⟨_,k1,k2,k3,_⟩:=hG i hil
   have d0:∀ j,j < 7 → (i * 7+j) / 7=i:=fun j hj=>by omega
   have m0:∀ j,j < 7 → (i * 7+j) % 7=j:=fun j hj=>by omega
   have dz:i * 7 / 7=i:=by omega
   have mz:i * 7 % 7=0:=by omega
   have f1:dedCell G (i * 7+1)=(G i).1.1:=by unfold dedCell;rw [m0 1 (by omega),d0 1 (by omega)];rfl
   have f2:dedCell G (i * 7+2)=(G i).1.2.1:=by unfold dedCell;rw [m0 2 (by omega),d0 2 (by omega)];rfl
   have f6:dedCell G (i * 7+6)=(G i).1.2.2:=by unfold dedCell;rw [m0 6 (by omega),d0 6 (by omega)];rfl
   refine ⟨?_,?_,?_,?_,?_,?_,?_⟩
   ·unfold dedCell;rw [mz,dz];rfl
   ·rw [f1];exact k1
   ·rw [f2];exact k2
   ·unfold dedCell;rw [m0 3 (by omega),d0 3 (by omega)];rfl
   ·unfold dedCell;rw [m0 4 (by omega),d0 4 (by omega)];rfl
   ·unfold dedCell;rw [m0 5 (by omega),d0 5 (by omega)];rfl
   ·rw [f6];exact k3
  ·rw [hlen] at hil
   rw [hg i hil]
   exact (hG i hil).2.2.2.2
set_option maxRecDepth 100000 in
theorem open_DeedS_arg {H:Type} {enc:TypeId × Value → H} {w:World} {base b0:Nat} {spare:Nat → Bool} {held:Bool} {r:Reach} {v:Value} {d:DataW H} {p:List MemPlace}
  (hv:Value.okWide Tryz.prog w r b0 37 v) (h:DataW.Trod enc Tryz.prog w base spare held 37 v d p):∃ l,Deds w 0 w.heap.size v l∧DsMx l:=by
 obtain ⟨A,n,c,rfl⟩:=okWide_slice Tryz.underlying37 hv
 obtain ⟨fuel,hf⟩:=h
 obtain ⟨v,l,e,hl⟩:=open_DeedS hf
 simp [Value.cells] at e
 subst e
 exact ⟨l,hl⟩
end Go.Proofs.YtechbeegbhlppaaGreatDoor
