/- Texts merged (a claim holds at most sixty files): Bf, Up, Bo, Ch, Nr. -/
import Derived.Test.YtechbeegbhlppaaGreatDoorS2Lib
namespace Go.Proofs.YtechbeegbhlppaaGreatDoor
set_option linter.unusedVariables false
set_option linter.unusedSimpArgs false
def Feas (C:Nat → Nat → Int → Prop) (p:Nat → Int):Prop:=∀ u v c,C u v c → p v ≤ p u+c
structure Rounds (n:Nat) (C:Nat → Nat → Int → Prop) (x:Nat → Nat → Int):Prop where
 dom:∀ u v c,C u v c → u < n∧v < n
 le:∀ r i,i < n → x (r+1) i ≤ x r i
 step:∀ r u v c,C u v c → x (r+1) v ≤ x r u+c
 keep:∀ r p,Feas C p → (∀ i,i < n → p i ≤ x r i) → ∀ i,i < n → p i ≤ x (r+1) i
section
variable {n:Nat} {C:Nat → Nat → Int → Prop} {x:Nat → Nat → Int} (H:Rounds n C x)
include H
end
section
variable {ls hs:List Lk} {ch:List Sp}
end
theorem spAt_mem {l:List Sp} {i:Nat} (h:i < l.length):spAt l i ∈ l:=by
 unfold spAt
 rw [List.getD_eq_getElem?_getD,List.getElem?_eq_getElem h]
 exact List.getElem_mem h
theorem mem_spAt {l:List Sp} {x:Sp} (h:x ∈ l):∃ i,i < l.length∧spAt l i=x:=by
 obtain ⟨i,hi,e⟩:=List.getElem_of_mem h
 refine ⟨i,hi,?_⟩
 unfold spAt
 rw [List.getD_eq_getElem?_getD,List.getElem?_eq_getElem hi]
 exact e
theorem setAt_put (l:List (List Sp)) (v:Nat) (x:List Sp) (i:Nat):setAt (l.set v x) i=if i=v∧i < l.length then x else setAt l i:=by
 unfold setAt
 rw [List.getD_eq_getElem?_getD,List.getD_eq_getElem?_getD,List.getElem?_set]
 by_cases h:v=i
 ·subst h
  by_cases h2:v < l.length
  ·simp [h2]
  ·simp [h2,List.getElem?_eq_none (Nat.le_of_not_lt h2)]
 ·rw [if_neg h,if_neg (fun hh=>h hh.1.symm)]
structure NetD (n:Net):Prop where
 ns:n.sets.length ≤ 8
 nl:n.links.length ≤ 20
 sets:∀ i,i < n.sets.length → SetD (setAt n.sets i)
 lks:∀ i,i < n.links.length → LkOk (lkAt n.links i) n.sets.length
theorem NetOk.d {n:Net} (h:NetOk n):NetD n:=⟨h.1,h.2.1,fun i hi=>(h.2.2.1 i hi).d,h.2.2.2⟩
theorem NetD.put {n:Net} (h:NetD n) (v:Nat) {x:List Sp} (hx:SetD x):NetD ⟨n.sets.set v x,n.links⟩:=by
 refine ⟨by simpa using h.ns,h.nl,fun i hi=>?_,fun i hi=>by simpa using h.lks i hi⟩
 have hi' : i < n.sets.length:=by simpa using hi
 show SetD (setAt (n.sets.set v x) i)
 rw [setAt_put]
 split
 ·exact hx
 ·exact h.sets i hi'
theorem Nf.lt {l:List Sp} (h:Nf l) {i:Nat}:∀ k,i < k → k < l.length → (spAt l i).to+2 ≤ (spAt l k).fr
 | 0,h1,_=>absurd h1 (by omega)
 | k+1,h1,h2=>by
  have h3:=(h (k+1) h2).2 (by omega)
  rw [show k+1 - 1=k by omega] at h3
  by_cases e:i=k
  ·subst e;exact h3
  ·have h4:=Nf.lt (i:=i) h k (by omega) (by omega)
   have h5:=(h k (by omega)).1
   omega
end Go.Proofs.YtechbeegbhlppaaGreatDoor
