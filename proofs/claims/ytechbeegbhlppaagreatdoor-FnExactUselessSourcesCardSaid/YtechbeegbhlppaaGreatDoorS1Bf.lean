/- Texts merged (a claim holds at most sixty files): Bf, Up, Bo, Ch, Nr. -/
import Derived.Test.YtechbeegbhlppaaGreatDoorS1Lib
namespace Go.Proofs.YtechbeegbhlppaaGreatDoor
set_option linter.unusedVariables false
set_option linter.unusedSimpArgs false
def Feas (C:Nat → Nat → Int → Prop) (p:Nat → Int):Prop:=∀ u v c,C u v c → p v ≤ p u+c
structure Rounds (n:Nat) (C:Nat → Nat → Int → Prop) (x:Nat → Nat → Int):Prop where
 dom:∀ u v c,C u v c → u < n∧v < n
 le:∀ r i,i < n → x (r+1) i ≤ x r i
 step:∀ r u v c,C u v c → x (r+1) v ≤ x r u+c
 keep:∀ r p,Feas C p → (∀ i,i < n → p i ≤ x r i) → ∀ i,i < n → p i ≤ x (r+1) i
section
variable {n:Nat} {C:Nat → Nat → Int → Prop} {x:Nat → Nat → Int} (H:Rounds n C x)
include H
end
def cntB (p:Nat → Bool):Nat → Nat
 | 0=>0
 | n+1=>cntB p n+(if p n then 1 else 0)
theorem cntB_le (p:Nat → Bool):∀ n,cntB p n ≤ n
 | 0=>Nat.le_refl _
 | n+1=>by have:=cntB_le p n;unfold cntB;split <;> omega
theorem cntB_mono {p q:Nat → Bool}:∀ n,(∀ i,i < n → p i=true → q i=true) → cntB p n ≤ cntB q n
 | 0,_=>Nat.le_refl _
 | n+1,h=>by
  have h1:=cntB_mono n (fun i hi=>h i (by omega))
  have h2:=h n (by omega)
  unfold cntB
  cases hp:p n <;> cases hq:q n <;> simp_all <;> omega
theorem cntB_lt {p q:Nat → Bool}:∀ n,(∀ i,i < n → p i=true → q i=true) → (∃ i,i < n∧q i=true∧p i=false) → cntB p n < cntB q n
 | 0,_,⟨i,hi,_⟩=>absurd hi (by omega)
 | n+1,h,⟨i,hi,hq,hp⟩=>by
  by_cases e:i=n
  ·subst e
   have h1:=cntB_mono i (fun j hj=>h j (by omega))
   unfold cntB
   rw [hq,hp]
   simp
   omega
  ·have h1:=cntB_lt n (fun j hj=>h j (by omega)) ⟨i,by omega,hq,hp⟩
   have h2:=h n (by omega)
   unfold cntB
   cases hp:p n <;> cases hq:q n <;> simp_all <;> omega
section
variable {ls hs:List Lk} {ch:List Sp}
end
theorem spAt_mem {l:List Sp} {i:Nat} (h:i < l.length):spAt l i ∈ l:=by
 unfold spAt
 rw [List.getD_eq_getElem?_getD,List.getElem?_eq_getElem h]
 exact List.getElem_mem h
theorem mem_spAt {l:List Sp} {x:Sp} (h:x ∈ l):∃ i,i < l.length∧spAt l i=x:=by
 obtain ⟨i,hi,e⟩:=List.getElem_of_mem h
 refine ⟨i,hi,?_⟩
 unfold spAt
 rw [List.getD_eq_getElem?_getD,List.getElem?_eq_getElem hi]
 exact e
theorem Nf.lt {l:List Sp} (h:Nf l) {i:Nat}:∀ k,i < k → k < l.length → (spAt l i).to+2 ≤ (spAt l k).fr
 | 0,h1,_=>absurd h1 (by omega)
 | k+1,h1,h2=>by
  have h3:=(h (k+1) h2).2 (by omega)
  rw [show k+1 - 1=k by omega] at h3
  by_cases e:i=k
  ·subst e;exact h3
  ·have h4:=Nf.lt (i:=i) h k (by omega) (by omega)
   have h5:=(h k (by omega)).1
   omega
theorem cntB_none {p:Nat → Bool} {a:Nat}:∀ b,a ≤ b → (∀ i,a ≤ i → i < b → p i=false) → cntB p b=cntB p a
 | 0,h,_=>by rw [show a=0 by omega]
 | b+1,h,hp=>by
  by_cases e:a=b+1
  ·rw [e]
  ·have h1:=cntB_none b (by omega) (fun i x y=>hp i x (by omega))
   have h2:=hp b (by omega) (by omega)
   simp only [cntB,h2,h1]
   simp
theorem cntB_full {p:Nat → Bool} {a:Nat}:∀ b,a ≤ b → (∀ i,a ≤ i → i < b → p i=true) → cntB p b=cntB p a+(b - a)
 | 0,h,_=>by rw [show a=0 by omega];rfl
 | b+1,h,hp=>by
  by_cases e:a=b+1
  ·rw [e];omega
  ·have h1:=cntB_full b (by omega) (fun i x y=>hp i x (by omega))
   have h2:=hp b (by omega) (by omega)
   simp only [cntB,h2,h1,if_true]
   omega
noncomputable def hasB (l:List Sp) (d:Nat):Bool:=B (HasDay l d)
theorem hasB_true {l:List Sp} {d:Nat}:hasB l d=true ↔ HasDay l d:=by
 unfold hasB
 by_cases h:HasDay l d
 ·rw [B_true h];exact ⟨fun _=>h,fun _=>rfl⟩
 ·rw [B_false h];exact ⟨fun hh=>absurd hh (by simp),fun hh=>absurd hh h⟩
theorem hasB_false {l:List Sp} {d:Nat}:hasB l d=false ↔ ¬ HasDay l d:=by
 rw [← hasB_true]
 cases hasB l d <;> simp
theorem days_cnt {l:List Sp} (h:SetD l):∀ j,j ≤ l.length → ∀ D:Nat,(0 < j → (spAt l (j - 1)).to < D) → (j < l.length → (D:Int) ≤ (spAt l j).fr) → ((cntB (hasB l) D:Nat):Int)=daysTo l j
 | 0,_,D,_,h2=>by
  have e:cntB (hasB l) D=cntB (hasB l) 0:=cntB_none D (Nat.zero_le _) (fun i _ hi=>hasB_false.2 (fun hh=>by
   obtain ⟨k,hk,a,b⟩:=hh
   have h3:=h2 (by omega)
   by_cases e0:k=0
   ·subst e0;omega
   ·have h4:=h.1.lt k (i:=0) (by omega) hk
    have h5:=(h.1 0 (by omega)).1
    omega))
  rw [e]
  rfl
 | j+1,hj,D,h1,h2=>by
  have hjl:j < l.length:=by omega
  obtain ⟨⟨f1,f2⟩,⟨t1,t2⟩⟩:=h.2 j hjl
  have hft:=(h.1 j hjl).1
  have h1' := h1 (by omega)
  rw [show j+1 - 1=j by omega] at h1'
  have ih:=days_cnt h j (by omega) (spAt l j).fr.toNat (fun h0=>by
   have:=(h.1 j hjl).2 h0
   omega) (fun _=>by omega)
  have e1:cntB (hasB l) D=cntB (hasB l) ((spAt l j).to.toNat+1):=cntB_none D (by omega) (fun i hi1 hi2=>hasB_false.2 (fun hh=>by
   obtain ⟨k,hk,a,b⟩:=hh
   rcases Nat.lt_trichotomy k j with e | e | e
   ·have:=h.1.lt j e hjl;omega
   ·subst e;omega
   ·by_cases e0:k=j+1
    ·subst e0;have:=h2 hk;omega
    ·have x1:=h.1.lt k (i:=j+1) (by omega) hk
     have x2:=(h.1 (j+1) (by omega)).1
     have x3:=h2 (by omega)
     omega))
  have e2:cntB (hasB l) ((spAt l j).to.toNat+1)=cntB (hasB l) (spAt l j).fr.toNat+((spAt l j).to.toNat+1 - (spAt l j).fr.toNat):=cntB_full _ (by omega) (fun i hi1 hi2=>hasB_true.2 ⟨j,hjl,by omega,by omega⟩)
  rw [e1,e2]
  simp only [daysTo]
  omega
theorem daysTo_d {l:List Sp} (h:SetD l):∀ j,j ≤ l.length → 0 ≤ daysTo l j∧daysTo l j ≤ 730500
 | 0,_=>by simp [daysTo]
 | j+1,hj=>by
  obtain ⟨⟨f1,f2⟩,⟨t1,t2⟩⟩:=h.2 j (by omega)
  have h1:=days_cnt h (j+1) hj ((spAt l j).to.toNat+1) (fun _=>by rw [show j+1 - 1=j by omega];omega) (fun hl=>by
   have:=(h.1 (j+1) hl).2 (by omega)
   rw [show j+1 - 1=j by omega] at this
   omega)
  have h2:=cntB_le (hasB l) ((spAt l j).to.toNat+1)
  omega
theorem days_d {l:List Sp} (h:SetD l):days l=((cntB (hasB l) 730500:Nat):Int) :=
 (days_cnt h l.length (Nat.le_refl _) 730500 (fun h0=>by have:=(h.2 (l.length - 1) (by omega)).2.2;omega) (fun hl=>absurd hl (by omega))).symm
theorem days_sub {a b:List Sp} (ha:SetD a) (hb:SetD b) (h:∀ d,HasDay a d → HasDay b d):days a ≤ days b∧(days a=days b → a=b):=by
 have hm:∀ i,i < 730500 → hasB a i=true → hasB b i=true:=fun i _ hi=>hasB_true.2 (h _ (hasB_true.1 hi))
 rw [days_d ha,days_d hb]
 refine ⟨by have:=cntB_mono 730500 hm;omega,fun e=>ha.1.eq hb.1 (fun d=>⟨h d,fun hd=>?_⟩)⟩
 apply Classical.byContradiction
 intro hn
 obtain ⟨d1,d2⟩:=hb.day hd
 have e2:((d.toNat:Nat):Int)=d:=by omega
 have:=cntB_lt 730500 hm ⟨d.toNat,by omega,hasB_true.2 (by rw [e2];exact hd),hasB_false.2 (by rw [e2];exact hn)⟩
 omega
end Go.Proofs.YtechbeegbhlppaaGreatDoor
