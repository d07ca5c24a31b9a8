/- Texts merged (a claim holds at most sixty files): Wa, Wb. -/
import Derived.Test.YtechbeegbhlppaaGreatDoorS2Lib
import Derived.Test.YtechbeegbhlppaaGreatDoorS2Jd
import Derived.Test.YtechbeegbhlppaaGreatDoorS2Bf
namespace Go.Proofs.YtechbeegbhlppaaGreatDoor
set_option linter.unusedVariables false
set_option linter.unusedSimpArgs false
structure DsOk (p:Int → Prop) (fr:Int) (k:Nat) (l:List Sp):Prop where
 nf:Nf l
 days:∀ d,HasDay l d ↔ fr ≤ d∧d < fr+k∧p d
theorem nf_push {l:List Sp} {s:Sp} (h:Nf l) (h1:s.fr ≤ s.to) (h2:0 < l.length → (spAt l (l.length - 1)).to+2 ≤ s.fr):Nf (l ++ [s]):=by
 intro i hi
 have hi' : i < l.length+1:=by simpa using hi
 rw [spAt_app hi']
 by_cases e:i=l.length
 ·subst e
  rw [if_pos rfl]
  refine ⟨h1,fun h0=>?_⟩
  rw [spAt_app (by omega),if_neg (by omega)]
  exact h2 h0
 ·rw [if_neg e]
  refine ⟨(h i (by omega)).1,fun h0=>?_⟩
  rw [spAt_app (by omega),if_neg (by omega)]
  exact (h i (by omega)).2 h0
theorem nf_setTo {l:List Sp} {x:Int} (h:Nf l) (h0:0 < l.length) (h1:(spAt l (l.length - 1)).fr ≤ x):Nf (l.set (l.length - 1) ⟨(spAt l (l.length - 1)).fr,x⟩):=by
 intro i hi
 have hi' : i < l.length:=by simpa using hi
 rw [spAt_set]
 by_cases e:i=l.length - 1
 ·subst e
  rw [if_pos ⟨rfl,hi'⟩]
  refine ⟨h1,fun h2=>?_⟩
  rw [spAt_set,if_neg (by omega)]
  exact (h (l.length - 1) hi').2 h2
 ·rw [if_neg (by omega)]
  refine ⟨(h i hi').1,fun h2=>?_⟩
  rw [spAt_set,if_neg (by omega)]
  exact (h i hi').2 h2
theorem hasDay_setTo {l:List Sp} {x d:Int} (h0:0 < l.length):HasDay (l.set (l.length - 1) ⟨(spAt l (l.length - 1)).fr,x⟩) d ↔ (∃ i,i < l.length - 1∧In (spAt l i) d) ∨ ((spAt l (l.length - 1)).fr ≤ d∧d ≤ x):=by
 constructor
 ·rintro ⟨i,hi,h1,h2⟩
  have hi' : i < l.length:=by simpa using hi
  rw [spAt_set] at h1 h2
  by_cases e:i=l.length - 1
  ·rw [if_pos ⟨e,hi'⟩] at h1 h2;exact .inr ⟨h1,h2⟩
  ·rw [if_neg (fun hh=>e hh.1)] at h1 h2;exact .inl ⟨i,by omega,h1,h2⟩
 ·rintro (⟨i,hi,h1,h2⟩ | ⟨h1,h2⟩)
  ·refine ⟨i,by simp;omega,?_,?_⟩
   ·rw [spAt_set,if_neg (by omega)];exact h1
   ·rw [spAt_set,if_neg (by omega)];exact h2
  ·refine ⟨l.length - 1,by simp;omega,?_,?_⟩
   ·rw [spAt_set,if_pos ⟨rfl,by omega⟩];exact h1
   ·rw [spAt_set,if_pos ⟨rfl,by omega⟩];exact h2
theorem last_is {l:List Sp} (h:0 < l.length):l.getLast? = some (spAt l (l.length - 1)):=by
 rw [List.getLast?_eq_getElem?, List.getElem?_eq_getElem (by omega)]
 unfold spAt
 rw [List.getD_eq_getElem?_getD,List.getElem?_eq_getElem (by omega)]
 rfl
theorem dsAdd_no {p:Int → Prop} {s:List Sp} {n:Int} (h:¬ p n):dsAdd p s n=s:=by unfold dsAdd;rw [B_false h];rfl
theorem dsAdd_on {p:Int → Prop} {s:List Sp} {n:Int} (h:p n) (h0:0 < s.length) (h1:(spAt s (s.length - 1)).to=n - 1):dsAdd p s n=s.set (s.length - 1) ⟨(spAt s (s.length - 1)).fr,n⟩:=by
 unfold dsAdd
 rw [B_true h,B_true ⟨_,last_is h0,h1⟩]
 rfl
theorem dsAdd_new {p:Int → Prop} {s:List Sp} {n:Int} (h:p n) (h1:¬ (0 < s.length∧(spAt s (s.length - 1)).to=n - 1)):dsAdd p s n=s ++ [⟨n,n⟩]:=by
 unfold dsAdd
 rw [B_true h,B_false]
 ·rfl
 ·rintro ⟨x,hx,h2⟩
  have h0:0 < s.length:=by
   cases s with
   | nil=>cases hx
   | cons _ _=>simp
  rw [last_is h0] at hx
  injection hx with hx
  subst hx
  exact h1 ⟨h0,h2⟩
theorem dsTo_ok (p:Int → Prop) (fr:Int):∀ k,DsOk p fr k (dsTo p fr k)
 | 0=>⟨fun i hi=>absurd hi (by simp [dsTo]),fun d=>⟨fun ⟨i,hi,_⟩=>absurd hi (by simp [dsTo]),fun h=>by omega⟩⟩
 | k+1=>by
  obtain ⟨h1,h2⟩:=dsTo_ok p fr k
  have e:dsTo p fr (k+1)=dsAdd p (dsTo p fr k) (fr+k):=rfl
  rw [e]
  generalize dsTo p fr k=s at *
  have hd:∀ d,(fr ≤ d∧d < fr+(k+1:Nat)∧p d) ↔ HasDay s d ∨ (d=fr+k∧p d):=fun d=>by
   rw [h2]
   constructor
   ·rintro ⟨a,b,c⟩
    by_cases e:d=fr+k
    ·exact .inr ⟨e,c⟩
    ·exact .inl ⟨a,by omega,c⟩
   ·rintro (⟨a,b,c⟩ | ⟨a,c⟩)
    ·exact ⟨a,by omega,c⟩
    ·exact ⟨by omega,by omega,c⟩
  have hlast:0 < s.length → fr ≤ (spAt s (s.length - 1)).fr∧(spAt s (s.length - 1)).fr ≤ (spAt s (s.length - 1)).to∧(spAt s (s.length - 1)).to < fr+k:=fun h0=>by
   have h3:=(h1 (s.length - 1) (by omega)).1
   have:=(h2 _).1 ⟨s.length - 1,by omega,Int.le_refl _,h3⟩
   have:=(h2 _).1 ⟨s.length - 1,by omega,h3,Int.le_refl _⟩
   omega
  by_cases hp:p (fr+k)
  ·by_cases hc:0 < s.length∧(spAt s (s.length - 1)).to=fr+k - 1
   ·rw [dsAdd_on hp hc.1 hc.2]
    obtain ⟨l1,l2,l3⟩:=hlast hc.1
    refine ⟨nf_setTo h1 hc.1 (by omega),fun d=>?_⟩
    rw [hasDay_setTo hc.1,hd]
    constructor
    ·rintro (⟨i,hi,h3⟩ | ⟨a,b⟩)
     ·exact .inl ⟨i,by omega,h3⟩
     ·by_cases e:d=fr+k
      ·exact .inr ⟨e,by rw [e];exact hp⟩
      ·exact .inl ⟨s.length - 1,by omega,a,by omega⟩
    ·rintro (⟨i,hi,a,b⟩ | ⟨rfl,_⟩)
     ·by_cases e:i=s.length - 1
      ·subst e;exact .inr ⟨a,by omega⟩
      ·exact .inl ⟨i,by omega,a,b⟩
     ·exact .inr ⟨by omega,Int.le_refl _⟩
   ·rw [dsAdd_new hp hc]
    refine ⟨nf_push h1 (Int.le_refl _) (fun h0=>?_),fun d=>?_⟩
    ·obtain ⟨l1,l2,l3⟩:=hlast h0
     have:(spAt s (s.length - 1)).to ≠ fr+k - 1:=fun hh=>hc ⟨h0,hh⟩
     show _ ≤ fr+(k:Int)
     omega
    ·rw [hasDay_app,hd]
     constructor
     ·rintro (h3 | ⟨a,b⟩)
      ·exact .inl h3
      ·have a:fr+(k:Int) ≤ d:=a
       have b:d ≤ fr+(k:Int):=b
       have e:d=fr+k:=by omega
       exact .inr ⟨e,by rw [e];exact hp⟩
     ·rintro (h3 | ⟨rfl,_⟩)
      ·exact .inl h3
      ·exact .inr ⟨Int.le_refl _,Int.le_refl _⟩
  ·rw [dsAdd_no hp]
   refine ⟨h1,fun d=>?_⟩
   rw [hd]
   constructor
   ·exact .inl
   ·rintro (h3 | ⟨rfl,h3⟩)
    ·exact h3
    ·exact absurd h3 hp
def oneS (a b:Int):List Sp:=[⟨a,b⟩]
theorem oneS_has {a b d:Int}:HasDay (oneS a b) d ↔ a ≤ d∧d ≤ b:=by
 constructor
 ·rintro ⟨i,hi,h1,h2⟩
  have:i=0:=by simp [oneS] at hi;omega
  subst this
  exact ⟨h1,h2⟩
 ·rintro ⟨h1,h2⟩
  exact ⟨0,by simp [oneS],h1,h2⟩
theorem oneS_d {a b:Int} (h:a ≤ b) (ha:DayOk a) (hb:DayOk b):SetD (oneS a b):=by
 constructor
 ·intro i hi
  have:i=0:=by simp [oneS] at hi;omega
  subst this
  exact ⟨h,fun h=>absurd h (by omega)⟩
 ·intro i hi
  have:i=0:=by simp [oneS] at hi;omega
  subst this
  exact ⟨ha,hb⟩
theorem met_d {a b:List Sp} (ha:SetD a) (hb:SetD b):SetD (metL a b)∧∀ d,HasDay (metL a b) d ↔ HasDay a d∧HasDay b d:=by
 obtain ⟨h1,h2⟩:=metL_ok ha.1 hb.1
 exact ⟨setD_of h1 (fun d hd=>ha.day ((h2 d).1 hd).1),h2⟩
theorem setD_eq {a b:List Sp} (ha:SetD a) (hb:SetD b) (h:∀ d,HasDay a d ↔ HasDay b d):a=b:=ha.1.eq hb.1 h
noncomputable def mtTo (s:List Sp) (f:Nat → List Sp) (p:Nat → Prop):Nat → List Sp
 | 0=>s
 | k+1=>bif B (p k) then metL (mtTo s f p k) (f k) else mtTo s f p k
theorem mtTo_yes {s:List Sp} {f:Nat → List Sp} {p:Nat → Prop} {k:Nat} (h:p k):mtTo s f p (k+1)=metL (mtTo s f p k) (f k):=by show (bif B _ then _ else _)=_;rw [B_true h];rfl
theorem mtTo_no {s:List Sp} {f:Nat → List Sp} {p:Nat → Prop} {k:Nat} (h:¬ p k):mtTo s f p (k+1)=mtTo s f p k:=by show (bif B _ then _ else _)=_;rw [B_false h];rfl
theorem mtTo_ok {s:List Sp} {f:Nat → List Sp} {p:Nat → Prop} (hs:SetD s):∀ k,(∀ i,i < k → p i → SetD (f i)) → SetD (mtTo s f p k)∧∀ d,HasDay (mtTo s f p k) d ↔ HasDay s d∧∀ i,i < k → p i → HasDay (f i) d
 | 0,_=>⟨hs,fun d=>⟨fun h=>⟨h,fun i hi=>absurd hi (by omega)⟩,fun h=>h.1⟩⟩
 | k+1,hf=>by
  obtain ⟨h1,h2⟩:=mtTo_ok (p:=p) hs k (fun i hi=>hf i (by omega))
  by_cases hp:p k
  ·rw [mtTo_yes hp]
   obtain ⟨h3,h4⟩:=met_d h1 (hf k (by omega) hp)
   refine ⟨h3,fun d=>?_⟩
   rw [h4,h2]
   constructor
   ·rintro ⟨⟨a,b⟩,c⟩
    refine ⟨a,fun i hi hpi=>?_⟩
    by_cases e:i=k
    ·subst e;exact c
    ·exact b i (by omega) hpi
   ·rintro ⟨a,b⟩
    exact ⟨⟨a,fun i hi=>b i (by omega)⟩,b k (by omega) hp⟩
  ·rw [mtTo_no hp]
   refine ⟨h1,fun d=>?_⟩
   rw [h2]
   constructor
   ·rintro ⟨a,b⟩
    refine ⟨a,fun i hi hpi=>?_⟩
    by_cases e:i=k
    ·subst e;exact absurd hpi hp
    ·exact b i (by omega) hpi
   ·rintro ⟨a,b⟩
    exact ⟨a,fun i hi=>b i (by omega)⟩
def tmTo (l:List Trm) (o pe:ByteArray):Nat → List Sp
 | 0=>[]
 | k+1=>if (trmAt l k).of=o∧(trmAt l k).pe=pe then tmTo l o pe k ++ [⟨(trmAt l k).fr,(trmAt l k).to⟩] else tmTo l o pe k
theorem tmTo_yes {l:List Trm} {o pe:ByteArray} {k:Nat} (h:(trmAt l k).of=o∧(trmAt l k).pe=pe):tmTo l o pe (k+1)=tmTo l o pe k ++ [⟨(trmAt l k).fr,(trmAt l k).to⟩]:=if_pos h
theorem tmTo_no {l:List Trm} {o pe:ByteArray} {k:Nat} (h:¬ ((trmAt l k).of=o∧(trmAt l k).pe=pe)):tmTo l o pe (k+1)=tmTo l o pe k:=if_neg h
theorem tmTo_len (l:List Trm) (o pe:ByteArray):∀ k,(tmTo l o pe k).length ≤ k
 | 0=>Nat.le_refl _
 | k+1=>by
  have:=tmTo_len l o pe k
  unfold tmTo
  split
  ·simp;omega
  ·omega
theorem tmTo_all {l:List Trm} {o pe:ByteArray} {P:Sp → Prop}:∀ k,(∀ i,i < k → P ⟨(trmAt l i).fr,(trmAt l i).to⟩) → ∀ i,i < (tmTo l o pe k).length → P (spAt (tmTo l o pe k) i)
 | 0,_,i,hi=>absurd hi (by simp [tmTo])
 | k+1,h,i,hi=>by
  by_cases e:(trmAt l k).of=o∧(trmAt l k).pe=pe
  ·rw [tmTo_yes e] at hi ⊢
   rw [spAt_app (by simpa using hi)]
   split
   ·exact h k (by omega)
   ·exact tmTo_all k (fun i hi=>h i (by omega)) i (by simp at hi;omega)
  ·rw [tmTo_no e] at hi ⊢
   exact tmTo_all k (fun i hi=>h i (by omega)) i hi
def tmL (l:List Trm) (o pe:ByteArray):List Sp:=tmTo l o pe l.length
theorem tmL_ok {p:Ppl} (h:PplOk p) (o pe:ByteArray):(tmL p.tm o pe).length ≤ 60∧∀ i,i < (tmL p.tm o pe).length → SpOk (spAt (tmL p.tm o pe) i):=by
 refine ⟨Nat.le_trans (tmTo_len _ _ _ _) h.2.1,tmTo_all _ (fun i hi=>?_)⟩
 have ht:=h.2.2.2 i hi
 obtain ⟨h1,h2⟩:=trm_days h.2.2.1 ht
 exact ⟨h1,h2,ht.2.2.1⟩
theorem mkL_d {l:List Sp} (h:∀ i,i < l.length → SpOk (spAt l i)):SetD (mkL l):=by
 obtain ⟨h1,h2⟩:=mkL_ok (l:=l) (fun i hi=>(h i hi).2.2)
 refine setD_of h1 (fun d hd=>?_)
 obtain ⟨i,hi,a,b⟩:=(h2 d).1 hd
 obtain ⟨⟨c1,c2⟩,⟨c3,c4⟩,_⟩:=h i hi
 exact ⟨by omega,by omega⟩
theorem spOk_bd {l:List Sp} (h:∀ i,i < l.length → SpOk (spAt l i)):(∀ i,i < l.length → SpBd' (spAt l i))∧FromTo l :=
 ⟨fun i hi=>by obtain ⟨⟨c1,c2⟩,⟨c3,c4⟩,_⟩:=h i hi;exact ⟨⟨by omega,by omega⟩,⟨by omega,by omega⟩⟩,fun i hi=>(h i hi).2.2⟩
noncomputable def wdL (p:Ppl) (x:Wit):List Sp :=
 if x.of=⟨#[]⟩ then oneS (nspAt p.ps (psIx p.ps x.pe).toNat).fr (nspAt p.ps (psIx p.ps x.pe).toNat).to else mkL (tmL p.tm x.of x.pe)
theorem wdL_d {p:Ppl} (h:PplOk p) {x:Wit} (hx:0 ≤ psIx p.ps x.pe):SetD (wdL p x):=by
 unfold wdL
 split
 ·obtain ⟨⟨_,h1,h2,h3⟩,_⟩:=h.2.2.1 _ (psIx_lt hx).1
  exact oneS_d h3 h1 h2
 ·exact mkL_d (tmL_ok h _ _).2
theorem wayTo_sym {n:Nat} {l:List Wy} (hl:∀ i,i < l.length → WyOk n (wyAt l i)):∀ m,m ≤ l.length → ∀ i j,wayTo l m i j=wayTo l m j i
 | 0,_,i,j=>by
  show farM i j=farM j i
  unfold farM
  by_cases e:i=j
  ·rw [if_pos e,if_pos e.symm]
  ·rw [if_neg e,if_neg (fun h=>e h.symm)]
 | m+1,hm,i,j=>by
  have ih:=wayTo_sym hl m (by omega) i j
  obtain ⟨⟨a0,_⟩,⟨b0,_⟩,hne,_⟩:=hl m (by omega)
  show wayS (wayTo l m) (wyAt l m) i j=wayS (wayTo l m) (wyAt l m) j i
  rw [wayS_at (by omega),wayS_at (by omega),ih]
  by_cases e:(i=(wyAt l m).a.toNat∧j=(wyAt l m).b.toNat) ∨ (i=(wyAt l m).b.toNat∧j=(wyAt l m).a.toNat)
  ·rw [if_pos e,if_pos (by omega)]
  ·rw [if_neg e,if_neg (by omega)]
theorem fwK_sym {n:Nat} {E:Nat → Nat → Int → Prop} {M:Mat} (h:MatOk n E M) (hE:∀ i j d,E i j d → 0 ≤ d) (hs:∀ i j,i < n → j < n → M i j=M j i):∀ k,k ≤ n → ∀ i j,i < n → j < n → fwK M n k i j=fwK M n k j i
 | 0,_,i,j,hi,hj=>hs i j hi hj
 | k+1,hk,i,j,hi,hj=>by
  obtain ⟨h1,_⟩:=fw_ok h hE k (by omega)
  have hM:∀ a b,a < n → b < n → fwK M n (k+1) a b=thru (fwK M n k) k a b:=fun a b ha hb=>by
   show fwI (fwK M n k) k n n a b=_
   rw [fwI_at (by omega) h1.nn h1.zz n (Nat.le_refl _) a b ha hb,if_pos ha]
  rw [hM i j hi hj,hM j i hj hi]
  unfold thru
  have e1:=fwK_sym h hE hs k (by omega) i j hi hj
  have e2:=fwK_sym h hE hs k (by omega) i k hi (by omega)
  have e3:=fwK_sym h hE hs k (by omega) k j (by omega) hj
  omega
theorem trv_sym {n:Nat} {l:List Wy} (hl:∀ i,i < l.length → WyOk n (wyAt l i)) {i j:Nat} (hi:i < n) (hj:j < n):trvM n l i j=trvM n l j i :=
 fwK_sym (wayTo_ok hl _ (Nat.le_refl _)) (fun i j d he=>by obtain ⟨q,hq,hd,_⟩:=he;have:=hl q hq;obtain ⟨_,_,_,h1,_⟩:=this;omega) (fun i j _ _=>wayTo_sym hl _ (Nat.le_refl _) i j) n (Nat.le_refl _) i j hi hj
def gpS (D:Vc) (l:List Wy) (i:Nat):Sp :=
 ⟨if i=0 then 0 else max ((wyAt l (i - 1)).d+1) ((wyAt l (i - 1)).d+D (wyAt l (i - 1)).a.toNat),
  if i < l.length then min ((wyAt l i).b - 1) ((wyAt l i).b - D (wyAt l i).a.toNat) else 730499⟩
def gpA (D:Vc) (l:List Wy) (i:Nat) (o:List Sp):List Sp:=if (gpS D l i).fr ≤ (gpS D l i).to then o ++ [gpS D l i] else o
def cdTo (D:Vc) (l:List Wy) (p:Int):Nat → List Sp
 | 0=>[]
 | k+1=>if k < l.length∧(wyAt l k).a=p then gpA D l k (cdTo D l p k) ++ [⟨(wyAt l k).b,(wyAt l k).d⟩] else gpA D l k (cdTo D l p k)
def cdL (D:Vc) (l:List Wy) (p:Int):List Sp:=cdTo D l p (l.length+1)
theorem gpA_yes {D:Vc} {l:List Wy} {i:Nat} {o:List Sp} (h:(gpS D l i).fr ≤ (gpS D l i).to):gpA D l i o=o ++ [gpS D l i]:=if_pos h
theorem gpA_no {D:Vc} {l:List Wy} {i:Nat} {o:List Sp} (h:¬ (gpS D l i).fr ≤ (gpS D l i).to):gpA D l i o=o:=if_neg h
theorem cdTo_at {D:Vc} {l:List Wy} {p:Int} {k:Nat} (h1:k < l.length) (h:(wyAt l k).a=p):cdTo D l p (k+1)=gpA D l k (cdTo D l p k) ++ [⟨(wyAt l k).b,(wyAt l k).d⟩]:=if_pos ⟨h1,h⟩
theorem cdTo_off {D:Vc} {l:List Wy} {p:Int} {k:Nat} (h:¬ (k < l.length∧(wyAt l k).a=p)):cdTo D l p (k+1)=gpA D l k (cdTo D l p k):=if_neg h
theorem gpA_len (D:Vc) (l:List Wy) (i:Nat) (o:List Sp):(gpA D l i o).length ≤ o.length+1:=by unfold gpA;split <;> simp
theorem cdTo_len (D:Vc) (l:List Wy) (p:Int):∀ k,(cdTo D l p k).length ≤ 2 * k
 | 0=>Nat.le_refl _
 | k+1=>by
  have h1:=cdTo_len D l p k
  have h2:=gpA_len D l k (cdTo D l p k)
  by_cases e:k < l.length∧(wyAt l k).a=p
  ·rw [cdTo_at e.1 e.2,List.length_append];show _+1 ≤ _;omega
  ·rw [cdTo_off e];omega
theorem push_all {P:Sp → Prop} {l:List Sp} {s:Sp} (h:∀ i,i < l.length → P (spAt l i)) (hs:P s):∀ i,i < (l ++ [s]).length → P (spAt (l ++ [s]) i):=fun i hi=>by
 have hi' : i < l.length+1:=by simpa using hi
 rw [spAt_app hi']
 split
 ·exact hs
 ·exact h i (by omega)
structure TrOk (n:Nat) (l:List Wy) (D:Vc):Prop where
 nn:∀ a,a < n → 0 ≤ D a∧D a ≤ 1000000
 st:∀ i,i < l.length → StyOk n (wyAt l i)
theorem gpS_day {n:Nat} {l:List Wy} {D:Vc} (h:TrOk n l D) {i:Nat} (hi:i ≤ l.length):0 ≤ (gpS D l i).fr∧(gpS D l i).fr ≤ 1730499∧(gpS D l i).to ≤ 730499 ∧ -1000000 ≤ (gpS D l i).to:=by
 unfold gpS
 constructor
 ·show 0 ≤ (if i=0 then (0:Int) else _)
  split
  ·omega
  ·obtain ⟨⟨a0,a1⟩,⟨b0,b1⟩,⟨c0,c1⟩,d⟩:=h.st (i - 1) (by omega)
   omega
 constructor
 ·show (if i=0 then (0:Int) else _) ≤ 1730499
  split
  ·omega
  ·obtain ⟨⟨a0,a1⟩,⟨b0,b1⟩,⟨c0,c1⟩,d⟩:=h.st (i - 1) (by omega)
   have:=(h.nn (wyAt l (i - 1)).a.toNat (by omega)).2
   omega
 constructor
 ·show (if i < l.length then _ else (730499:Int)) ≤ _
  split
  ·rename_i hh
   obtain ⟨⟨a0,a1⟩,⟨b0,b1⟩,⟨c0,c1⟩,d⟩:=h.st i hh
   omega
  ·omega
 ·show -1000000 ≤ (if i < l.length then _ else (730499:Int))
  split
  ·rename_i hh
   obtain ⟨⟨a0,a1⟩,⟨b0,b1⟩,⟨c0,c1⟩,d⟩:=h.st i hh
   have:=(h.nn (wyAt l i).a.toNat (by omega)).2
   omega
  ·omega
theorem cdTo_ok {n:Nat} {l:List Wy} {D:Vc} (h:TrOk n l D) (p:Int):∀ k,k ≤ l.length+1 → ∀ i,i < (cdTo D l p k).length → SpOk (spAt (cdTo D l p k) i)
 | 0,_,i,hi=>absurd hi (by simp [cdTo])
 | k+1,hk,i,hi=>by
  have ih:=cdTo_ok h p k (by omega)
  have hg:∀ i,i < (gpA D l k (cdTo D l p k)).length → SpOk (spAt (gpA D l k (cdTo D l p k)) i):=by
   by_cases e:(gpS D l k).fr ≤ (gpS D l k).to
   ·rw [gpA_yes e]
    obtain ⟨g1,g2,g3,g4⟩:=gpS_day h (i:=k) (by omega)
    exact push_all ih ⟨⟨by omega,by omega⟩,⟨by omega,by omega⟩,e⟩
   ·rw [gpA_no e];exact ih
  by_cases e:k < l.length∧(wyAt l k).a=p
  ·rw [cdTo_at e.1 e.2] at hi ⊢
   obtain ⟨_,b,c,d⟩:=h.st k e.1
   exact push_all hg ⟨b,c,d⟩ i hi
  ·rw [cdTo_off e] at hi ⊢
   exact hg i hi
theorem cdL_ok {n:Nat} {l:List Wy} {D:Vc} (h:TrOk n l D) (p:Int) (h40:l.length ≤ 40):(cdL D l p).length ≤ 82∧∀ i,i < (cdL D l p).length → SpOk (spAt (cdL D l p) i) :=
 ⟨Nat.le_trans (cdTo_len D l p _) (by omega),cdTo_ok h p _ (Nat.le_refl _)⟩
theorem way_of {n:Nat} {l:List Wy} (hl:∀ i,i < l.length → WyOk n (wyAt l i)) (h40:l.length ≤ 40) (hn:n ≤ 12) {p a:Nat} (hp:p < n) (ha:a < n) :
  (frmV n l p a < 0∧frmV n l p a = -1∧trvM n l a p=1000000) ∨ (0 ≤ frmV n l p a∧frmV n l p a ≤ 57600∧trvM n l a p=frmV n l p a):=by
 have hnn:=(trv_ok hl).1.nn p a hp ha
 rw [trv_sym hl ha hp]
 obtain ⟨hM,hT⟩:=trv_ok hl
 have hE:∀ i j d,i < n → j < n → EdTo l l.length i j d → trvM n l p j ≤ trvM n l p i+d:=fun i j d hi hj he=>by
  have h1:=hT i hi p j hp hj
  have h2:=hM.ed i j d hi hj he
  omega
 obtain ⟨h1,h2,h3⟩:=bfR_ok hl hp (hM.zz p hp) hE n a ha
 have hbound:(120:Int) * l.length * n ≤ 57600:=by
  have e:(120 * l.length * n:Nat) ≤ 120 * 40 * 12:=Nat.mul_le_mul (Nat.mul_le_mul (Nat.le_refl _) h40) hn
  have e2:((120 * l.length * n:Nat):Int)=(120:Int) * l.length * n:=by push_cast;rfl
  omega
 have h2' : frmV n l p a ≤ 57600:=Int.le_trans h2 hbound
 rcases travel_same hl h40 hn hp ha with ⟨h4,h5⟩ | ⟨h4,h5⟩
 ·exact .inr ⟨by omega,h2', h5.symm⟩
 ·exact .inl ⟨by omega,h5,h4⟩
noncomputable def placeOf (W:Wrl) (d:Ded):Int:=fstIx (fun i=>strAt W.ld.pl i=d.pl) W.ld.pl.length
noncomputable def plD (W:Wrl) (d:Ded):Vc:=fun a=>trvM W.ld.pl.length W.ld.wy a (placeOf W d).toNat
noncomputable def chS (W:Wrl):List Sp:=oneS W.ch.fr W.ch.to
noncomputable def srcL (W:Wrl) (d:Ded) (s:Int):List Sp :=
 if s=0 then dsTo (Fits W.ch.rg d.dt) W.ch.fr ((W.ch.to - W.ch.fr).toNat+1) else
 if s=1 then mtTo (chS W) (fun k=>wdL W.pp (witAt d.wi k)) (fun _=>True) d.wi.length else
 if s=2∧d.pl ≠ ⟨#[]⟩ then metL (chS W) (mkL (cdL (plD W d) W.st (placeOf W d))) else
 if s=3∧d.se ≠ ⟨#[]⟩ then metL (chS W) (mkL (mdL W.se d.se)) else
 if s=4∧d.ha ≠ ⟨#[]⟩ then metL (chS W) (mkL (mdL W.ha d.ha)) else chS W
theorem srcL_0 (W:Wrl) (d:Ded):srcL W d 0=dsTo (Fits W.ch.rg d.dt) W.ch.fr ((W.ch.to - W.ch.fr).toNat+1):=by unfold srcL;rw [if_pos rfl]
theorem srcL_1 (W:Wrl) (d:Ded):srcL W d 1=mtTo (chS W) (fun k=>wdL W.pp (witAt d.wi k)) (fun _=>True) d.wi.length:=by unfold srcL;rw [if_neg (by omega),if_pos rfl]
theorem srcL_2 {W:Wrl} {d:Ded} (h:d.pl ≠ ⟨#[]⟩):srcL W d 2=metL (chS W) (mkL (cdL (plD W d) W.st (placeOf W d))):=by unfold srcL;rw [if_neg (by omega),if_neg (by omega),if_pos ⟨rfl,h⟩]
theorem srcL_3 {W:Wrl} {d:Ded} (h:d.se ≠ ⟨#[]⟩):srcL W d 3=metL (chS W) (mkL (mdL W.se d.se)):=by unfold srcL;rw [if_neg (by omega),if_neg (by omega),if_neg (by omega),if_pos ⟨rfl,h⟩]
theorem srcL_4 {W:Wrl} {d:Ded} (h:d.ha ≠ ⟨#[]⟩):srcL W d 4=metL (chS W) (mkL (mdL W.ha d.ha)):=by unfold srcL;rw [if_neg (by omega),if_neg (by omega),if_neg (by omega),if_neg (by omega),if_pos ⟨rfl,h⟩]
theorem srcL_no {W:Wrl} {d:Ded} {s:Int} (h:(s=2∧d.pl=⟨#[]⟩) ∨ (s=3∧d.se=⟨#[]⟩) ∨ (s=4∧d.ha=⟨#[]⟩)):srcL W d s=chS W:=by
 unfold srcL
 rcases h with ⟨rfl,h⟩ | ⟨rfl,h⟩ | ⟨rfl,h⟩
 ·rw [if_neg (by omega),if_neg (by omega),if_neg (fun hh=>hh.2 h),if_neg (by omega),if_neg (by omega)]
 ·rw [if_neg (by omega),if_neg (by omega),if_neg (by omega),if_neg (fun hh=>hh.2 h),if_neg (by omega)]
 ·rw [if_neg (by omega),if_neg (by omega),if_neg (by omega),if_neg (by omega),if_neg (fun hh=>hh.2 h)]
theorem chS_d {W:Wrl} (h:WrlOk W):SetD (chS W):=oneS_d h.1.2.2.2.1 h.1.2.1 h.1.2.2.1
theorem pl_tr {W:Wrl} {ds:List Ded} {d:Ded} (h:WrlOk W) (hd:DedIn W ds d) (hp:d.pl ≠ ⟨#[]⟩):(0 ≤ placeOf W d∧placeOf W d < W.ld.pl.length)∧TrOk W.ld.pl.length W.st (plD W d):=by
 obtain ⟨_,_,⟨hL,h40,hst⟩,_⟩:=h
 have h0:0 ≤ placeOf W d:=by
  rcases hd.2.2.2.2.1 with h1 | h1
  ·exact absurd h1 hp
  ·exact h1
 have h1:placeOf W d < W.ld.pl.length:=by
  have:=fstIx_ge (fun i=>strAt W.ld.pl i=d.pl) W.ld.pl.length
  unfold placeOf at *
  omega
 refine ⟨⟨h0,h1⟩,fun a ha=>?_,fun i hi=>(hst i hi).1⟩
 obtain ⟨hM,_⟩:=trv_ok hL.2.2.2
 exact ⟨hM.nn a _ ha (by omega),hM.le a _ ha (by omega)⟩
theorem mdL_d {l:List Nsp} (h:MksOk l) (name:ByteArray):SetD (mkL (mdL l name)):=mkL_d (mdL_ok h name).2
theorem srcL_d {W:Wrl} {ds:List Ded} {d:Ded} (h:WrlOk W) (hd:DedIn W ds d) (s:Int):SetD (srcL W d s)∧∀ x,HasDay (srcL W d s) x → W.ch.fr ≤ x∧x ≤ W.ch.to:=by
 have hc:=chS_d h
 have hch:∀ x,HasDay (chS W) x → W.ch.fr ≤ x∧x ≤ W.ch.to:=fun x hx=>oneS_has.1 hx
 obtain ⟨_,⟨f0,f1⟩,⟨t0,t1⟩,hft,_⟩:=h.1
 unfold srcL
 split
 ·obtain ⟨h1,h2⟩:=dsTo_ok (Fits W.ch.rg d.dt) W.ch.fr ((W.ch.to - W.ch.fr).toNat+1)
  have h3:∀ x,HasDay (dsTo (Fits W.ch.rg d.dt) W.ch.fr ((W.ch.to - W.ch.fr).toNat+1)) x → W.ch.fr ≤ x∧x ≤ W.ch.to:=fun x hx=>by
   obtain ⟨a,b,_⟩:=(h2 x).1 hx
   omega
  exact ⟨setD_of h1 (fun x hx=>by have:=h3 x hx;exact ⟨by omega,by omega⟩),h3⟩
 split
 ·obtain ⟨h1,h2⟩:=mtTo_ok (p:=fun _=>True) hc d.wi.length (fun i hi _=>wdL_d h.2.1 (hd.2.2.1.2 i hi))
  exact ⟨h1,fun x hx=>hch x ((h2 x).1 hx).1⟩
 split
 ·rename_i hp
  obtain ⟨_,h3⟩:=pl_tr h hd hp.2
  obtain ⟨h1,h2⟩:=met_d hc (mkL_d (cdL_ok h3 (placeOf W d) h.2.2.1.2.1).2)
  exact ⟨h1,fun x hx=>hch x ((h2 x).1 hx).1⟩
 split
 ·obtain ⟨h1,h2⟩:=met_d hc (mdL_d h.2.2.2.1 d.se)
  exact ⟨h1,fun x hx=>hch x ((h2 x).1 hx).1⟩
 split
 ·obtain ⟨h1,h2⟩:=met_d hc (mdL_d h.2.2.2.2 d.ha)
  exact ⟨h1,fun x hx=>hch x ((h2 x).1 hx).1⟩
 ·exact ⟨hc,hch⟩
theorem src_wit {W:Wrl} {ds:List Ded} {d:Ded} (h:WrlOk W) (hd:DedIn W ds d):SetD (mtTo (oneS 0 730499) (fun k=>wdL W.pp (witAt d.wi k)) (fun _=>True) d.wi.length) ∧
  metL (chS W) (mtTo (oneS 0 730499) (fun k=>wdL W.pp (witAt d.wi k)) (fun _=>True) d.wi.length)=srcL W d 1:=by
 have hc:=chS_d h
 have hf:∀ i,i < d.wi.length → True → SetD (wdL W.pp (witAt d.wi i)):=fun i hi _=>wdL_d h.2.1 (hd.2.2.1.2 i hi)
 obtain ⟨h1,h2⟩:=mtTo_ok (f:=fun k=>wdL W.pp (witAt d.wi k)) (p:=fun _=>True) hc d.wi.length hf
 obtain ⟨h3,h4⟩:=mtTo_ok (f:=fun k=>wdL W.pp (witAt d.wi k)) (p:=fun _=>True) (oneS_d (a:=0) (b:=730499) (by omega) ⟨by omega,by omega⟩ ⟨by omega,by omega⟩) d.wi.length hf
 obtain ⟨h5,h6⟩:=met_d hc h3
 refine ⟨h3,?_⟩
 rw [srcL_1]
 refine setD_eq h5 h1 (fun x=>?_)
 rw [h6,h2,h4,oneS_has]
 constructor
 ·rintro ⟨a,_,b⟩;exact ⟨a,b⟩
 ·rintro ⟨a,b⟩
  have:=hc.day a
  exact ⟨a,⟨this.1,this.2⟩,b⟩
noncomputable def ownL (W:Wrl) (d:Ded) (but:Int):List Sp:=mtTo (oneS 0 730499) (fun k=>srcL W d k) (fun k=>(k:Int) ≠ but) 5
theorem all_d:SetD (oneS 0 730499):=oneS_d (by omega) ⟨by omega,by omega⟩ ⟨by omega,by omega⟩
theorem ownL_d {W:Wrl} {ds:List Ded} {d:Ded} (h:WrlOk W) (hd:DedIn W ds d) (but:Int):SetD (ownL W d but)∧∀ x,HasDay (ownL W d but) x ↔ DayOk x∧∀ i:Nat,i < 5 → (i:Int) ≠ but → HasDay (srcL W d i) x:=by
 obtain ⟨h1,h2⟩:=mtTo_ok (f:=fun k=>srcL W d k) (p:=fun k=>(k:Int) ≠ but) all_d 5 (fun i _ _=>(srcL_d h hd i).1)
 refine ⟨h1,fun x=>(h2 x).trans ?_⟩
 rw [oneS_has]
 exact Iff.rfl
theorem own_same {W:Wrl} {ds:List Ded} {d:Ded} (h:WrlOk W) (hd:DedIn W ds d) (but:Int):mtTo (chS W) (fun k=>srcL W d k) (fun k=>(k:Int) ≠ but) 5=ownL W d but:=by
 obtain ⟨h1,h2⟩:=ownL_d h hd but
 obtain ⟨h3,h4⟩:=mtTo_ok (f:=fun k=>srcL W d k) (p:=fun k=>(k:Int) ≠ but) (chS_d h) 5 (fun i _ _=>(srcL_d h hd i).1)
 refine setD_eq h3 h1 (fun x=>?_)
 rw [h2,h4]
 constructor
 ·rintro ⟨a,b⟩;exact ⟨(chS_d h).day a,b⟩
 ·rintro ⟨_,b⟩
  refine ⟨?_,b⟩
  by_cases e:but=0
  ·exact oneS_has.2 ((srcL_d h hd (1:Nat)).2 x (b 1 (by omega) (by omega)))
  ·exact oneS_has.2 ((srcL_d h hd (0:Nat)).2 x (b 0 (by omega) (by omega)))
theorem own_part {W:Wrl} {ds:List Ded} {d:Ded} (h:WrlOk W) (hd:DedIn W ds d) (but:Int) (k:Nat) (s0:List Sp) (hs:SetD s0):SetD (mtTo s0 (fun k=>srcL W d k) (fun k=>(k:Int) ≠ but) k) :=
 (mtTo_ok (f:=fun k=>srcL W d k) (p:=fun k=>(k:Int) ≠ but) hs k (fun i _ _=>(srcL_d h hd i).1)).1
end Go.Proofs.YtechbeegbhlppaaGreatDoor
