/- Plain: the travels of a land: by all places in between (the program), by rounds over the ways (the reference). -/
import Derived.WalkKit
namespace Go.Proofs.YtechbeegbhlppaaGreatDoor
set_option linter.unusedVariables false
set_option linter.unusedSimpArgs false
structure Wy where
 a:Int
 b:Int
 d:Int
instance:Inhabited Wy:=⟨⟨0,0,0⟩⟩
def wyAt (l:List Wy) (i:Nat):Wy:=l.getD i ⟨0,0,0⟩
def WyOk (n:Nat) (w:Wy):Prop:=(0 ≤ w.a∧w.a ≤ (n:Int) - 1)∧(0 ≤ w.b∧w.b ≤ (n:Int) - 1)∧w.a ≠ w.b∧(1 ≤ w.d∧w.d ≤ 60)
abbrev Mat:=Nat → Nat → Int
def set2 (M:Mat) (a b:Nat) (x:Int):Mat:=fun i j=>if i=a∧j=b then x else M i j
def farM:Mat:=fun i j=>if i=j then 0 else 1000000
def wayS (M:Mat) (w:Wy):Mat :=
 let M1:=set2 M w.a.toNat w.b.toNat (min (M w.a.toNat w.b.toNat) w.d)
 set2 M1 w.b.toNat w.a.toNat (min (M1 w.b.toNat w.a.toNat) w.d)
def wayTo (l:List Wy):Nat → Mat
 | 0=>farM
 | m+1=>wayS (wayTo l m) (wyAt l m)
def fwS (M:Mat) (k i j:Nat):Mat:=set2 M i j (min (M i j) (M i k+M k j))
def fwJ (M:Mat) (k i:Nat):Nat → Mat
 | 0=>M
 | j+1=>fwS (fwJ M k i j) k i j
def fwI (M:Mat) (k n:Nat):Nat → Mat
 | 0=>M
 | i+1=>fwJ (fwI M k n i) k i n
def fwK (M:Mat) (n:Nat):Nat → Mat
 | 0=>M
 | k+1=>fwI (fwK M n k) k n n
def thru (M:Mat) (k:Nat):Mat:=fun i j=>min (M i j) (M i k+M k j)
structure MatOk (n:Nat) (E:Nat → Nat → Int → Prop) (M:Mat):Prop where
 nn:∀ i j,i < n → j < n → 0 ≤ M i j
 le:∀ i j,i < n → j < n → M i j ≤ 1000000
 zz:∀ i,i < n → M i i=0
 ed:∀ i j d,i < n → j < n → E i j d → M i j ≤ d
 pr:∀ i j,i < n → j < n → M i j < 1000000 → i ≠ j → ∃ u d,u < n∧E u j d∧M i u+d ≤ M i j
def EdTo (l:List Wy) (m:Nat) (i j:Nat) (d:Int):Prop:=∃ q,q < m∧(wyAt l q).d=d∧(((wyAt l q).a=i∧(wyAt l q).b=j) ∨ ((wyAt l q).b=i∧(wyAt l q).a=j))
theorem set2_at (M:Mat) (a b:Nat) (x:Int):set2 M a b x a b=x:=if_pos ⟨rfl,rfl⟩
theorem set2_ne {M:Mat} {a b:Nat} {x:Int} {i j:Nat} (h:¬ (i=a∧j=b)):set2 M a b x i j=M i j:=if_neg h
theorem far_ok (n:Nat) (l:List Wy):MatOk n (EdTo l 0) farM where
 nn:=fun i j _ _=>by unfold farM;split <;> omega
 le:=fun i j _ _=>by unfold farM;split <;> omega
 zz:=fun i _=>by unfold farM;rw [if_pos rfl]
 ed:=fun i j d _ _ h=>by obtain ⟨q,hq,_⟩:=h;omega
 pr:=fun i j _ _ h hne=>by unfold farM at h;rw [if_neg hne] at h;omega
theorem wayS_at {M:Mat} {w:Wy} (hab:w.a.toNat ≠ w.b.toNat) (i j:Nat) :
  wayS M w i j=if (i=w.a.toNat∧j=w.b.toNat) ∨ (i=w.b.toNat∧j=w.a.toNat) then min (M i j) w.d else M i j:=by
 unfold wayS
 by_cases h1:i=w.b.toNat∧j=w.a.toNat
 ·obtain ⟨rfl,rfl⟩:=h1
  rw [set2_at,set2_ne (by omega),if_pos (.inr ⟨rfl,rfl⟩)]
 ·rw [set2_ne h1]
  by_cases h2:i=w.a.toNat∧j=w.b.toNat
  ·obtain ⟨rfl,rfl⟩:=h2
   rw [set2_at,if_pos (.inl ⟨rfl,rfl⟩)]
  ·rw [set2_ne h2,if_neg (by omega)]
theorem way_ok {n:Nat} {l:List Wy} {m:Nat} {M:Mat} (h:MatOk n (EdTo l m) M) (hw:WyOk n (wyAt l m)):MatOk n (EdTo l (m+1)) (wayS M (wyAt l m)):=by
 obtain ⟨⟨a0,a1⟩,⟨b0,b1⟩,hne,d0,d1⟩:=hw
 have hab:(wyAt l m).a.toNat ≠ (wyAt l m).b.toNat:=by omega
 have hle:∀ i j,wayS M (wyAt l m) i j ≤ M i j:=fun i j=>by rw [wayS_at hab];split <;> omega
 constructor
 ·intro i j hi hj
  have:=h.nn i j hi hj
  rw [wayS_at hab];split <;> omega
 ·intro i j hi hj
  exact Int.le_trans (hle i j) (h.le i j hi hj)
 ·intro i hi
  rw [wayS_at hab,if_neg (by omega)]
  exact h.zz i hi
 ·intro i j d hi hj he
  obtain ⟨q,hq,hd,hc⟩:=he
  by_cases e:q=m
  ·subst e
   rw [wayS_at hab,if_pos (by omega)]
   omega
  ·exact Int.le_trans (hle i j) (h.ed i j d hi hj ⟨q,by omega,hd,hc⟩)
 ·intro i j hi hj hlt hij
  by_cases hc:((i=(wyAt l m).a.toNat∧j=(wyAt l m).b.toNat) ∨ (i=(wyAt l m).b.toNat∧j=(wyAt l m).a.toNat))∧(wyAt l m).d ≤ M i j
  ·refine ⟨i,(wyAt l m).d,hi,⟨m,by omega,rfl,by omega⟩,?_⟩
   rw [wayS_at hab,if_neg (by omega),wayS_at hab,if_pos hc.1,h.zz i hi]
   omega
  ·have he:wayS M (wyAt l m) i j=M i j:=by
    rw [wayS_at hab];split
    ·have:¬ (wyAt l m).d ≤ M i j:=fun hh=>hc ⟨by assumption,hh⟩
     omega
    ·rfl
   rw [he] at hlt ⊢
   obtain ⟨u,d,hu,⟨q,hq,hd,hcc⟩,hle2⟩:=h.pr i j hi hj hlt hij
   exact ⟨u,d,hu,⟨q,by omega,hd,hcc⟩,by have:=hle i u;omega⟩
theorem wayTo_ok {n:Nat} {l:List Wy} (hl:∀ i,i < l.length → WyOk n (wyAt l i)):∀ m,m ≤ l.length → MatOk n (EdTo l m) (wayTo l m)
 | 0,_=>far_ok n l
 | m+1,hm=>way_ok (wayTo_ok hl m (by omega)) (hl m (by omega))
theorem fwJ_at {M M0:Mat} {n k i:Nat} (hk:k < n) (hi:i < n) (hnn:∀ a b,a < n → b < n → 0 ≤ M0 a b) (hz:∀ a,a < n → M0 a a=0)
  (hrow:∀ b,b < n → M k b=M0 k b) (hik:∀ b,b < n → i ≠ k → M i b=M0 i b) :
  ∀ j,j ≤ n → ∀ a b,a < n → b < n → fwJ M k i j a b=if a=i∧b < j then thru M0 k a b else M a b
 | 0,_,a,b,_,_=>by rw [if_neg (by omega)];rfl
 | j+1,hj,a,b,ha,hb=>by
  have ih:=fwJ_at hk hi hnn hz hrow hik j (by omega)
  have hM:∀ b,b < n → M i b=M0 i b:=fun b hb=>by
   by_cases e:i=k
   ·subst e;exact hrow b hb
   ·exact hik b hb e
  have hKj:fwJ M k i j k j=M0 k j:=by
   rw [ih k j hk (by omega)]
   rw [if_neg (by omega)]
   exact hrow j (by omega)
  have hiK:fwJ M k i j i k=M0 i k:=by
   rw [ih i k hi hk]
   split
   ·unfold thru
    rw [hz k hk]
    omega
   ·exact hM k hk
  have hij:fwJ M k i j i j=M0 i j:=by
   rw [ih i j hi (by omega),if_neg (by omega)]
   exact hM j (by omega)
  show fwS (fwJ M k i j) k i j a b=_
  unfold fwS
  by_cases h1:a=i∧b=j
  ·obtain ⟨rfl,rfl⟩:=h1
   rw [set2_at,if_pos ⟨rfl,by omega⟩,hKj,hiK,hij]
   rfl
  ·rw [set2_ne h1,ih a b ha hb]
   by_cases h2:a=i∧b < j
   ·rw [if_pos h2,if_pos ⟨h2.1,by omega⟩]
   ·rw [if_neg h2,if_neg (by omega)]
theorem fwI_at {M0:Mat} {n k:Nat} (hk:k < n) (hnn:∀ a b,a < n → b < n → 0 ≤ M0 a b) (hz:∀ a,a < n → M0 a a=0) :
  ∀ i,i ≤ n → ∀ a b,a < n → b < n → fwI M0 k n i a b=if a < i then thru M0 k a b else M0 a b
 | 0,_,a,b,_,_=>by rw [if_neg (by omega)];rfl
 | i+1,hi,a,b,ha,hb=>by
  have ih:=fwI_at hk hnn hz i (by omega)
  have hrow:∀ b,b < n → fwI M0 k n i k b=M0 k b:=fun b hb=>by
   rw [ih k b hk hb]
   split
   ·unfold thru
    rw [hz k hk]
    omega
   ·rfl
  show fwJ (fwI M0 k n i) k i n a b=_
  rw [fwJ_at (M0:=M0) hk (by omega) hnn hz hrow (fun b hb _=>by rw [ih i b (by omega) hb,if_neg (by omega)]) n (Nat.le_refl _) a b ha hb,ih a b ha hb]
  by_cases e:a=i
  ·rw [if_pos ⟨e,hb⟩,if_pos (by omega)]
  ·rw [if_neg (by omega)]
   by_cases h2:a < i
   ·rw [if_pos h2,if_pos (by omega)]
   ·rw [if_neg h2,if_neg (by omega)]
def Tri (n k:Nat) (M:Mat):Prop:=∀ v,v < k → ∀ i j,i < n → j < n → M i j ≤ M i v+M v j
theorem thru_ok {n:Nat} {E:Nat → Nat → Int → Prop} {M M' : Mat} {k:Nat} (h:MatOk n E M) (hE:∀ i j d,E i j d → 0 ≤ d) (hk:k < n) (hM:∀ a b,a < n → b < n → M' a b=thru M k a b):MatOk n E M' := by
 have hle:∀ a b,a < n → b < n → M' a b ≤ M a b:=fun a b ha hb=>by rw [hM a b ha hb];unfold thru;omega
 constructor
 ·intro i j hi hj
  have h1:=h.nn i j hi hj
  have h2:=h.nn i k hi hk
  have h3:=h.nn k j hk hj
  rw [hM i j hi hj];unfold thru;omega
 ·intro i j hi hj
  exact Int.le_trans (hle i j hi hj) (h.le i j hi hj)
 ·intro i hi
  have h1:=h.zz i hi
  have h2:=h.nn i k hi hk
  have h3:=h.nn k i hk hi
  rw [hM i i hi hi];unfold thru;omega
 ·intro i j d hi hj he
  exact Int.le_trans (hle i j hi hj) (h.ed i j d hi hj he)
 ·intro i j hi hj hlt hij
  by_cases e:M' i j=M i j
  ·rw [e] at hlt ⊢
   obtain ⟨u,d,hu,he,h1⟩:=h.pr i j hi hj hlt hij
   exact ⟨u,d,hu,he,by have:=hle i u hi hu;omega⟩
  ·have e2:M' i j=M i k+M k j:=by rw [hM i j hi hj] at e ⊢;unfold thru at e ⊢;omega
   have h1:=h.nn i k hi hk
   have h2:=h.nn k j hk hj
   have hkj:k ≠ j:=by
    intro hh
    subst hh
    rw [h.zz k hk] at e2
    have:=hle i k hi hk
    omega
   obtain ⟨u,d,hu,he,h3⟩:=h.pr k j hk hj (by omega) hkj
   refine ⟨u,d,hu,he,?_⟩
   have h4:=hM i u hi hu
   unfold thru at h4
   omega
theorem thru_tri {n:Nat} {E:Nat → Nat → Int → Prop} {M M' : Mat} {k:Nat} (h:MatOk n E M) (hk:k < n) (hM:∀ a b,a < n → b < n → M' a b=thru M k a b) (ht:Tri n k M):Tri n (k+1) M' := by
 intro v hv i j hi hj
 have hvn:v < n:=by omega
 rw [hM i j hi hj,hM i v hi hvn,hM v j hvn hj]
 unfold thru
 by_cases e:v=k
 ·subst e
  have h1:=h.zz v hk
  have h2:=h.nn i v hi hk
  have h3:=h.nn v j hk hj
  omega
 ·have t1:=ht v (by omega) i j hi hj
  have t2:=ht v (by omega) k j hk hj
  have t3:=ht v (by omega) i k hi hk
  have h1:=h.nn k v hk hvn
  have h2:=h.nn v k hvn hk
  omega
theorem fw_ok {n:Nat} {E:Nat → Nat → Int → Prop} {M:Mat} (h:MatOk n E M) (hE:∀ i j d,E i j d → 0 ≤ d):∀ k,k ≤ n → MatOk n E (fwK M n k)∧Tri n k (fwK M n k)
 | 0,_=>⟨h,fun v hv=>absurd hv (by omega)⟩
 | k+1,hk=>by
  obtain ⟨h1,h2⟩:=fw_ok h hE k (by omega)
  have hM:∀ a b,a < n → b < n → fwK M n (k+1) a b=thru (fwK M n k) k a b:=fun a b ha hb=>by
   show fwI (fwK M n k) k n n a b=_
   rw [fwI_at (by omega) h1.nn h1.zz n (Nat.le_refl _) a b ha hb,if_pos ha]
  exact ⟨thru_ok h1 hE (by omega) hM,thru_tri h1 (by omega) hM h2⟩
def trvM (n:Nat) (l:List Wy):Mat:=fwK (wayTo l l.length) n n
theorem trv_ok {n:Nat} {l:List Wy} (hl:∀ i,i < l.length → WyOk n (wyAt l i)):MatOk n (EdTo l l.length) (trvM n l)∧Tri n n (trvM n l) :=
 fw_ok (wayTo_ok hl _ (Nat.le_refl _)) (fun i j d he=>by obtain ⟨q,hq,hd,_⟩:=he;have:=hl q hq;obtain ⟨_,_,_,h1,_⟩:=this;omega) n (Nat.le_refl _)
abbrev Vc:=Nat → Int
def set1 (o:Vc) (a:Nat) (x:Int):Vc:=fun i=>if i=a then x else o i
def rlx (o:Vc) (a b:Nat) (d:Int):Vc:=if 0 ≤ o a∧(o b < 0 ∨ o a+d < o b) then set1 o b (o a+d) else o
def bfS (o:Vc) (w:Wy):Vc:=rlx (rlx o w.a.toNat w.b.toNat w.d) w.b.toNat w.a.toNat w.d
def bfW (l:List Wy) (o:Vc):Nat → Vc
 | 0=>o
 | m+1=>bfS (bfW l o m) (wyAt l m)
def bfR (l:List Wy) (o:Vc):Nat → Vc
 | 0=>o
 | r+1=>bfW l (bfR l o r) l.length
def bf0 (a:Nat):Vc:=fun i=>if i=a then 0 else -1
def frmV (n:Nat) (l:List Wy) (a:Nat):Vc:=bfR l (bf0 a) n
def VcOk (n:Nat) (D:Vc) (c:Int) (o:Vc):Prop:=∀ v,v < n → -1 ≤ o v∧o v ≤ c∧(0 ≤ o v → D v ≤ o v)
def Fin (D:Vc) (o:Vc) (v:Nat):Prop:=0 ≤ o v∧o v ≤ D v
theorem rlx_ok {n:Nat} {D:Vc} {c:Int} {o:Vc} {a b:Nat} {d:Int} (h:VcOk n D c o) (ha:a < n) (hb:b < n) (d0:0 ≤ d) (d1:d ≤ 60) (hD:D b ≤ D a+d) (hc:0 ≤ c):VcOk n D (c+60) (rlx o a b d):=by
 intro v hv
 obtain ⟨h1,h2,h3⟩:=h v hv
 unfold rlx
 split
 ·rename_i hr
  obtain ⟨a1,a2,a3⟩:=h a ha
  unfold set1
  split
  ·rename_i e
   subst e
   have:=a3 hr.1
   refine ⟨by omega,by omega,fun _=>by omega⟩
  ·exact ⟨h1,by omega,h3⟩
 ·exact ⟨h1,by omega,h3⟩
theorem rlx_fin {D:Vc} {o:Vc} {a b v:Nat} {d:Int} (h:Fin D o v) (d0:0 ≤ d):Fin D (rlx o a b d) v:=by
 unfold rlx
 split
 ·rename_i hr
  unfold Fin set1
  split
  ·rename_i e
   subst e
   obtain ⟨h1,h2⟩:=h
   exact ⟨by omega,by omega⟩
  ·exact h
 ·exact h
theorem rlx_new {n:Nat} {D:Vc} {o:Vc} {a b:Nat} {d:Int} (hb:b < n) (h:Fin D o a) (d0:0 ≤ d) (hD:D a+d ≤ D b):Fin D (rlx o a b d) b:=by
 obtain ⟨h1,h2⟩:=h
 unfold rlx
 split
 ·unfold Fin set1
  rw [if_pos rfl]
  exact ⟨by omega,by omega⟩
 ·rename_i hr
  exact ⟨by omega,by omega⟩
section
variable {n:Nat} {l:List Wy} {a:Nat}
theorem bfS_ok {D:Vc} {c:Int} {o:Vc} {q:Nat} (h:VcOk n D c o) (hw:WyOk n (wyAt l q)) (hq:q < l.length) (hE:∀ i j d,i < n → j < n → EdTo l l.length i j d → D j ≤ D i+d) (hc:0 ≤ c):VcOk n D (c+120) (bfS o (wyAt l q)):=by
 obtain ⟨⟨a0,a1⟩,⟨b0,b1⟩,hne,d0,d1⟩:=hw
 unfold bfS
 have e:=rlx_ok (rlx_ok h (a:=(wyAt l q).a.toNat) (b:=(wyAt l q).b.toNat) (by omega) (by omega) (by omega) d1 (hE _ _ _ (by omega) (by omega) ⟨q,hq,rfl,by omega⟩) hc)
  (a:=(wyAt l q).b.toNat) (b:=(wyAt l q).a.toNat) (by omega) (by omega) (by omega) d1 (hE _ _ _ (by omega) (by omega) ⟨q,hq,rfl,by omega⟩) (by omega)
 intro v hv
 obtain ⟨h1,h2,h3⟩:=e v hv
 exact ⟨h1,by omega,h3⟩
theorem bfS_fin {D:Vc} {o:Vc} {v q:Nat} (h:Fin D o v) (hw:WyOk n (wyAt l q)):Fin D (bfS o (wyAt l q)) v:=by
 obtain ⟨_,_,_,d0,_⟩:=hw
 exact rlx_fin (rlx_fin h (by omega)) (by omega)
theorem bfW_ok {D:Vc} {o:Vc} {c:Int} (hl:∀ i,i < l.length → WyOk n (wyAt l i)) (h:VcOk n D c o) (hE:∀ i j d,i < n → j < n → EdTo l l.length i j d → D j ≤ D i+d) (hc:0 ≤ c) :
  ∀ m,m ≤ l.length → VcOk n D (c+120 * m) (bfW l o m)
 | 0,_=>by
  show VcOk n D (c+120 * 0) o
  rw [Int.mul_zero,Int.add_zero]
  exact h
 | m+1,hm=>by
  have ih:=bfW_ok hl h hE hc m (by omega)
  have:=bfS_ok ih (hl m (by omega)) (by omega) hE (by omega)
  have e:c+120 * ((m+1:Nat):Int)=c+120 * m+120:=by omega
  rw [e]
  exact this
theorem bfW_fin {D:Vc} {o:Vc} {v:Nat} (hl:∀ i,i < l.length → WyOk n (wyAt l i)) (h:Fin D o v):∀ m,m ≤ l.length → Fin D (bfW l o m) v
 | 0,_=>h
 | m+1,hm=>bfS_fin (bfW_fin hl h m (by omega)) (hl m (by omega))
theorem bfW_new {D:Vc} {o:Vc} {u v:Nat} {d:Int} (hl:∀ i,i < l.length → WyOk n (wyAt l i)) (hu:Fin D o u) (hv:v < n) (hd:EdTo l l.length u v d) (hD:D u+d ≤ D v):Fin D (bfW l o l.length) v:=by
 obtain ⟨q,hq,he,hc⟩:=hd
 have hstep:Fin D (bfW l o (q+1)) v:=by
  have h1:=bfW_fin hl hu q (by omega)
  obtain ⟨⟨a0,a1⟩,⟨b0,b1⟩,hne,d0,d1⟩:=hl q hq
  show Fin D (bfS _ _) v
  unfold bfS
  rcases hc with ⟨c1,c2⟩ | ⟨c1,c2⟩
  ·have e1:(wyAt l q).a.toNat=u:=by omega
   have e2:(wyAt l q).b.toNat=v:=by omega
   rw [e1,e2]
   exact rlx_fin (rlx_new hv h1 (by omega) (by omega)) (by omega)
  ·have e1:(wyAt l q).b.toNat=u:=by omega
   have e2:(wyAt l q).a.toNat=v:=by omega
   rw [e1,e2]
   exact rlx_new hv (rlx_fin h1 (by omega)) (by omega) (by omega)
 have hgo:∀ m,q+1 ≤ m → m ≤ l.length → Fin D (bfW l o m) v:=by
  intro m h1 h2
  induction m with
  | zero=>omega
  | succ m ih =>
   by_cases e:q+1=m+1
   ·rw [← e];exact hstep
   ·exact bfS_fin (ih (by omega) (by omega)) (hl m (by omega))
 exact hgo _ (by omega) (Nat.le_refl _)
def rk (D:Vc) (x:Int):Nat → Nat
 | 0=>0
 | m+1=>rk D x m+if D m < x then 1 else 0
theorem rk_le (D:Vc) (x:Int):∀ m,rk D x m ≤ m
 | 0=>Nat.le_refl _
 | m+1=>by have:=rk_le D x m;unfold rk;split <;> omega
theorem rk_mono {D:Vc} {x y:Int} (h:x ≤ y):∀ m,rk D x m ≤ rk D y m
 | 0=>Nat.le_refl _
 | m+1=>by
  have:=rk_mono (D:=D) h m
  unfold rk
  split <;> split <;> omega
theorem rk_lt {D:Vc} {x y:Int} (h:x < y):∀ m u,u < m → D u=x → rk D x m < rk D y m
 | 0,u,hu,_=>absurd hu (by omega)
 | m+1,u,hu,e=>by
  unfold rk
  by_cases hm:u=m
  ·subst hm
   have:=rk_mono (D:=D) (Int.le_of_lt h) u
   rw [if_neg (by omega),if_pos (by omega)]
   omega
  ·have:=rk_lt h m u (by omega) e
   split <;> split <;> omega
theorem bfR_ok {D:Vc} (hl:∀ i,i < l.length → WyOk n (wyAt l i)) (ha:a < n) (hz:D a=0) (hE:∀ i j d,i < n → j < n → EdTo l l.length i j d → D j ≤ D i+d):∀ r:Nat,VcOk n D (120 * l.length * r) (bfR l (bf0 a) r)
 | 0=>fun v hv=>by
  show -1 ≤ bf0 a v∧bf0 a v ≤ _∧(0 ≤ bf0 a v → D v ≤ bf0 a v)
  unfold bf0
  split
  ·rename_i e;subst e;exact ⟨by omega,by simp,fun _=>by omega⟩
  ·exact ⟨by omega,by simp,fun h=>absurd h (by omega)⟩
 | r+1=>by
  have ih:=bfR_ok hl ha hz hE r
  have h0:(0:Int) ≤ 120 * l.length * r:=by
    have:(0:Int) ≤ ((120 * l.length * r:Nat):Int):=by omega
    simpa using this
  have:=bfW_ok hl ih hE h0 l.length (Nat.le_refl _)
  have e:(120:Int) * l.length * ((r+1:Nat):Int)=120 * l.length * r+120 * l.length:=by push_cast;rw [Int.mul_add,Int.mul_one]
  rw [e]
  exact this
theorem bfR_fin {M:Mat} (hl:∀ i,i < l.length → WyOk n (wyAt l i)) (ha:a < n) (hM:MatOk n (EdTo l l.length) M) :
  ∀ r v,v < n → M a v < 1000000 → rk (M a) (M a v) n ≤ r → Fin (M a) (bfR l (bf0 a) r) v
 | 0,v,hv,hlt,hr=>by
  have h0:¬ M a a < M a v:=by
   intro hh
   have:=rk_lt hh n a ha rfl
   omega
  rw [hM.zz a ha] at h0
  have hn:=hM.nn a v ha hv
  have hav:a=v:=by
   by_cases e:a=v
   ·exact e
   ·obtain ⟨u,d,hu,⟨q,hq,hd,_⟩,h1⟩:=hM.pr a v ha hv hlt e
    have:=hM.nn a u ha hu
    obtain ⟨_,_,_,d0,_⟩:=hl q hq
    omega
  subst hav
  unfold Fin bfR bf0
  rw [if_pos rfl]
  exact ⟨by omega,hn⟩
 | r+1,v,hv,hlt,hr=>by
  show Fin (M a) (bfW l (bfR l (bf0 a) r) l.length) v
  by_cases e:a=v
  ·subst e
   refine bfW_fin hl (bfR_fin hl ha hM r a hv hlt ?_) _ (Nat.le_refl _)
   have hz:rk (M a) (M a a) n=0:=by
    have hall:∀ m,m ≤ n → rk (M a) (M a a) m=0:=by
     intro m hm
     induction m with
     | zero=>rfl
     | succ m ih =>
      unfold rk
      rw [ih (by omega),if_neg (by rw [hM.zz a ha];have:=hM.nn a m ha (by omega);omega)]
    exact hall n (Nat.le_refl _)
   omega
  ·obtain ⟨u,d,hu,he,h1⟩:=hM.pr a v ha hv hlt e
   obtain ⟨q,hq,hd,hc⟩:=id he
   obtain ⟨_,_,_,d0,_⟩:=hl q hq
   have hlu:M a u < M a v:=by omega
   have:=rk_lt hlu n u hu rfl
   exact bfW_new hl (bfR_fin hl ha hM r u hu (by omega) (by omega)) hv he h1
theorem travel_same (hl:∀ i,i < l.length → WyOk n (wyAt l i)) (hl40:l.length ≤ 40) (hn:n ≤ 12) {b:Nat} (ha:a < n) (hb:b < n) :
  (trvM n l a b < 1000000∧frmV n l a b=trvM n l a b) ∨ (trvM n l a b=1000000∧frmV n l a b = -1):=by
 obtain ⟨hM,hT⟩:=trv_ok hl
 have hE:∀ i j d,i < n → j < n → EdTo l l.length i j d → trvM n l a j ≤ trvM n l a i+d:=fun i j d hi hj he=>by
  have h1:=hT i hi a j ha hj
  have h2:=hM.ed i j d hi hj he
  omega
 obtain ⟨h1,h2,h3⟩:=bfR_ok hl ha (hM.zz a ha) hE n b hb
 have hle:=hM.le a b ha hb
 have hbound:(120:Int) * l.length * n ≤ 57600:=by
  have e:(120 * l.length * n:Nat) ≤ 120 * 40 * 12:=Nat.mul_le_mul (Nat.mul_le_mul (Nat.le_refl _) hl40) hn
  have e2:((120 * l.length * n:Nat):Int)=(120:Int) * l.length * n:=by push_cast;rfl
  omega
 by_cases hlt:trvM n l a b < 1000000
 ·have hf:=bfR_fin hl ha hM n b hb hlt (rk_le _ _ _)
  obtain ⟨f1,f2⟩:=hf
  have:=h3 f1
  exact .inl ⟨hlt,by show bfR l (bf0 a) n b=_;omega⟩
 ·refine .inr ⟨by omega,?_⟩
  show bfR l (bf0 a) n b=_
  by_cases h0:0 ≤ bfR l (bf0 a) n b
  ·have:=h3 h0
   omega
  ·omega
end
end Go.Proofs.YtechbeegbhlppaaGreatDoor
