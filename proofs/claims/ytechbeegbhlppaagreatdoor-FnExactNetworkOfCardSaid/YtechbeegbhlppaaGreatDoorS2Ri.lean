/- Texts merged (a claim holds at most sixty files): Ri, Ki. -/
import Derived.Orders
import Derived.Deep.RegionHeld3
import Derived.Test.YtechbeegbhlppaaGreatDoorS2Lib
import Derived.Deep.Quiet
namespace Go.Proofs.YtechbeegbhlppaaGreatDoor
set_option linter.unusedVariables false
set_option linter.unusedSimpArgs false
open Go
def Closed (md:Region.Mode) (ops:Array Oper) (listed:Array Bool):Prop:=∀ j o,ops[j]? = some o → listed.getD j false=true → ∀ e ∈ o.after,Region.binds md e=true → listed.getD e.on false=true
theorem set_get {listed:Array Bool} {i j:Nat} (h:(listed.setIfInBounds i true).getD j false=true):j=i ∨ listed.getD j false=true:=by
 by_cases e:j=i
 ·exact .inl e
 ·refine .inr ?_
  simp only [Array.getD_eq_getD_getElem?] at h ⊢
  rw [Array.getElem?_setIfInBounds_ne (by omega)] at h
  exact h
theorem set_old {listed:Array Bool} {i j:Nat} (h:listed.getD j false=true):(listed.setIfInBounds i true).getD j false=true:=getD_set_true h
theorem get_one {listed:Array Bool} {i:Nat} (h:listed.getD i true=false):(listed.setIfInBounds i true).getD i false=true∧listed.getD i false=false:=by
 simp only [Array.getD_eq_getD_getElem?] at h ⊢
 rcases Nat.lt_or_ge i listed.size with h' | h'
 ·simp [h'] at h ⊢
  exact h
 ·simp [Array.getElem?_eq_none h'] at h
def lowB (ops:Array Oper):Bool:=(List.range ops.size).all (fun j=>((ops[j]?).map (fun o=>o.after.all (fun e=>decide (e.on < j)))).getD true)
theorem low_done {md:Region.Mode} {ops:Array Oper} (h:lowB ops=true) {listed:Array Bool} (hsz:listed.size=ops.size) (hr:Region.ready md ops listed=[]):∀ i,i < ops.size → listed.getD i false=true:=by
 intro i
 induction i using Nat.strongRecOn with
 | _ i ih =>
  intro hi
  cases hl:listed.getD i false with
  | true=>rfl
  | false =>
   have hmem:i ∈ Region.ready md ops listed:=by
    refine mem_ready.2 ⟨?_,ops[i],by simp [hi],fun e he _=>?_⟩
    ·simp only [Array.getD_eq_getD_getElem?] at hl ⊢
     have:i < listed.size:=by omega
     simp [this] at hl ⊢
     exact hl
    ·have h1:=List.all_eq_true.1 h i (List.mem_range.2 hi)
     simp only [Array.getElem?_eq_getElem hi,Option.map_some,Option.getD_some] at h1
     have h2:=Array.all_eq_true_iff_forall_mem.1 h1 e he
     have h3:e.on < i:=by simpa using h2
     exact ih e.on h3 (by omega)
   rw [hr] at hmem
   simp at hmem
end Go.Proofs.YtechbeegbhlppaaGreatDoor
namespace Go.Proofs.YtechbeegbhlppaaGreatDoor
set_option linter.unusedVariables false
set_option linter.unusedSimpArgs false
open Go
def needB (ops:Array Oper):Bool:=(List.range (ops.size - 1)).all (fun j=>(List.range ops.size).any (fun k=>decide (j < k) && ((ops[k]?).map (fun o=>o.after.any (fun e=>Region.binds .any e && decide (e.on=j)))).getD false))
theorem needB_at {ops:Array Oper} (h:needB ops=true) {j:Nat} (hj:j < ops.size - 1):∃ k o e,j < k∧k < ops.size∧ops[k]? = some o∧e ∈ o.after∧Region.binds .any e=true∧e.on=j:=by
 have h1:=List.all_eq_true.1 h j (List.mem_range.2 hj)
 obtain ⟨k,hk,h2⟩:=List.any_eq_true.1 h1
 simp only [Bool.and_eq_true,decide_eq_true_eq] at h2
 obtain ⟨h2,h3⟩:=h2
 have hk' := List.mem_range.1 hk
 rw [Array.getElem?_eq_getElem hk'] at h3
 simp only [Option.map_some,Option.getD_some] at h3
 obtain ⟨e,he,h4⟩:=Array.any_eq_true'.1 h3
 simp only [Bool.and_eq_true,decide_eq_true_eq] at h4
 exact ⟨k,ops[k],e,h2,hk', Array.getElem?_eq_getElem hk', he,h4.1,h4.2⟩
theorem all_listed {ops:Array Oper} {listed:Array Bool} (hn:needB ops=true) (hC:Closed .any ops listed) (hr:(ops.size - 1) ∈ Region.ready .any ops listed):∀ d j,j+d=ops.size - 1 → 0 < d → listed.getD j false=true:=by
 intro d
 induction d using Nat.strongRecOn with
 | _ d ih =>
  intro j hj hd
  obtain ⟨k,o,e,hjk,hk,ho,he,hb,hon⟩:=needB_at hn (j:=j) (by omega)
  by_cases e1:k=ops.size - 1
  ·obtain ⟨_,o', ho', hall⟩:=mem_ready.1 hr
   rw [← e1,ho] at ho'
   injection ho' with ho'
   subst ho'
   have:=hall e he hb
   rwa [hon] at this
  ·have hk2:=ih (ops.size - 1 - k) (by omega) k (by omega) (by omega)
   have:=hC k o ho hk2 e he hb
   rwa [hon] at this
section
variable {P:Program} {C:World → Prop} {Q:Exit → Act → World → Prop} {ops ops' : Array Oper}
theorem anyQ_mono {md:Region.Mode} {Q1 Q2:Act → Prop} (h:∀ a,Q1 a → Q2 a):∀ (fuel:Nat) (listed:Array Bool) (a:Act),wpAnyQ P md ops C Q1 fuel listed a → wpAnyQ P md ops C Q2 fuel listed a
 | 0,_,_,hh=>⟨hh.1,h _ hh.2⟩
 | fuel+1,_,_,hh=>⟨fun h0=>h _ (hh.1 h0),fun i hi=>qOp_mono (fun a' h3=>anyQ_mono h fuel _ a' h3) (hh.2 i hi)⟩
theorem any_last (hsz:ops.size=ops'.size+1) (hpre:∀ j,j < ops'.size → ops[j]? = ops'[j]?) (hg:∀ (j:Nat) o,ops[j]? = some o → o.guard=none) (hlow:lowB ops=true) (hneed:needB ops=true) :
  ∀ (fuel:Nat) (listed' listed:Array Bool) (a:Act) (w:World),listed.size=ops.size → listed'.size=ops'.size → (∀ j,j < ops'.size → listed.getD j false=listed'.getD j false) → listed.getD ops'.size false=false →
   Closed .any ops listed → C w → wpAnyQ P .any ops' C (fun a' => ∀ w', C w' → wpOp P ops Q ops'.size (fun a'' w'' => Q .normal a'' w'') a' w') fuel listed' a → wpAny P .any ops Q (fuel+1) listed a w:=by
 have hlowj:∀ (j:Nat) o,ops[j]? = some o → ∀ e ∈ o.after,e.on < j:=fun j o ho e he=>by
  have hj:j < ops.size:=(Array.getElem?_eq_some_iff.1 ho).1
  have h1:=List.all_eq_true.1 hlow j (List.mem_range.2 hj)
  rw [ho] at h1
  simp only [Option.map_some,Option.getD_some] at h1
  have h2:=Array.all_eq_true_iff_forall_mem.1 h1 e he
  simpa using h2
 have getT:∀ {l:Array Bool} {j:Nat},j < l.size → l.getD j true=l.getD j false:=fun {l j} h=>by
  simp only [Array.getD_eq_getD_getElem?]
  simp [h]
 have rd:∀ (listed' listed:Array Bool),listed.size=ops.size → listed'.size=ops'.size → (∀ j,j < ops'.size → listed.getD j false=listed'.getD j false) → ∀ i,i < ops'.size → (i ∈ Region.ready .any ops listed ↔ i ∈ Region.ready .any ops' listed'):=by
  intro listed' listed h1 h2 h3 i hi
  rw [mem_ready,mem_ready,hpre i hi,getT (by omega),getT (by omega),h3 i hi]
  constructor
  ·rintro ⟨a1,o,ho,hall⟩
   refine ⟨a1,o,ho,fun e he hb=>?_⟩
   have:=hlowj i o ((hpre i hi).trans ho) e he
   rw [← h3 e.on (by omega)]
   exact hall e he hb
  ·rintro ⟨a1,o,ho,hall⟩
   refine ⟨a1,o,ho,fun e he hb=>?_⟩
   have:=hlowj i o ((hpre i hi).trans ho) e he
   rw [h3 e.on (by omega)]
   exact hall e he hb
 have rlt:∀ (listed:Array Bool) i,i ∈ Region.ready .any ops listed → i < ops'.size ∨ i=ops'.size:=fun listed i hi=>by
  obtain ⟨_,o,ho,_⟩:=mem_ready.1 hi
  have:=(Array.getElem?_eq_some_iff.1 ho).1
  omega
 have last:∀ (fuel:Nat) (listed' listed:Array Bool) (a:Act) (w:World),listed.size=ops.size → listed'.size=ops'.size → (∀ j,j < ops'.size → listed.getD j false=listed'.getD j false) → Closed .any ops listed → C w →
   (Region.ready .any ops' listed' = [] → ∀ w', C w' → wpOp P ops Q ops'.size (fun a'' w'' => Q .normal a'' w'') a w') → ops'.size ∈ Region.ready .any ops listed → wpOp P ops Q ops'.size (wpAny P .any ops Q fuel (listed.setIfInBounds ops'.size true)) a w:=by
  intro fuel listed' listed a w h1 h2 h3 hC hw hq hr
  have hr' : (ops.size - 1) ∈ Region.ready .any ops listed:=by rw [hsz];simpa using hr
  have hall:∀ j,j < ops'.size → listed.getD j false=true:=fun j hj=>all_listed hneed hC hr' (ops.size - 1 - j) j (by omega) (by omega)
  have hempty:Region.ready .any ops' listed' = []:=by
   refine List.eq_nil_iff_forall_not_mem.2 (fun i hi=>?_)
   obtain ⟨hu,o,ho,_⟩:=mem_ready.1 hi
   have hil:i < ops'.size:=(Array.getElem?_eq_some_iff.1 ho).1
   rw [getT (by omega),← h3 i hil,hall i hil] at hu
   cases hu
  have hend:Region.ready .any ops (listed.setIfInBounds ops'.size true)=[]:=by
   refine List.eq_nil_iff_forall_not_mem.2 (fun i hi=>?_)
   obtain ⟨hu,o,ho,_⟩:=mem_ready.1 hi
   have hil:i < ops.size:=(Array.getElem?_eq_some_iff.1 ho).1
   rw [getT (by simpa using (by omega:i < listed.size))] at hu
   by_cases e:i=ops'.size
   ·subst e
    have:=(get_one (listed:=listed) (i:=ops'.size) (mem_ready.1 hr).1).1
    rw [this] at hu
    cases hu
   ·have h9:=set_old (i:=ops'.size) (hall i (by omega))
    rw [h9] at hu
    cases hu
  refine wpOp_mono (fun a' w' hQ=>?_) (hq hempty w hw)
  cases fuel with
  | zero=>exact ⟨hend,hQ⟩
  | succ n=>exact ⟨fun _=>hQ,fun i hi=>by rw [hend] at hi;cases hi⟩
 intro fuel
 induction fuel with
 | zero =>
  intro listed' listed a w h1 h2 h3 h4 hC hw h
  refine ⟨fun hr=>?_,fun i hi=>?_⟩
  ·exfalso
   have:ops'.size ∈ Region.ready .any ops listed:=by
    refine mem_ready.2 ⟨by rw [getT (by omega)];exact h4,ops[ops'.size]'(by omega),Array.getElem?_eq_getElem (by omega),fun e he hb=>?_⟩
    have hlt:=hlowj ops'.size _ (Array.getElem?_eq_getElem (by omega)) e he
    have hall:=low_done (md:=.any) (ops:=ops') (listed:=listed') ?_ h2 h.1 e.on hlt
    ·rw [h3 _ hlt];exact hall
    ·refine List.all_eq_true.2 (fun j hj=>?_)
     have hj:=List.mem_range.1 hj
     have h9:=List.all_eq_true.1 hlow j (List.mem_range.2 (by omega))
     rw [hpre j hj] at h9
     exact h9
   rw [hr] at this
   cases this
  ·rcases rlt listed i hi with hil | rfl
   ·rw [rd listed' listed h1 h2 h3 i hil,h.1] at hi
    cases hi
   ·exact last 0 listed' listed a w h1 h2 h3 hC hw (fun _=>h.2) hi
 | succ fuel ih =>
  intro listed' listed a w h1 h2 h3 h4 hC hw h
  refine ⟨fun hr=>?_,fun i hi=>?_⟩
  ·exfalso
   have he:Region.ready .any ops' listed' = []:=List.eq_nil_iff_forall_not_mem.2 (fun i hi=>by
    have hil:i < ops'.size:=by
     obtain ⟨_,o,ho,_⟩:=mem_ready.1 hi
     exact (Array.getElem?_eq_some_iff.1 ho).1
    rw [← rd listed' listed h1 h2 h3 i hil,hr] at hi
    cases hi)
   have:ops'.size ∈ Region.ready .any ops listed:=by
    refine mem_ready.2 ⟨by rw [getT (by omega)];exact h4,ops[ops'.size]'(by omega),Array.getElem?_eq_getElem (by omega),fun e he2 hb=>?_⟩
    have hlt:=hlowj ops'.size _ (Array.getElem?_eq_getElem (by omega)) e he2
    have hall:=low_done (md:=.any) (ops:=ops') (listed:=listed') ?_ h2 he e.on hlt
    ·rw [h3 _ hlt];exact hall
    ·refine List.all_eq_true.2 (fun j hj=>?_)
     have hj:=List.mem_range.1 hj
     have h9:=List.all_eq_true.1 hlow j (List.mem_range.2 (by omega))
     rw [hpre j hj] at h9
     exact h9
   rw [hr] at this
   cases this
  ·rcases rlt listed i hi with hil | rfl
   ·have hi' := (rd listed' listed h1 h2 h3 i hil).1 hi
    have hq:=h.2 i hi'
    obtain ⟨o,ho⟩:∃ o,ops'[i]? = some o:=⟨ops'[i],Array.getElem?_eq_getElem hil⟩
    have ho2:ops[i]? = some o:=(hpre i hil).trans ho
    have hgo:=hg i o ho2
    have hw1:∀ y,Region.wanted o y=true:=fun y=>by simp [Region.wanted,hgo]
    have hq2:qOp P ops C i (wpAnyQ P .any ops' C (fun a' => ∀ w', C w' → wpOp P ops Q ops'.size (fun a'' w'' => Q .normal a'' w'') a' w') fuel (listed'.setIfInBounds i true)) a:=by
     unfold qOp at hq ⊢
     rw [ho] at hq
     rw [ho2]
     simp only [hw1,if_true] at hq ⊢
     exact hq
    refine wpOp_of_qOp hw (fun a' w' hw' hK=>?_) hq2
    have hun:=(mem_ready.1 hi).1
    refine ih (listed'.setIfInBounds i true) (listed.setIfInBounds i true) a' w' (by simpa using h1) (by simpa using h2) (fun j hj=>?_) ?_ ?_ hw' hK
    ·by_cases e:j=i
     ·subst e
      have g1:=(get_one (listed:=listed) (i:=j) hun).1
      have g2:=(get_one (listed:=listed') (i:=j) (mem_ready.1 hi').1).1
      rw [g1,g2]
     ·rw [getD_set_ne false (Ne.symm e),getD_set_ne false (Ne.symm e)]
      exact h3 j hj
    ·rw [getD_set_ne false (by omega)]
     exact h4
    ·intro j o' ho' hj e he hb
     rcases set_get hj with rfl | hj'
     ·obtain ⟨_,o2,ho2', hall⟩:=mem_ready.1 hi
      rw [ho'] at ho2'
      injection ho2' with ho2'
      subst ho2'
      exact set_old (hall e he hb)
     ·exact set_old (hC j o' ho' hj' e he hb)
   ·exact last _ listed' listed a w h1 h2 h3 hC hw h.1 hi
end
theorem wp_region_last {P:Program} {id:Nat} {Q:Exit → Act → World → Prop} {a:Act} {w:World} {l:List Oper} (hm:P.follows .mixedOrders=true) {o:Oper} (ho:l.getLast? = some o) (hg:l.all (fun o=>o.guard.isNone)=true)
  (hlow:lowB l.toArray=true) (hneed:needB l.toArray=true) (hB:Region.lexB .any l.dropLast.toArray=true)
  (h:wpQuiet P l.dropLast.toArray (fun w' => ∃ x,w' = onto w x) (fun a' => ∀ w', (∃ x,w' = onto w x) → o.wp P a' w' (fun a'' w'' => Q .normal a'' w'') Q) l.dropLast a):(Code.region id l.toArray true).wp P Q a w:=by
 have hne:l ≠ []:=fun e=>by subst e;cases ho
 have hl:l=l.dropLast ++ [o]:=by
  obtain ⟨ys,e⟩:=List.getLast?_eq_some_iff.1 ho
  rw [e]
  simp
 have hsz:l.toArray.size=l.dropLast.toArray.size+1:=by
  have:=congrArg List.length hl
  simpa using this
 have hpos:0 < l.length:=List.length_pos_iff.2 hne
 simp only [Region.lexB,Bool.and_eq_true] at hB
 have hlast:l.toArray[l.dropLast.toArray.size]? = some o:=by
  rw [List.getElem?_toArray]
  conv=>lhs;rw [hl]
  rw [List.getElem?_append_right (by simp)]
  simp
 have hw1:∀ y,Region.wanted o y=true:=fun y=>by
  have:o ∈ l:=List.mem_of_getLast? ho
  have:=List.all_eq_true.1 hg o this
  have:o.guard=none:=by simpa using this
  simp [Region.wanted,this]
 refine wp_region_any hm ?_
 have hq:=wpAnyQ_lex (P:=P) (C:=fun w' => ∃ x,w' = onto w x) (md:=.any) hB.1 l.dropLast 0 (Array.replicate l.dropLast.toArray.size false) a (by simp) (by simpa using hB.2) h
 have:=any_last (P:=P) (C:=fun w' => ∃ x,w' = onto w x) (Q:=Q) (ops:=l.toArray) (ops' := l.dropLast.toArray) hsz (fun j hj=>?_) (fun j o' ho' => ?_) hlow hneed l.dropLast.length (Array.replicate l.dropLast.toArray.size false) (Array.replicate l.toArray.size false) a { w with drawn:=w.drawn+1 } (by simp) (by simp) (fun j hj=>?_) ?_ (fun j o' _ hj=>?_) (onto_of ((Ext.refl w).drew)) ?_
 ·have e2:l.toArray.size=l.dropLast.length+1:=by simpa using hsz
  rw [← e2] at this
  exact this
 ·rw [List.getElem?_toArray,List.getElem?_toArray]
  conv=>lhs;rw [hl]
  rw [List.getElem?_append_left (by simpa using hj)]
 ·rw [List.getElem?_toArray] at ho'
  have:=List.all_eq_true.1 hg o' (List.mem_of_getElem? ho')
  simpa using this
 ·simp only [Array.getD_eq_getD_getElem?]
  have h1:j < l.toArray.size:=by omega
  simp only [Array.getElem?_replicate,if_pos h1,if_pos hj]
 ·simp only [Array.getD_eq_getD_getElem?, Array.getElem?_replicate]
  split <;> rfl
 ·simp only [Array.getD_eq_getD_getElem?, Array.getElem?_replicate] at hj
  split at hj <;> cases hj
 ·refine anyQ_mono (fun a' h2 w' hw' => ?_) _ _ _ hq
  unfold wpOp
  rw [hlast]
  simp only [hw1,if_true]
  exact .inl (h2 w' hw')
theorem last_end {P:Program} {ops:Array Oper} {C:World → Prop} {o:Oper} {Q:Exit → Act → World → Prop} {a:Act} {w:World} (h:∀ w1,Ext w w1 → o.wp P a w1 (fun a'' w'' => Q .normal a'' w'') Q) :
  wpQuiet P ops C (fun a' => ∀ w', (∃ x,w' = onto w x) → o.wp P a' w' (fun a'' w'' => Q .normal a'' w'') Q) [] a:=by
 refine wpQuiet_nil ?_
 rintro _ ⟨x,rfl⟩
 exact h _ (onto_ext w x)
end Go.Proofs.YtechbeegbhlppaaGreatDoor
