/- Plain: strings (equality, order, names of small letters). No program in sight. -/
import Derived.WalkKit
import Derived.Lib.SlTrimSet
import Derived.Lib.Hide
import Derived.Laws.Cover1
namespace Go.Proofs.YtechbeegbhlppaaGreatDoor
set_option linter.unusedVariables false
set_option linter.unusedSimpArgs false
def byt (s:ByteArray) (k:Nat):Int:=if h:k < s.size then ((s[k]'h).toNat:Int) else 0
theorem get_byt (s:ByteArray):∀ (n:Nat) (h:n < s.size),((s[n]'h).toNat:Int)=byt s n:=fun n h=>by unfold byt;rw [dif_pos h]
theorem toList_data (a:ByteArray):a.toList=a.data.toList:=Lib.toList_data a
theorem bytes_ext {a b:ByteArray} (h:a.data.toList=b.data.toList):a=b:=by
 cases a;cases b
 congr 1
 exact Array.toList_inj.1 h
theorem str_eq (a b:ByteArray):(a.toList == b.toList)=decide (a=b):=by
 rw [toList_data,toList_data,Bool.eq_iff_iff,beq_iff_eq,decide_eq_true_eq]
 exact ⟨bytes_ext,fun h=>by rw [h]⟩
theorem str_same (a:ByteArray):(a.toList == a.toList)=true:=beq_self_eq_true _
theorem str_ne {a b:ByteArray} (h:a ≠ b):(a.toList == b.toList)=false:=by rw [str_eq];exact decide_eq_false h
theorem str_is {a b:ByteArray} (h:a=b):(a.toList == b.toList)=true:=by rw [str_eq];exact decide_eq_true h
def sLt (a b:ByteArray):Prop:=Op.bytesLess a.toList b.toList=true
theorem bl_irr:∀ l:List UInt8,Op.bytesLess l l=false
 | []=>rfl
 | a :: x=>by
  unfold Op.bytesLess
  rw [bl_irr x]
  simp
theorem bl_asym:∀ l m:List UInt8,Op.bytesLess l m=true → Op.bytesLess m l=false
 | [],[],h=>by simp [Op.bytesLess] at h
 | [],_ :: _,_=>rfl
 | _ :: _,[],h=>by simp [Op.bytesLess] at h
 | a :: x,b :: y,h=>by
  unfold Op.bytesLess at h ⊢
  simp only [Bool.or_eq_true,Bool.and_eq_true,decide_eq_true_eq,beq_iff_eq,Bool.or_eq_false_iff,decide_eq_false_iff_not,Bool.and_eq_false_iff,beq_eq_false_iff_ne,ne_eq] at h ⊢
  rcases h with h | ⟨rfl,h⟩
  ·exact ⟨UInt8.not_lt.2 (UInt8.le_of_lt h),.inl (fun e=>by subst e;exact absurd h (UInt8.lt_irrefl _))⟩
  ·exact ⟨UInt8.lt_irrefl _,.inr (bl_asym x y h)⟩
theorem bl_tri:∀ l m:List UInt8,Op.bytesLess l m=false → Op.bytesLess m l=false → l=m
 | [],[],_,_=>rfl
 | [],_ :: _,h,_=>by simp [Op.bytesLess] at h
 | _ :: _,[],_,h=>by simp [Op.bytesLess] at h
 | a :: x,b :: y,h,k=>by
  unfold Op.bytesLess at h k
  simp only [Bool.or_eq_false_iff,decide_eq_false_iff_not,Bool.and_eq_false_iff,beq_eq_false_iff_ne,ne_eq] at h k
  have e:a=b:=UInt8.le_antisymm (UInt8.not_lt.1 k.1) (UInt8.not_lt.1 h.1)
  subst e
  congr 1
  exact bl_tri x y (h.2.resolve_left (fun hh=>hh rfl)) (k.2.resolve_left (fun hh=>hh rfl))
theorem bl_trans:∀ l m n:List UInt8,Op.bytesLess l m=true → Op.bytesLess m n=true → Op.bytesLess l n=true
 | [],[],_,h,_=>by simp [Op.bytesLess] at h
 | _ :: _,[],_,h,_=>by simp [Op.bytesLess] at h
 | _,_ :: _,[],_,h=>by simp [Op.bytesLess] at h
 | [],_ :: _,_ :: _,_,_=>rfl
 | a :: x,b :: y,c :: z,h,k=>by
  unfold Op.bytesLess at h k ⊢
  simp only [Bool.or_eq_true,Bool.and_eq_true,decide_eq_true_eq,beq_iff_eq] at h k ⊢
  rcases h with h | ⟨rfl,h⟩
  ·rcases k with k | ⟨rfl,k⟩
   ·exact .inl (UInt8.lt_trans h k)
   ·exact .inl h
  ·rcases k with k | ⟨rfl,k⟩
   ·exact .inl k
   ·exact .inr ⟨rfl,bl_trans x y z h k⟩
theorem sLt_irr (a:ByteArray):¬ sLt a a:=by unfold sLt;rw [bl_irr];simp
theorem sLt_asym {a b:ByteArray} (h:sLt a b):¬ sLt b a:=by unfold sLt at *;rw [bl_asym _ _ h];simp
theorem sLt_tri {a b:ByteArray} (h:¬ sLt a b) (k:¬ sLt b a):a=b:=by
 unfold sLt at *
 refine bytes_ext ?_
 rw [← toList_data,← toList_data]
 exact bl_tri _ _ (by simpa using h) (by simpa using k)
theorem sLt_trans {a b c:ByteArray} (h:sLt a b) (k:sLt b c):sLt a c:=bl_trans _ _ _ h k
theorem sLt_ne {a b:ByteArray} (h:sLt a b):a ≠ b:=fun e=>by subst e;exact sLt_irr _ h
theorem sl_true {a b:ByteArray} (h:sLt a b):Op.bytesLess a.toList b.toList=true:=h
theorem sl_false {a b:ByteArray} (h:¬ sLt a b):Op.bytesLess a.toList b.toList=false:=by unfold sLt at h;simpa using h
def LowB (s:ByteArray):Prop:=∀ i,i < s.size → 97 ≤ byt s i∧byt s i ≤ 122
def NameOk (s:ByteArray) (most:Int):Prop:=1 ≤ (s.size:Int)∧(s.size:Int) ≤ most∧LowB s
def abc:List UInt8:=[97,98,99,100,101,102,103,104,105,106,107,108,109,110,111,112,113,114,115,116,117,118,119,120,121,122]
theorem abc_iff (b:UInt8):abc.contains b=true ↔ 97 ≤ b.toNat∧b.toNat ≤ 122:=by
 have h:∀ n:Fin 256,abc.contains (UInt8.ofNat n.val)=true ↔ 97 ≤ n.val∧n.val ≤ 122:=by decide +kernel
 have e:=h ⟨b.toNat,UInt8.toNat_lt b⟩
 simpa using e
theorem dropWhile_nil {α:Type} (p:α → Bool):∀ l:List α,l.dropWhile p=[] ↔ ∀ x ∈ l,p x=true
 | []=>by simp
 | a :: l=>by
  rw [List.dropWhile_cons]
  split
  ·rename_i h
   rw [dropWhile_nil p l]
   simp [h]
  ·rename_i h
   simp [h]
theorem trim_nil (l:List UInt8):Lib.trimS l abc=[] ↔ ∀ b ∈ l,97 ≤ b.toNat∧b.toNat ≤ 122:=by
 unfold Lib.trimS Lib.trimLeftS Lib.trimRightS
 rw [dropWhile_nil]
 constructor
 ·intro h
  by_cases e:l.reverse.dropWhile (abc.contains ·)=[]
  ·rw [dropWhile_nil] at e
   intro b hb
   exact (abc_iff b).1 (e b (List.mem_reverse.2 hb))
  ·cases hd:l.reverse.dropWhile (abc.contains ·) with
   | nil=>exact absurd hd e
   | cons a m =>
    have h1:=List.head?_dropWhile_not (abc.contains ·) l.reverse
    rw [hd] at h1
    have h2:=h a (by rw [hd];simp)
    simp only [List.head?_cons] at h1
    rw [h1] at h2
    cases h2
 ·intro h
  have e:l.reverse.dropWhile (abc.contains ·)=[]:=by
   rw [dropWhile_nil]
   intro b hb
   exact (abc_iff b).2 (h b (List.mem_reverse.1 hb))
  rw [e]
  intro x hx
  cases hx
theorem lowB_list (s:ByteArray):LowB s ↔ ∀ b ∈ s.data.toList,97 ≤ b.toNat∧b.toNat ≤ 122:=by
 unfold LowB byt
 constructor
 ·intro h b hb
  obtain ⟨i,hi,rfl⟩:=List.mem_iff_getElem.1 hb
  have hi' : i < s.size:=by simpa using hi
  have:=h i hi'
  rw [dif_pos hi'] at this
  have e:s[i]=s.data.toList[i]:=rfl
  rw [e] at this
  omega
 ·intro h i hi
  rw [dif_pos hi]
  have:=h s[i] (List.mem_iff_getElem.2 ⟨i,by simpa using hi,rfl⟩)
  omega
theorem trim_name (s:ByteArray):((⟨(Lib.trimS s.data.toList abc).toArray⟩:ByteArray).toList == (⟨#[]⟩:ByteArray).toList)=true ↔ LowB s:=by
 rw [lowB_list,← trim_nil,toList_data,toList_data]
 simp
end Go.Proofs.YtechbeegbhlppaaGreatDoor
