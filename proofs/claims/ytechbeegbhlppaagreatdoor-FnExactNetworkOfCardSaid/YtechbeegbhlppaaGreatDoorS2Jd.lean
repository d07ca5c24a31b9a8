/- Texts merged (a claim holds at most sixty files): Jd, Jm, Jw, Qa, Va, Vc, Qb. -/
import Derived.Test.YtechbeegbhlppaaGreatDoorS2Lib
import Derived.Test.YtechbeegbhlppaaGreatDoorS2Ja
import Derived.Test.YtechbeegbhlppaaGreatDoorS2Jf
namespace Go.Proofs.YtechbeegbhlppaaGreatDoor
set_option linter.unusedVariables false
set_option linter.unusedSimpArgs false
open Go.RowKit
structure Nsp where
 nm:ByteArray
 fr:Int
 to:Int
def nspAt (l:List Nsp) (i:Nat):Nsp:=l.getD i ⟨⟨#[]⟩,0,0⟩
def nspCell (l:List Nsp) (i:Nat):Value:=if i % 3=0 then .string (nspAt l (i / 3)).nm else if i % 3=1 then .int .i64 (nspAt l (i / 3)).fr else .int .i64 (nspAt l (i / 3)).to
theorem nspCell_0 (l:List Nsp) (j:Nat):nspCell l (j * 3)=.string (nspAt l j).nm:=by
 unfold nspCell
 rw [if_pos (by omega),show (j * 3) / 3=j from by omega]
theorem nspCell_1 (l:List Nsp) (j:Nat):nspCell l (j * 3+1)=.int .i64 (nspAt l j).fr:=by
 unfold nspCell
 rw [if_neg (by omega),if_pos (by omega),show (j * 3+1) / 3=j from by omega]
theorem nspCell_2 (l:List Nsp) (j:Nat):nspCell l (j * 3+2)=.int .i64 (nspAt l j).to:=by
 unfold nspCell
 rw [if_neg (by omega),if_neg (by omega),show (j * 3+2) / 3=j from by omega]
def Nsps (w:World) (lo hi:Nat) (v:Value) (l:List Nsp):Prop:=Row w lo hi 3 v l.length (nspCell l)
section
variable {w w' : World} {lo hi lo' hi' : Nat} {v:Value}
theorem Nsps.ext {l:List Nsp} (h:Nsps w lo hi v l) (hx:Ext w w') (hh:hi ≤ w.heap.size):Nsps w' lo hi v l:=Row.ext h hx hh
theorem Nsps.mono {l:List Nsp} (h:Nsps w lo hi v l) (h1:lo' ≤ lo) (h2:hi ≤ hi'):Nsps w lo' hi' v l:=Row.mono h h1 h2
theorem Nsps.up {l:List Nsp} (h:Nsps w 0 w.heap.size v l) (hx:Ext w w'):Nsps w' 0 w'.heap.size v l:=(h.ext hx (Nat.le_refl _)).mono (Nat.le_refl _) hx.size
theorem Nsps.len {l:List Nsp} (h:Nsps w lo hi v l):∃ A c,v=.slice A l.length c∧l.length ≤ 9223372036854775807∧l.length ≤ c:=by
 obtain ⟨hn,A,c,e,hc,_⟩:=h
 exact ⟨A,c,e,by unfold maxLen at hn;omega,hc⟩
theorem Nsps.at_ {A:Option Addr} {c:Nat} {l:List Nsp} {m i:Nat} (h:Nsps w lo hi (.slice A m c) l) (hi' : i < l.length) :
  ∃ b off,A=some ⟨b,off,none⟩∧lo ≤ b∧b < hi∧w.cell? ⟨b,off+i * 3,none⟩=some (.string (nspAt l i).nm)∧w.cell? ⟨b,off+i * 3+1,none⟩=some (.int .i64 (nspAt l i).fr)∧w.cell? ⟨b,off+i * 3+2,none⟩=some (.int .i64 (nspAt l i).to):=by
 obtain ⟨hn,A', c', e,hc,hr⟩:=h
 injection e with e1 e2 e3
 obtain ⟨b,off,hA,h1,h2,h3⟩:=hr (by omega)
 refine ⟨b,off,by rw [e1,hA],h1,h2,?_,?_,?_⟩
 ·rw [h3 (i * 3) (by omega)];exact congrArg some (nspCell_0 l i)
 ·rw [Nat.add_assoc,h3 (i * 3+1) (by omega)];exact congrArg some (nspCell_1 l i)
 ·rw [Nat.add_assoc,h3 (i * 3+2) (by omega)];exact congrArg some (nspCell_2 l i)
end
structure Trm where
 of:ByteArray
 pe:ByteArray
 fr:Int
 to:Int
def trmAt (l:List Trm) (i:Nat):Trm:=l.getD i ⟨⟨#[]⟩,⟨#[]⟩,0,0⟩
def trmCell (l:List Trm) (i:Nat):Value:=if i % 4=0 then .string (trmAt l (i / 4)).of else if i % 4=1 then .string (trmAt l (i / 4)).pe else if i % 4=2 then .int .i64 (trmAt l (i / 4)).fr else .int .i64 (trmAt l (i / 4)).to
theorem trmCell_0 (l:List Trm) (j:Nat):trmCell l (j * 4)=.string (trmAt l j).of:=by
 unfold trmCell
 rw [if_pos (by omega),show (j * 4) / 4=j from by omega]
theorem trmCell_1 (l:List Trm) (j:Nat):trmCell l (j * 4+1)=.string (trmAt l j).pe:=by
 unfold trmCell
 rw [if_neg (by omega),if_pos (by omega),show (j * 4+1) / 4=j from by omega]
theorem trmCell_2 (l:List Trm) (j:Nat):trmCell l (j * 4+2)=.int .i64 (trmAt l j).fr:=by
 unfold trmCell
 rw [if_neg (by omega),if_neg (by omega),if_pos (by omega),show (j * 4+2) / 4=j from by omega]
theorem trmCell_3 (l:List Trm) (j:Nat):trmCell l (j * 4+3)=.int .i64 (trmAt l j).to:=by
 unfold trmCell
 rw [if_neg (by omega),if_neg (by omega),if_neg (by omega),show (j * 4+3) / 4=j from by omega]
def Trms (w:World) (lo hi:Nat) (v:Value) (l:List Trm):Prop:=Row w lo hi 4 v l.length (trmCell l)
section
variable {w w' : World} {lo hi lo' hi' : Nat} {v:Value}
theorem Trms.ext {l:List Trm} (h:Trms w lo hi v l) (hx:Ext w w') (hh:hi ≤ w.heap.size):Trms w' lo hi v l:=Row.ext h hx hh
theorem Trms.mono {l:List Trm} (h:Trms w lo hi v l) (h1:lo' ≤ lo) (h2:hi ≤ hi'):Trms w lo' hi' v l:=Row.mono h h1 h2
theorem Trms.up {l:List Trm} (h:Trms w 0 w.heap.size v l) (hx:Ext w w'):Trms w' 0 w'.heap.size v l:=(h.ext hx (Nat.le_refl _)).mono (Nat.le_refl _) hx.size
theorem Trms.len {l:List Trm} (h:Trms w lo hi v l):∃ A c,v=.slice A l.length c∧l.length ≤ 9223372036854775807∧l.length ≤ c:=by
 obtain ⟨hn,A,c,e,hc,_⟩:=h
 exact ⟨A,c,e,by unfold maxLen at hn;omega,hc⟩
theorem Trms.at_ {A:Option Addr} {c:Nat} {l:List Trm} {m i:Nat} (h:Trms w lo hi (.slice A m c) l) (hi' : i < l.length) :
  ∃ b off,A=some ⟨b,off,none⟩∧lo ≤ b∧b < hi∧w.cell? ⟨b,off+i * 4,none⟩=some (.string (trmAt l i).of)∧w.cell? ⟨b,off+i * 4+1,none⟩=some (.string (trmAt l i).pe)∧w.cell? ⟨b,off+i * 4+2,none⟩=some (.int .i64 (trmAt l i).fr)∧w.cell? ⟨b,off+i * 4+3,none⟩=some (.int .i64 (trmAt l i).to):=by
 obtain ⟨hn,A', c', e,hc,hr⟩:=h
 injection e with e1 e2 e3
 obtain ⟨b,off,hA,h1,h2,h3⟩:=hr (by omega)
 refine ⟨b,off,by rw [e1,hA],h1,h2,?_,?_,?_,?_⟩
 ·rw [h3 (i * 4) (by omega)];exact congrArg some (trmCell_0 l i)
 ·rw [Nat.add_assoc,h3 (i * 4+1) (by omega)];exact congrArg some (trmCell_1 l i)
 ·rw [Nat.add_assoc,h3 (i * 4+2) (by omega)];exact congrArg some (trmCell_2 l i)
 ·rw [Nat.add_assoc,h3 (i * 4+3) (by omega)];exact congrArg some (trmCell_3 l i)
end
def wyCell (l:List Wy) (i:Nat):Value:=if i % 3=0 then .int .i64 (wyAt l (i / 3)).a else if i % 3=1 then .int .i64 (wyAt l (i / 3)).b else .int .i64 (wyAt l (i / 3)).d
theorem wyCell_0 (l:List Wy) (j:Nat):wyCell l (j * 3)=.int .i64 (wyAt l j).a:=by
 unfold wyCell
 rw [if_pos (by omega),show (j * 3) / 3=j from by omega]
theorem wyCell_1 (l:List Wy) (j:Nat):wyCell l (j * 3+1)=.int .i64 (wyAt l j).b:=by
 unfold wyCell
 rw [if_neg (by omega),if_pos (by omega),show (j * 3+1) / 3=j from by omega]
theorem wyCell_2 (l:List Wy) (j:Nat):wyCell l (j * 3+2)=.int .i64 (wyAt l j).d:=by
 unfold wyCell
 rw [if_neg (by omega),if_neg (by omega),show (j * 3+2) / 3=j from by omega]
def Wys (w:World) (lo hi:Nat) (v:Value) (l:List Wy):Prop:=Row w lo hi 3 v l.length (wyCell l)
section
variable {w w' : World} {lo hi lo' hi' : Nat} {v:Value}
theorem Wys.ext {l:List Wy} (h:Wys w lo hi v l) (hx:Ext w w') (hh:hi ≤ w.heap.size):Wys w' lo hi v l:=Row.ext h hx hh
theorem Wys.mono {l:List Wy} (h:Wys w lo hi v l) (h1:lo' ≤ lo) (h2:hi ≤ hi'):Wys w lo' hi' v l:=Row.mono h h1 h2
theorem Wys.up {l:List Wy} (h:Wys w 0 w.heap.size v l) (hx:Ext w w'):Wys w' 0 w'.heap.size v l:=(h.ext hx (Nat.le_refl _)).mono (Nat.le_refl _) hx.size
theorem Wys.len {l:List Wy} (h:Wys w lo hi v l):∃ A c,v=.slice A l.length c∧l.length ≤ 9223372036854775807∧l.length ≤ c:=by
 obtain ⟨hn,A,c,e,hc,_⟩:=h
 exact ⟨A,c,e,by unfold maxLen at hn;omega,hc⟩
theorem Wys.at_ {A:Option Addr} {c:Nat} {l:List Wy} {m i:Nat} (h:Wys w lo hi (.slice A m c) l) (hi' : i < l.length) :
  ∃ b off,A=some ⟨b,off,none⟩∧lo ≤ b∧b < hi∧w.cell? ⟨b,off+i * 3,none⟩=some (.int .i64 (wyAt l i).a)∧w.cell? ⟨b,off+i * 3+1,none⟩=some (.int .i64 (wyAt l i).b)∧w.cell? ⟨b,off+i * 3+2,none⟩=some (.int .i64 (wyAt l i).d):=by
 obtain ⟨hn,A', c', e,hc,hr⟩:=h
 injection e with e1 e2 e3
 obtain ⟨b,off,hA,h1,h2,h3⟩:=hr (by omega)
 refine ⟨b,off,by rw [e1,hA],h1,h2,?_,?_,?_⟩
 ·rw [h3 (i * 3) (by omega)];exact congrArg some (wyCell_0 l i)
 ·rw [Nat.add_assoc,h3 (i * 3+1) (by omega)];exact congrArg some (wyCell_1 l i)
 ·rw [Nat.add_assoc,h3 (i * 3+2) (by omega)];exact congrArg some (wyCell_2 l i)
end
structure Cls where
 ki:Int
 nu:Int
 mo:Int
 fe:Int
 re:Int
 wd:Int
 st:Int
 kg:ByteArray
def clsAt (l:List Cls) (i:Nat):Cls:=l.getD i ⟨0,0,0,0,0,0,0,⟨#[]⟩⟩
def clsCell (l:List Cls) (i:Nat):Value:=if i % 8=0 then .int .i64 (clsAt l (i / 8)).ki else if i % 8=1 then .int .i64 (clsAt l (i / 8)).nu else if i % 8=2 then .int .i64 (clsAt l (i / 8)).mo else if i % 8=3 then .int .i64 (clsAt l (i / 8)).fe else if i % 8=4 then .int .i64 (clsAt l (i / 8)).re else if i % 8=5 then .int .i64 (clsAt l (i / 8)).wd else if i % 8=6 then .int .i64 (clsAt l (i / 8)).st else .string (clsAt l (i / 8)).kg
theorem clsCell_0 (l:List Cls) (j:Nat):clsCell l (j * 8)=.int .i64 (clsAt l j).ki:=by
 unfold clsCell
 rw [if_pos (by omega),show (j * 8) / 8=j from by omega]
theorem clsCell_1 (l:List Cls) (j:Nat):clsCell l (j * 8+1)=.int .i64 (clsAt l j).nu:=by
 unfold clsCell
 rw [if_neg (by omega),if_pos (by omega),show (j * 8+1) / 8=j from by omega]
theorem clsCell_2 (l:List Cls) (j:Nat):clsCell l (j * 8+2)=.int .i64 (clsAt l j).mo:=by
 unfold clsCell
 rw [if_neg (by omega),if_neg (by omega),if_pos (by omega),show (j * 8+2) / 8=j from by omega]
theorem clsCell_3 (l:List Cls) (j:Nat):clsCell l (j * 8+3)=.int .i64 (clsAt l j).fe:=by
 unfold clsCell
 rw [if_neg (by omega),if_neg (by omega),if_neg (by omega),if_pos (by omega),show (j * 8+3) / 8=j from by omega]
theorem clsCell_4 (l:List Cls) (j:Nat):clsCell l (j * 8+4)=.int .i64 (clsAt l j).re:=by
 unfold clsCell
 rw [if_neg (by omega),if_neg (by omega),if_neg (by omega),if_neg (by omega),if_pos (by omega),show (j * 8+4) / 8=j from by omega]
theorem clsCell_5 (l:List Cls) (j:Nat):clsCell l (j * 8+5)=.int .i64 (clsAt l j).wd:=by
 unfold clsCell
 rw [if_neg (by omega),if_neg (by omega),if_neg (by omega),if_neg (by omega),if_neg (by omega),if_pos (by omega),show (j * 8+5) / 8=j from by omega]
theorem clsCell_6 (l:List Cls) (j:Nat):clsCell l (j * 8+6)=.int .i64 (clsAt l j).st:=by
 unfold clsCell
 rw [if_neg (by omega),if_neg (by omega),if_neg (by omega),if_neg (by omega),if_neg (by omega),if_neg (by omega),if_pos (by omega),show (j * 8+6) / 8=j from by omega]
theorem clsCell_7 (l:List Cls) (j:Nat):clsCell l (j * 8+7)=.string (clsAt l j).kg:=by
 unfold clsCell
 rw [if_neg (by omega),if_neg (by omega),if_neg (by omega),if_neg (by omega),if_neg (by omega),if_neg (by omega),if_neg (by omega),show (j * 8+7) / 8=j from by omega]
def Clss (w:World) (lo hi:Nat) (v:Value) (l:List Cls):Prop:=Row w lo hi 8 v l.length (clsCell l)
section
variable {w w' : World} {lo hi lo' hi' : Nat} {v:Value}
theorem Clss.ext {l:List Cls} (h:Clss w lo hi v l) (hx:Ext w w') (hh:hi ≤ w.heap.size):Clss w' lo hi v l:=Row.ext h hx hh
theorem Clss.mono {l:List Cls} (h:Clss w lo hi v l) (h1:lo' ≤ lo) (h2:hi ≤ hi'):Clss w lo' hi' v l:=Row.mono h h1 h2
theorem Clss.up {l:List Cls} (h:Clss w 0 w.heap.size v l) (hx:Ext w w'):Clss w' 0 w'.heap.size v l:=(h.ext hx (Nat.le_refl _)).mono (Nat.le_refl _) hx.size
theorem Clss.len {l:List Cls} (h:Clss w lo hi v l):∃ A c,v=.slice A l.length c∧l.length ≤ 9223372036854775807∧l.length ≤ c:=by
 obtain ⟨hn,A,c,e,hc,_⟩:=h
 exact ⟨A,c,e,by unfold maxLen at hn;omega,hc⟩
theorem Clss.at_ {A:Option Addr} {c:Nat} {l:List Cls} {m i:Nat} (h:Clss w lo hi (.slice A m c) l) (hi' : i < l.length) :
  ∃ b off,A=some ⟨b,off,none⟩∧lo ≤ b∧b < hi∧w.cell? ⟨b,off+i * 8,none⟩=some (.int .i64 (clsAt l i).ki)∧w.cell? ⟨b,off+i * 8+1,none⟩=some (.int .i64 (clsAt l i).nu)∧w.cell? ⟨b,off+i * 8+2,none⟩=some (.int .i64 (clsAt l i).mo)∧w.cell? ⟨b,off+i * 8+3,none⟩=some (.int .i64 (clsAt l i).fe)∧w.cell? ⟨b,off+i * 8+4,none⟩=some (.int .i64 (clsAt l i).re)∧w.cell? ⟨b,off+i * 8+5,none⟩=some (.int .i64 (clsAt l i).wd)∧w.cell? ⟨b,off+i * 8+6,none⟩=some (.int .i64 (clsAt l i).st)∧w.cell? ⟨b,off+i * 8+7,none⟩=some (.string (clsAt l i).kg):=by
 obtain ⟨hn,A', c', e,hc,hr⟩:=h
 injection e with e1 e2 e3
 obtain ⟨b,off,hA,h1,h2,h3⟩:=hr (by omega)
 refine ⟨b,off,by rw [e1,hA],h1,h2,?_,?_,?_,?_,?_,?_,?_,?_⟩
 ·rw [h3 (i * 8) (by omega)];exact congrArg some (clsCell_0 l i)
 ·rw [Nat.add_assoc,h3 (i * 8+1) (by omega)];exact congrArg some (clsCell_1 l i)
 ·rw [Nat.add_assoc,h3 (i * 8+2) (by omega)];exact congrArg some (clsCell_2 l i)
 ·rw [Nat.add_assoc,h3 (i * 8+3) (by omega)];exact congrArg some (clsCell_3 l i)
 ·rw [Nat.add_assoc,h3 (i * 8+4) (by omega)];exact congrArg some (clsCell_4 l i)
 ·rw [Nat.add_assoc,h3 (i * 8+5) (by omega)];exact congrArg some (clsCell_5 l i)
 ·rw [Nat.add_assoc,h3 (i * 8+6) (by omega)];exact congrArg some (clsCell_6 l i)
 ·rw [Nat.add_assoc,h3 (i * 8+7) (by omega)];exact congrArg some (clsCell_7 l i)
end
structure Wit where
 pe:ByteArray
 of:ByteArray
def witAt (l:List Wit) (i:Nat):Wit:=l.getD i ⟨⟨#[]⟩,⟨#[]⟩⟩
def witCell (l:List Wit) (i:Nat):Value:=if i % 2=0 then .string (witAt l (i / 2)).pe else .string (witAt l (i / 2)).of
theorem witCell_0 (l:List Wit) (j:Nat):witCell l (j * 2)=.string (witAt l j).pe:=by
 unfold witCell
 rw [if_pos (by omega),show (j * 2) / 2=j from by omega]
theorem witCell_1 (l:List Wit) (j:Nat):witCell l (j * 2+1)=.string (witAt l j).of:=by
 unfold witCell
 rw [if_neg (by omega),show (j * 2+1) / 2=j from by omega]
def Wits (w:World) (lo hi:Nat) (v:Value) (l:List Wit):Prop:=Row w lo hi 2 v l.length (witCell l)
section
variable {w w' : World} {lo hi lo' hi' : Nat} {v:Value}
theorem Wits.ext {l:List Wit} (h:Wits w lo hi v l) (hx:Ext w w') (hh:hi ≤ w.heap.size):Wits w' lo hi v l:=Row.ext h hx hh
theorem Wits.mono {l:List Wit} (h:Wits w lo hi v l) (h1:lo' ≤ lo) (h2:hi ≤ hi'):Wits w lo' hi' v l:=Row.mono h h1 h2
theorem Wits.up {l:List Wit} (h:Wits w 0 w.heap.size v l) (hx:Ext w w'):Wits w' 0 w'.heap.size v l:=(h.ext hx (Nat.le_refl _)).mono (Nat.le_refl _) hx.size
theorem Wits.len {l:List Wit} (h:Wits w lo hi v l):∃ A c,v=.slice A l.length c∧l.length ≤ 9223372036854775807∧l.length ≤ c:=by
 obtain ⟨hn,A,c,e,hc,_⟩:=h
 exact ⟨A,c,e,by unfold maxLen at hn;omega,hc⟩
theorem Wits.at_ {A:Option Addr} {c:Nat} {l:List Wit} {m i:Nat} (h:Wits w lo hi (.slice A m c) l) (hi' : i < l.length) :
  ∃ b off,A=some ⟨b,off,none⟩∧lo ≤ b∧b < hi∧w.cell? ⟨b,off+i * 2,none⟩=some (.string (witAt l i).pe)∧w.cell? ⟨b,off+i * 2+1,none⟩=some (.string (witAt l i).of):=by
 obtain ⟨hn,A', c', e,hc,hr⟩:=h
 injection e with e1 e2 e3
 obtain ⟨b,off,hA,h1,h2,h3⟩:=hr (by omega)
 refine ⟨b,off,by rw [e1,hA],h1,h2,?_,?_⟩
 ·rw [h3 (i * 2) (by omega)];exact congrArg some (witCell_0 l i)
 ·rw [Nat.add_assoc,h3 (i * 2+1) (by omega)];exact congrArg some (witCell_1 l i)
end
def strAt (l:List ByteArray) (i:Nat):ByteArray:=l.getD i ⟨#[]⟩
def strCell (l:List ByteArray) (i:Nat):Value:=.string (strAt l i)
def Strs (w:World) (lo hi:Nat) (v:Value) (l:List ByteArray):Prop:=Row w lo hi 1 v l.length (strCell l)
section
variable {w w' : World} {lo hi lo' hi' : Nat} {v:Value}
theorem Strs.ext {l:List ByteArray} (h:Strs w lo hi v l) (hx:Ext w w') (hh:hi ≤ w.heap.size):Strs w' lo hi v l:=Row.ext h hx hh
theorem Strs.mono {l:List ByteArray} (h:Strs w lo hi v l) (h1:lo' ≤ lo) (h2:hi ≤ hi'):Strs w lo' hi' v l:=Row.mono h h1 h2
theorem Strs.up {l:List ByteArray} (h:Strs w 0 w.heap.size v l) (hx:Ext w w'):Strs w' 0 w'.heap.size v l:=(h.ext hx (Nat.le_refl _)).mono (Nat.le_refl _) hx.size
theorem Strs.len {l:List ByteArray} (h:Strs w lo hi v l):∃ A c,v=.slice A l.length c∧l.length ≤ 9223372036854775807∧l.length ≤ c:=by
 obtain ⟨hn,A,c,e,hc,_⟩:=h
 exact ⟨A,c,e,by unfold maxLen at hn;omega,hc⟩
theorem Strs.at_ {A:Option Addr} {c:Nat} {l:List ByteArray} {m i:Nat} (h:Strs w lo hi (.slice A m c) l) (hi' : i < l.length) :
  ∃ b off,A=some ⟨b,off,none⟩∧lo ≤ b∧b < hi∧w.cell? ⟨b,off+i,none⟩=some (.string (strAt l i)):=by
 obtain ⟨hn,A', c', e,hc,hr⟩:=h
 injection e with e1 e2 e3
 obtain ⟨b,off,hA,h1,h2,h3⟩:=hr (by omega)
 exact ⟨b,off,by rw [e1,hA],h1,h2,h3 i (by omega)⟩
end
def MkLt (a b:Nsp):Prop:=sLt a.nm b.nm ∨ (a.nm=b.nm∧a.fr < b.fr)
theorem MkLt.trans {a b c:Nsp} (h:MkLt a b) (k:MkLt b c):MkLt a c:=by
 rcases h with h | ⟨e,h⟩
 ·rcases k with k | ⟨e2,k⟩
  ·exact .inl (sLt_trans h k)
  ·exact .inl (e2 ▸ h)
 ·rcases k with k | ⟨e2,k⟩
  ·exact .inl (e ▸ k)
  ·exact .inr ⟨e.trans e2,by omega⟩
noncomputable def cmpS (a b:ByteArray):Int:=bif B (sLt a b) then -1 else bif B (sLt b a) then 1 else 0
def cmpI (a b:Int):Int:=if a < b then -1 else if b < a then 1 else 0
noncomputable def cmpM (a b:Nsp):Int:=if cmpS a.nm b.nm=0 then cmpI a.fr b.fr else cmpS a.nm b.nm
theorem cmpS_lt {a b:ByteArray} (h:sLt a b):cmpS a b = -1:=by unfold cmpS;rw [B_true h];rfl
theorem cmpS_gt {a b:ByteArray} (h:sLt b a):cmpS a b=1:=by unfold cmpS;rw [B_false (sLt_asym h),B_true h];rfl
theorem cmpS_eq (a:ByteArray):cmpS a a=0:=by unfold cmpS;rw [B_false (sLt_irr a)];rfl
theorem cmpM_neg (a b:Nsp):cmpM a b < 0 ↔ MkLt a b:=by
 unfold cmpM MkLt
 by_cases h1:sLt a.nm b.nm
 ·rw [cmpS_lt h1]
  simp [h1]
 ·by_cases h2:sLt b.nm a.nm
  ·rw [cmpS_gt h2]
   simp [h1]
   intro e
   exact absurd (e ▸ h2) (sLt_irr _)
  ·have e:=sLt_tri h1 h2
   rw [e,cmpS_eq,if_pos rfl]
   unfold cmpI
   constructor
   ·intro h
    refine .inr ⟨rfl,?_⟩
    by_cases c:a.fr < b.fr
    ·exact c
    ·rw [if_neg c] at h;split at h <;> omega
   ·rintro (h | ⟨_,h⟩)
    ·exact absurd h (sLt_irr _)
    ·rw [if_pos h];omega
def NspOk (a:Nsp):Prop:=NameOk a.nm 12∧DayOk a.fr∧DayOk a.to∧a.fr ≤ a.to
def MkStep (l:List Nsp) (i:Nat):Prop:=NspOk (nspAt l i)∧(0 < i → MkLt (nspAt l (i - 1)) (nspAt l i))
def MksOk (l:List Nsp):Prop:=l.length ≤ 40∧∀ i,i < l.length → MkStep l i
theorem mks_step {l:List Nsp} {j:Nat} (h:∀ i,i < j → MkStep l i) (h' : MkStep l j):∀ i,i < j+1 → MkStep l i:=by
 intro i hi
 by_cases e:i=j
 ·subst e;exact h'
 ·exact h i (by omega)
def mdTo (l:List Nsp) (name:ByteArray):Nat → List Sp
 | 0=>[]
 | k+1=>if (nspAt l k).nm=name then mdTo l name k ++ [⟨(nspAt l k).fr,(nspAt l k).to⟩] else mdTo l name k
theorem mdTo_yes {l:List Nsp} {name:ByteArray} {k:Nat} (h:(nspAt l k).nm=name):mdTo l name (k+1)=mdTo l name k ++ [⟨(nspAt l k).fr,(nspAt l k).to⟩]:=if_pos h
theorem mdTo_no {l:List Nsp} {name:ByteArray} {k:Nat} (h:¬ (nspAt l k).nm=name):mdTo l name (k+1)=mdTo l name k:=if_neg h
theorem mdTo_len (l:List Nsp) (name:ByteArray):∀ k,(mdTo l name k).length ≤ k
 | 0=>Nat.le_refl _
 | k+1=>by
  have:=mdTo_len l name k
  unfold mdTo
  split
  ·simp;omega
  ·omega
theorem mdTo_all {l:List Nsp} {name:ByteArray} {P:Sp → Prop}:∀ k,(∀ i,i < k → (nspAt l i).nm=name → P ⟨(nspAt l i).fr,(nspAt l i).to⟩) → ∀ i,i < (mdTo l name k).length → P (spAt (mdTo l name k) i)
 | 0,_,i,hi=>absurd hi (by simp [mdTo])
 | k+1,h,i,hi=>by
  by_cases e:(nspAt l k).nm=name
  ·rw [mdTo_yes e] at hi ⊢
   rw [spAt_app (by simpa using hi)]
   split
   ·exact h k (by omega) e
   ·exact mdTo_all k (fun i hi=>h i (by omega)) i (by simp at hi;omega)
  ·rw [mdTo_no e] at hi ⊢
   exact mdTo_all k (fun i hi=>h i (by omega)) i hi
def mdL (l:List Nsp) (name:ByteArray):List Sp:=mdTo l name l.length
theorem mdL_ok {l:List Nsp} (h:MksOk l) (name:ByteArray):(mdL l name).length ≤ 40∧(∀ i,i < (mdL l name).length → SpOk (spAt (mdL l name) i)):=by
 refine ⟨Nat.le_trans (mdTo_len _ _ _) h.1,mdTo_all _ (fun i hi _=>?_)⟩
 obtain ⟨⟨_,h1,h2,h3⟩,_⟩:=h.2 i hi
 exact ⟨h1,h2,h3⟩
noncomputable def fstIx (p:Nat → Prop):Nat → Int
 | 0 => -1
 | k+1=>if fstIx p k = -1 then (bif B (p k) then (k:Int) else -1) else fstIx p k
theorem fstIx_none {p:Nat → Prop}:∀ k,(∀ i,i < k → ¬ p i) → fstIx p k = -1
 | 0,_=>rfl
 | k+1,h=>by
  rw [fstIx,fstIx_none k (fun i hi=>h i (by omega)),if_pos rfl,B_false (h k (by omega))]
  rfl
theorem fstIx_at {p:Nat → Prop}:∀ k j,j < k → p j → (∀ i,i < j → ¬ p i) → fstIx p k=j
 | 0,j,h,_,_=>absurd h (by omega)
 | k+1,j,hj,h1,h2=>by
  by_cases e:j=k
  ·subst e
   rw [fstIx,fstIx_none j h2,if_pos rfl,B_true h1]
   rfl
  ·rw [fstIx,fstIx_at k j (by omega) h1 h2,if_neg (by omega)]
theorem fstIx_cases (p:Nat → Prop):∀ k,(fstIx p k = -1∧∀ i,i < k → ¬ p i) ∨ ∃ j,j < k∧fstIx p k=(j:Int)∧p j∧∀ i,i < j → ¬ p i
 | 0=>.inl ⟨rfl,fun i hi=>absurd hi (by omega)⟩
 | k+1=>by
  rcases fstIx_cases p k with ⟨h1,h2⟩ | ⟨j,h1,h2,h3,h4⟩
  ·by_cases h:p k
   ·exact .inr ⟨k,by omega,fstIx_at (k+1) k (by omega) h h2,h,h2⟩
   ·have hn:∀ i,i < k+1 → ¬ p i:=fun i hi=>by
     by_cases e:i=k
     ·subst e;exact h
     ·exact h2 i (by omega)
    exact .inl ⟨fstIx_none (k+1) hn,hn⟩
  ·exact .inr ⟨j,by omega,fstIx_at (k+1) j (by omega) h3 h4,h3,h4⟩
theorem fstIx_congr {p q:Nat → Prop}:∀ k,(∀ i,i < k → (p i ↔ q i)) → fstIx p k=fstIx q k
 | 0,_=>rfl
 | k+1,h=>by
  rw [fstIx,fstIx,fstIx_congr k (fun i hi=>h i (by omega)),B_congr (h k (by omega))]
theorem fstIx_ge (p:Nat → Prop) (k:Nat) : -1 ≤ fstIx p k∧fstIx p k < k ∨ fstIx p k = -1:=by
 rcases fstIx_cases p k with ⟨h,_⟩ | ⟨j,h1,h2,_⟩
 ·exact .inr h
 ·exact .inl (by omega)
structure Chan where
 rg:List Nsp
 fr:Int
 to:Int
def RgStep (l:List Nsp) (i:Nat):Prop:=NspOk (nspAt l i)∧(0 < i → (nspAt l (i - 1)).fr ≤ (nspAt l i).fr)
def RgsOk (l:List Nsp):Prop:=l.length ≤ 30∧∀ i,i < l.length → RgStep l i
theorem rgs_step {l:List Nsp} {j:Nat} (h:∀ i,i < j → RgStep l i) (h' : RgStep l j):∀ i,i < j+1 → RgStep l i:=by
 intro i hi
 by_cases e:i=j
 ·subst e;exact h'
 ·exact h i (by omega)
def ChanOk (c:Chan):Prop:=RgsOk c.rg∧DayOk c.fr∧DayOk c.to∧c.fr ≤ c.to∧c.to - c.fr ≤ 20000
structure Ppl where
 ps:List Nsp
 tm:List Trm
def PsStep (l:List Nsp) (i:Nat):Prop:=NspOk (nspAt l i)∧(0 < i → sLt (nspAt l (i - 1)).nm (nspAt l i).nm)
noncomputable def psIx (l:List Nsp) (name:ByteArray):Int:=fstIx (fun i=>(nspAt l i).nm=name) l.length
def TrmOk (l:List Nsp) (t:Trm):Prop:=0 ≤ psIx l t.pe∧NameOk t.of 12∧t.fr ≤ t.to∧(nspAt l (psIx l t.pe).toNat).fr ≤ t.fr∧t.to ≤ (nspAt l (psIx l t.pe).toNat).to
def PplOk (p:Ppl):Prop:=p.ps.length ≤ 40∧p.tm.length ≤ 60∧(∀ i,i < p.ps.length → PsStep p.ps i)∧∀ i,i < p.tm.length → TrmOk p.ps (trmAt p.tm i)
theorem ps_step {l:List Nsp} {j:Nat} (h:∀ i,i < j → PsStep l i) (h' : PsStep l j):∀ i,i < j+1 → PsStep l i:=by
 intro i hi
 by_cases e:i=j
 ·subst e;exact h'
 ·exact h i (by omega)
theorem psIx_lt {l:List Nsp} {name:ByteArray} (h:0 ≤ psIx l name):(psIx l name).toNat < l.length∧(((psIx l name).toNat:Nat):Int)=psIx l name:=by
 unfold psIx at *
 rcases fstIx_cases (fun i=>(nspAt l i).nm=name) l.length with ⟨h1,_⟩ | ⟨j,h1,h2,_⟩
 ·omega
 ·rw [h2];omega
theorem trm_days {l:List Nsp} {t:Trm} (hl:∀ i,i < l.length → PsStep l i) (h:TrmOk l t):DayOk t.fr∧DayOk t.to:=by
 obtain ⟨h0,_,h1,h2,h3⟩:=h
 obtain ⟨⟨_,⟨d1,d2⟩,⟨d3,d4⟩,_⟩,_⟩:=hl _ (psIx_lt h0).1
 exact ⟨⟨by omega,by omega⟩,⟨by omega,by omega⟩⟩
structure Lnd where
 pl:List ByteArray
 wy:List Wy
def PlStep (l:List ByteArray) (i:Nat):Prop:=NameOk (strAt l i) 12∧∀ k,k < i → strAt l k ≠ strAt l i
def LndOk (l:Lnd):Prop:=(1 ≤ l.pl.length∧l.pl.length ≤ 12)∧l.wy.length ≤ 40∧(∀ i,i < l.pl.length → PlStep l.pl i)∧∀ i,i < l.wy.length → WyOk l.pl.length (wyAt l.wy i)
theorem pl_step {l:List ByteArray} {j:Nat} (h:∀ i,i < j → PlStep l i) (h' : PlStep l j):∀ i,i < j+1 → PlStep l i:=by
 intro i hi
 by_cases e:i=j
 ·subst e;exact h'
 ·exact h i (by omega)
def StyOk (n:Nat) (s:Wy):Prop:=(0 ≤ s.a∧s.a ≤ (n:Int) - 1)∧DayOk s.b∧DayOk s.d∧s.b ≤ s.d
def Nxt (M:Mat) (s t:Wy):Prop:=M s.a.toNat t.a.toNat < 1000000∧s.d < t.b∧s.d+M s.a.toNat t.a.toNat ≤ t.b
def StStep (n:Nat) (M:Mat) (l:List Wy) (i:Nat):Prop:=StyOk n (wyAt l i)∧(0 < i → Nxt M (wyAt l (i - 1)) (wyAt l i))
def ItiOk (l:Lnd) (s:List Wy):Prop:=LndOk l∧s.length ≤ 40∧∀ i,i < s.length → StStep l.pl.length (trvM l.pl.length l.wy) s i
theorem st_step {n:Nat} {M:Mat} {l:List Wy} {j:Nat} (h:∀ i,i < j → StStep n M l i) (h' : StStep n M l j):∀ i,i < j+1 → StStep n M l i:=by
 intro i hi
 by_cases e:i=j
 ·subst e;exact h'
 ·exact h i (by omega)
theorem nxt_iff {n:Nat} {l:List Wy} (hl:∀ i,i < l.length → WyOk n (wyAt l i)) (h40:l.length ≤ 40) (hn:n ≤ 12) {s t:Wy} (hs:StyOk n s) (ht:StyOk n t) :
  Nxt (trvM n l) s t ↔ 0 ≤ frmV n l s.a.toNat t.a.toNat∧s.d+max 1 (frmV n l s.a.toNat t.a.toNat) ≤ t.b:=by
 obtain ⟨⟨a0,a1⟩,_⟩:=hs
 obtain ⟨⟨b0,b1⟩,_⟩:=ht
 have hnn:=(trv_ok hl).1.nn s.a.toNat t.a.toNat (by omega) (by omega)
 unfold Nxt
 rcases travel_same hl h40 hn (a:=s.a.toNat) (b:=t.a.toNat) (by omega) (by omega) with ⟨h1,h2⟩ | ⟨h1,h2⟩
 ·rw [h2];omega
 ·rw [h2];omega
structure Wrl where
 ch:Chan
 pp:Ppl
 ld:Lnd
 st:List Wy
 se:List Nsp
 ha:List Nsp
def WrlOk (w:Wrl):Prop:=ChanOk w.ch∧PplOk w.pp∧ItiOk w.ld w.st∧MksOk w.se∧MksOk w.ha
end Go.Proofs.YtechbeegbhlppaaGreatDoor
namespace Go.Proofs.YtechbeegbhlppaaGreatDoor
set_option linter.unusedVariables false
set_option linter.unusedSimpArgs false
open Go.RowKit
def MdLen (mo:Int):Int:=if mo=2 then 29 else if mo=4 ∨ mo=6 ∨ mo=9 ∨ mo=11 then 30 else 31
def MdOk (mo d:Int):Prop:=(1 ≤ mo∧mo ≤ 12)∧1 ≤ d∧d ≤ MdLen mo
def RelOk (fe re wd:Int):Prop:=(0 ≤ fe∧fe ≤ 19)∧(0 ≤ re∧re ≤ 4)∧(0 ≤ wd∧wd ≤ 6)∧(3 ≤ re ∨ wd=0)
def clsUsed (c:Cls):Cls :=
 if c.ki=0 then ⟨0,c.nu,c.mo,0,0,0,0,⟨#[]⟩⟩ else
 if c.ki=1 then ⟨1,0,0,c.fe,c.re,c.wd,0,⟨#[]⟩⟩ else
 if c.ki=2 then ⟨2,c.nu,0,0,0,0,0,c.kg⟩ else
 if c.ki=3 then ⟨3,c.nu,0,0,0,0,c.st,⟨#[]⟩⟩ else
 if c.ki=4 then ⟨4,c.nu,0,0,0,0,c.st,⟨#[]⟩⟩ else
 if c.ki=5 then ⟨5,0,0,0,0,c.wd,0,⟨#[]⟩⟩ else ⟨c.ki,0,0,0,0,0,0,⟨#[]⟩⟩
def clsFine (c:Cls):Prop :=
 (c.ki=0∧MdOk c.mo c.nu) ∨ (c.ki=1∧RelOk c.fe c.re c.wd) ∨ (c.ki=2∧(1 ≤ c.nu∧c.nu ≤ 99)∧NameOk c.kg 12) ∨
 (c.ki=3∧(2 ≤ c.nu∧c.nu ≤ 1999)∧0 ≤ c.st∧c.st ≤ 6) ∨ (c.ki=4∧(1 ≤ c.nu∧c.nu ≤ 15)∧0 ≤ c.st∧c.st ≤ 2) ∨ (c.ki=5∧0 ≤ c.wd∧c.wd ≤ 6)
def ClsOk (c:Cls):Prop:=clsFine c∧c=clsUsed c
def DtgOk (l:List Cls):Prop:=l.length ≤ 8∧∀ i,i < l.length → ClsOk (clsAt l i)
theorem dtg_step {l:List Cls} {j:Nat} (h:∀ i,i < j → ClsOk (clsAt l i)) (h' : ClsOk (clsAt l j)):∀ i,i < j+1 → ClsOk (clsAt l i):=by
 intro i hi
 by_cases e:i=j
 ·subst e;exact h'
 ·exact h i (by omega)
structure Ded where
 nm:ByteArray
 dt:List Cls
 wi:List Wit
 pl:ByteArray
 se:ByteArray
 ha:ByteArray
 ci:List ByteArray
def dedAt (l:List Ded) (i:Nat):Ded:=l.getD i ⟨⟨#[]⟩,[],[],⟨#[]⟩,⟨#[]⟩,⟨#[]⟩,[]⟩
noncomputable def ddIx (l:List Ded) (name:ByteArray):Int:=fstIx (fun i=>(dedAt l i).nm=name) l.length
def CiteOk (ds:List Ded) (d:Ded) (k:Nat):Prop:=strAt d.ci k ≠ d.nm∧0 ≤ ddIx ds (strAt d.ci k)∧∀ j,j < k → strAt d.ci j ≠ strAt d.ci k
def DedIn (W:Wrl) (ds:List Ded) (d:Ded):Prop :=
 NameOk d.nm 12∧DtgOk d.dt∧(d.wi.length ≤ 12∧∀ k,k < d.wi.length → 0 ≤ psIx W.pp.ps (witAt d.wi k).pe)∧d.ci.length ≤ 8 ∧
 (d.pl=⟨#[]⟩ ∨ 0 ≤ fstIx (fun i=>strAt W.ld.pl i=d.pl) W.ld.pl.length)∧(d.se=⟨#[]⟩ ∨ 0 < (mkL (mdL W.se d.se)).length)∧(d.ha=⟨#[]⟩ ∨ 0 < (mkL (mdL W.ha d.ha)).length) ∧
 ∀ k,k < d.ci.length → CiteOk ds d k
def DedOk (W:Wrl) (ds:List Ded) (i:Nat):Prop:=DedIn W ds (dedAt ds i)∧∀ k,k < i → (dedAt ds k).nm ≠ (dedAt ds i).nm
def DedsOk (W:Wrl) (ds:List Ded):Prop:=WrlOk W∧ds.length ≤ 8∧∀ i,i < ds.length → DedOk W ds i
theorem ded_step {W:Wrl} {l:List Ded} {j:Nat} (h:∀ i,i < j → DedOk W l i) (h' : DedOk W l j):∀ i,i < j+1 → DedOk W l i:=by
 intro i hi
 by_cases e:i=j
 ·subst e;exact h'
 ·exact h i (by omega)
theorem ded_first {ds:List Ded} {i:Nat} (hi:i < ds.length):ddIx ds (dedAt ds i).nm=(i:Int) ↔ ∀ k,k < i → (dedAt ds k).nm ≠ (dedAt ds i).nm:=by
 constructor
 ·intro h k hk e
  unfold ddIx at h
  rcases fstIx_cases (fun j=>(dedAt ds j).nm=(dedAt ds i).nm) ds.length with ⟨h1,_⟩ | ⟨j,h1,h2,h3,h4⟩
  ·omega
  ·have:j=i:=by omega
   subst this
   exact h4 k hk e
 ·intro h
  exact fstIx_at ds.length i hi rfl h
def lenO (y mo:Int):Int:=if mo=2 then (if y.tmod 4=0 then 29 else 28) else if mo=4 ∨ mo=6 ∨ mo=9 ∨ mo=11 then 30 else 31
def OldOk (y mo d:Int):Prop:=(1 ≤ y∧y ≤ 2000)∧(1 ≤ mo∧mo ≤ 12)∧1 ≤ d∧d ≤ lenO y mo
theorem lenO_4 (mo:Int):lenO 4 mo=MdLen mo:=by
 unfold lenO MdLen
 rw [if_pos (show (4:Int).tmod 4=0 by decide)]
theorem old4 (mo d:Int):OldOk 4 mo d ↔ MdOk mo d:=by
 unfold OldOk MdOk
 rw [lenO_4]
 exact ⟨fun h=>h.2,fun h=>⟨by omega,h⟩⟩
theorem lenO_2y {y:Int} (h:y.tmod 4=0):lenO y 2=29:=by unfold lenO;rw [if_pos rfl,if_pos h]
theorem lenO_2n {y:Int} (h:¬ y.tmod 4=0):lenO y 2=28:=by unfold lenO;rw [if_pos rfl,if_neg h]
theorem lenO_30 {y mo:Int} (h:mo=4 ∨ mo=6 ∨ mo=9 ∨ mo=11):lenO y mo=30:=by unfold lenO;rw [if_neg (by omega),if_pos h]
theorem lenO_31 {y mo:Int} (h2:mo ≠ 2) (h:¬ (mo=4 ∨ mo=6 ∨ mo=9 ∨ mo=11)):lenO y mo=31:=by unfold lenO;rw [if_neg h2,if_neg h]
theorem lenO_bd (y mo:Int):28 ≤ lenO y mo∧lenO y mo ≤ 31:=by
 unfold lenO
 repeat' split
 all_goals omega
theorem tmod_pos {y:Int} (h:0 ≤ y) (k:Int):y.tmod k=y % k:=Int.tmod_eq_emod_of_nonneg h
def nyO (y:Int):Int:=365 * (y - 1)+(y - 1).tdiv 4
def cumO (y:Int):Nat → Int
 | 0=>0
 | k+1=>cumO y k+lenO y ((k:Int)+1)
def numO (y mo d:Int):Int:=nyO y+d - 1+cumO y (mo - 1).toNat
theorem nyO_pos {y:Int} (h:1 ≤ y):nyO y=365 * (y - 1)+(y - 1) / 4:=by
 unfold nyO
 rw [Int.tdiv_eq_ediv_of_nonneg (by omega)]
theorem cumO_bd (y:Int):∀ k:Nat,(28:Int) * k ≤ cumO y k∧cumO y k ≤ 31 * k
 | 0=>by simp [cumO]
 | k+1=>by
  have h1:=cumO_bd y k
  have h2:=lenO_bd y ((k:Int)+1)
  show 28 * ((k+1:Nat):Int) ≤ cumO y k+_∧cumO y k+_ ≤ 31 * ((k+1:Nat):Int)
  omega
theorem cumO_lt (y:Int) {a:Nat}:∀ b:Nat,a < b → cumO y a+28 ≤ cumO y b
 | 0,h=>by omega
 | b+1,h=>by
  have h2:=lenO_bd y ((b:Int)+1)
  show cumO y a+28 ≤ cumO y b+_
  by_cases e:a=b
  ·subst e;omega
  ·have:=cumO_lt y (a:=a) b (by omega);omega
theorem cumO_le (y:Int) {a b:Nat} (h:a ≤ b):cumO y a ≤ cumO y b:=by
 by_cases e:a=b
 ·subst e;omega
 ·have:=cumO_lt y (a:=a) b (show a < b by omega);omega
theorem cum12 (y:Int):cumO y 12=if y.tmod 4=0 then 366 else 365:=by
 by_cases h:y.tmod 4=0
 ·rw [if_pos h];simp [cumO,lenO,h]
 ·rw [if_neg h];simp [cumO,lenO,h]
theorem ny_next {y:Int} (h:1 ≤ y):nyO y+cumO y 12=nyO (y+1):=by
 rw [cum12,nyO_pos h,nyO_pos (show 1 ≤ y+1 by omega),tmod_pos (by omega)]
 split <;> omega
theorem ny_lt {a b:Int} (ha:1 ≤ a) (h:a < b):nyO a+365 ≤ nyO b:=by
 rw [nyO_pos ha,nyO_pos (show 1 ≤ b by omega)]
 omega
def yrO (n:Int):Int:=(4 * n+3) / 1461+1
def moTo (y r:Int):Nat → Int
 | 0=>1
 | k+1=>if cumO y (k+1) ≤ r then (k:Int)+2 else moTo y r k
def moO (n:Int):Int:=moTo (yrO n) (n - nyO (yrO n)) 11
def dyO (n:Int):Int:=n - nyO (yrO n) - cumO (yrO n) (moO n - 1).toNat+1
theorem yr_pos {n:Int} (h:0 ≤ n):1 ≤ yrO n:=by unfold yrO;omega
theorem yr_bd {n:Int} (h:0 ≤ n):nyO (yrO n) ≤ n∧n < nyO (yrO n+1):=by
 have h1:=yr_pos h
 rw [nyO_pos h1,nyO_pos (show 1 ≤ yrO n+1 by omega)]
 unfold yrO at *
 omega
theorem yr_max {n:Int} (h:n ≤ 730499):yrO n ≤ 2000:=by unfold yrO;omega
theorem moTo_spec (y:Int) {r:Int} (h0:0 ≤ r):∀ k:Nat,∃ m:Nat,m ≤ k∧moTo y r k=(m:Int)+1∧cumO y m ≤ r∧∀ j,m < j → j ≤ k → r < cumO y j
 | 0=>⟨0,Nat.le_refl _,rfl,h0,fun j h1 h2=>by omega⟩
 | k+1=>by
  by_cases h:cumO y (k+1) ≤ r
  ·exact ⟨k+1,Nat.le_refl _,by show (if _ then _ else _)=_;rw [if_pos h];push_cast;omega,h,fun j h1 h2=>by omega⟩
  ·obtain ⟨m,h1,h2,h3,h4⟩:=moTo_spec y h0 k
   refine ⟨m,by omega,by show (if _ then _ else _)=_;rw [if_neg h,h2],h3,fun j h5 h6=>?_⟩
   by_cases e:j=k+1
   ·subst e;omega
   ·exact h4 j h5 (by omega)
theorem mo_bd {n:Int} (h:0 ≤ n):∃ m:Nat,m < 12∧moO n=(m:Int)+1∧cumO (yrO n) m ≤ n - nyO (yrO n)∧n - nyO (yrO n) < cumO (yrO n) (m+1):=by
 have hb:=yr_bd h
 have hn:=ny_next (yr_pos h)
 obtain ⟨m,h1,h2,h3,h4⟩:=moTo_spec (yrO n) (show 0 ≤ n - nyO (yrO n) by omega) 11
 refine ⟨m,by omega,h2,h3,?_⟩
 by_cases e:m=11
 ·subst e;show _ < cumO (yrO n) 12;omega
 ·exact h4 (m+1) (by omega) (by omega)
theorem mo_unique {n:Int} (h:0 ≤ n) {m:Nat} (h1:cumO (yrO n) m ≤ n - nyO (yrO n)) (h2:n - nyO (yrO n) < cumO (yrO n) (m+1)):moO n=(m:Int)+1:=by
 obtain ⟨k,k1,k2,k3,k4⟩:=mo_bd h
 have e:k=m:=by
  rcases Nat.lt_trichotomy k m with e | e | e
  ·have:=cumO_le (yrO n) (show k+1 ≤ m by omega);omega
  ·exact e
  ·have:=cumO_le (yrO n) (show m+1 ≤ k by omega);omega
 rw [k2,e]
theorem mo_1 {n:Int} (h:0 ≤ n):1 ≤ moO n∧moO n ≤ 12:=by
 obtain ⟨m,h1,h2,_⟩:=mo_bd h
 omega
theorem dy_bd {n:Int} (h:0 ≤ n):1 ≤ dyO n∧dyO n ≤ lenO (yrO n) (moO n):=by
 obtain ⟨m,h1,h2,h3,h4⟩:=mo_bd h
 have e:(moO n - 1).toNat=m:=by omega
 have e2:cumO (yrO n) (m+1)=cumO (yrO n) m+lenO (yrO n) ((m:Int)+1):=rfl
 unfold dyO
 rw [e,h2]
 omega
theorem num_bd {y mo d:Int} (h1:1 ≤ y) (hm:1 ≤ mo∧mo ≤ 12) (hd:1 ≤ d∧d ≤ lenO y mo):nyO y ≤ numO y mo d∧numO y mo d < nyO (y+1):=by
 have hn:=ny_next h1
 have e:(((mo - 1).toNat:Nat):Int)=mo - 1:=by omega
 have h2:cumO y ((mo - 1).toNat+1)=cumO y (mo - 1).toNat+lenO y mo:=by
  show cumO y _+lenO y _=_
  rw [e,show mo - 1+1=mo by omega]
 have h3:=cumO_le y (show (mo - 1).toNat+1 ≤ 12 by omega)
 have h4:=cumO_bd y (mo - 1).toNat
 unfold numO
 omega
theorem ny_ge {y:Int} (h:1 ≤ y):0 ≤ nyO y:=by rw [nyO_pos h];omega
theorem ny_end:nyO 2001=730500:=by decide
theorem ny_bd {y:Int} (h:1 ≤ y) (h' : y ≤ 5000):0 ≤ nyO y∧nyO y ≤ 2000000:=by rw [nyO_pos h];omega
def easP (y:Int):Int:=(19 * y.tmod 19+15).tmod 30
def easQ (y:Int):Int:=(2 * y.tmod 4+4 * y.tmod 7 - easP y+34).tmod 7
def easS (y:Int):Int:=easP y+easQ y+114
def easO (y:Int):Int:=numO y ((easS y).tdiv 31) ((easS y).tmod 31+1)
theorem eas_bd {y:Int} (h:1 ≤ y):(0 ≤ easP y∧easP y ≤ 29)∧(0 ≤ easQ y∧easQ y ≤ 6)∧114 ≤ easS y∧easS y ≤ 149:=by
 have h1:0 ≤ y.tmod 19∧y.tmod 19 ≤ 18:=by rw [tmod_pos (by omega)];omega
 have h2:0 ≤ y.tmod 4∧y.tmod 4 ≤ 3:=by rw [tmod_pos (by omega)];omega
 have h3:0 ≤ y.tmod 7∧y.tmod 7 ≤ 6:=by rw [tmod_pos (by omega)];omega
 have hp:0 ≤ easP y∧easP y ≤ 29:=by unfold easP;rw [tmod_pos (by omega)];omega
 have hq:0 ≤ easQ y∧easQ y ≤ 6:=by unfold easQ;rw [tmod_pos (by omega)];omega
 unfold easS
 omega
theorem eas_md {y:Int} (h:1 ≤ y):(3 ≤ (easS y).tdiv 31∧(easS y).tdiv 31 ≤ 4)∧1 ≤ (easS y).tmod 31+1∧(easS y).tmod 31+1 ≤ 31:=by
 have hs:=(eas_bd h).2.2
 rw [tmod_pos (by omega),Int.tdiv_eq_ediv_of_nonneg (by omega)]
 omega
def fxM (fe:Int):Int:=if fe=0 then 1 else if fe=1 then 1 else if fe=2 then 2 else if fe=3 then 3 else if fe=4 then 6 else if fe=5 then 6 else if fe=6 then 8 else if fe=7 then 8 else if fe=8 then 9 else if fe=9 then 11 else if fe=10 then 11 else if fe=11 then 11 else if fe=12 then 12 else 12
def fxD (fe:Int):Int:=if fe=0 then 1 else if fe=1 then 6 else if fe=2 then 2 else if fe=3 then 25 else if fe=4 then 24 else if fe=5 then 29 else if fe=6 then 10 else if fe=7 then 15 else if fe=8 then 29 else if fe=9 then 1 else if fe=10 then 11 else if fe=11 then 30 else if fe=12 then 6 else 25
def mvD (fe:Int):Int:=if fe=14 then -46 else if fe=15 then -7 else if fe=16 then 0 else if fe=17 then 39 else if fe=18 then 49 else 56
def fstO (fe y:Int):Int:=if fe < 14 then numO y (fxM fe) (fxD fe) else easO y+mvD fe
theorem num_small {y mo d:Int} (h:1 ≤ y) (h' : y ≤ 5000) (hm:1 ≤ mo∧mo ≤ 13) (hd : -100 ≤ d∧d ≤ 100):nyO y - 101+28 * (mo - 1) ≤ numO y mo d∧numO y mo d ≤ 2001000:=by
 have h1:=ny_bd h h'
 have h2:=cumO_bd y (mo - 1).toNat
 unfold numO
 omega
theorem eas_small {y:Int} (h:1 ≤ y) (h' : y ≤ 5000):50 ≤ easO y∧easO y ≤ 2001000:=by
 have h1:=eas_md h
 have h2:=num_small h h' (mo:=(easS y).tdiv 31) (d:=(easS y).tmod 31+1) (by omega) (by omega)
 have h3:=ny_ge h
 have h4:=cumO_bd y ((easS y).tdiv 31 - 1).toNat
 have h5:nyO y+56 ≤ easO y:=by unfold easO numO;omega
 unfold easO at *
 omega
theorem fe_cases {fe:Int} (h:0 ≤ fe∧fe ≤ 19):fe=0 ∨ fe=1 ∨ fe=2 ∨ fe=3 ∨ fe=4 ∨ fe=5 ∨ fe=6 ∨ fe=7 ∨ fe=8 ∨ fe=9 ∨ fe=10 ∨ fe=11 ∨ fe=12 ∨ fe=13 ∨ fe=14 ∨ fe=15 ∨ fe=16 ∨ fe=17 ∨ fe=18 ∨ fe=19:=by omega
theorem fst_bd {fe:Int} (h:0 ≤ fe∧fe ≤ 19):(1 ≤ fxM fe∧fxM fe ≤ 12)∧(1 ≤ fxD fe∧fxD fe ≤ 30) ∧ -46 ≤ mvD fe∧mvD fe ≤ 56:=by
 rcases fe_cases h with rfl | rfl | rfl | rfl | rfl | rfl | rfl | rfl | rfl | rfl | rfl | rfl | rfl | rfl | rfl | rfl | rfl | rfl | rfl | rfl <;> decide
theorem fst_small {fe y:Int} (hf:0 ≤ fe∧fe ≤ 19) (h:1 ≤ y) (h' : y ≤ 5000):0 ≤ fstO fe y∧fstO fe y ≤ 2002000:=by
 have h1:=fst_bd hf
 have h2:=eas_small h h'
 have h3:=num_small h h' (mo:=fxM fe) (d:=fxD fe) (by omega) (by omega)
 have h4:=ny_ge h
 have h5:=cumO_bd y (fxM fe - 1).toNat
 unfold fstO
 split
 ·unfold numO at *;omega
 ·omega
def wdO (n:Int):Int:=(n+5).tmod 7
def relO (fe re wd y:Int):Int :=
 if re=1 then fstO fe y - 1 else if re=2 then fstO fe y+7 else
 if re=3 then fstO fe y+1+(wd - wdO (fstO fe y)+13).tmod 7 else
 if re=4 then fstO fe y - 1 - (wdO (fstO fe y) - wd+13).tmod 7 else fstO fe y
theorem wd_bd {n:Int} (h:0 ≤ n):0 ≤ wdO n∧wdO n ≤ 6:=by unfold wdO;rw [tmod_pos (by omega)];omega
theorem after_same {n wd:Int} (h:0 ≤ n) (hw:0 ≤ wd∧wd ≤ 6):(wd+14 - wdO (n+1)).tmod 7=(wd - wdO n+13).tmod 7:=by
 have h1:=wd_bd h
 have h2:=wd_bd (show 0 ≤ n+1 by omega)
 rw [tmod_pos (by omega),tmod_pos (by omega)]
 unfold wdO
 rw [tmod_pos (by omega),tmod_pos (by omega)]
 omega
theorem before_same {n wd:Int} (h:0 ≤ n) (hw:0 ≤ wd∧wd ≤ 6):(wdO (n+6)+7 - wd).tmod 7=(wdO n - wd+13).tmod 7:=by
 have h1:=wd_bd h
 have h2:=wd_bd (show 0 ≤ n+6 by omega)
 rw [tmod_pos (by omega),tmod_pos (by omega)]
 unfold wdO
 rw [tmod_pos (by omega),tmod_pos (by omega)]
 omega
def begS (st y:Int):Int :=
 if st=1 then numO y 3 1 else if st=2 then numO y 3 25 else if st=3 then numO (y - 1) 3 25 else if st=4 then easO y else
 if st=5 then numO (y - 1) 12 25 else if st=6 then numO (y - 1) 9 1 else nyO y
def InYr (st n y:Int):Prop:=(2 ≤ y∧y ≤ 1999)∧begS st y ≤ n∧n ≤ begS st (y+1) - 1
noncomputable def yrS (st n:Int):Int:=bif B (InYr st n (yrO n - 1)) then yrO n - 1 else bif B (InYr st n (yrO n)) then yrO n else bif B (InYr st n (yrO n+1)) then yrO n+1 else 0
def indO (y:Int):Int:=(y+2).tmod 15+1
noncomputable def indN (ki n:Int):Int:=bif B (ki ≠ 2∧numO (yrO n) 9 (if ki=1 then 24 else 1) ≤ n) then indO (yrO n+1) else indO (yrO n)
def begR (fr k:Int):Int :=
 if moO fr=2∧dyO fr=29∧¬ (yrO fr+k - 1).tmod 4=0 then numO (yrO fr+k - 1) 3 1 else numO (yrO fr+k - 1) (moO fr) (dyO fr)
theorem begR_bd {fr k:Int} (h:0 ≤ fr) (hk:1 ≤ k):nyO (yrO fr+k - 1) ≤ begR fr k∧begR fr k < nyO (yrO fr+k):=by
 have hy:=yr_pos h
 have hm:=mo_1 h
 have hd:=dy_bd h
 have e:yrO fr+k - 1+1=yrO fr+k:=by omega
 have key:∀ {mo d:Int},(1 ≤ mo∧mo ≤ 12) → (1 ≤ d∧d ≤ lenO (yrO fr+k - 1) mo) → nyO (yrO fr+k - 1) ≤ numO (yrO fr+k - 1) mo d∧numO (yrO fr+k - 1) mo d < nyO (yrO fr+k):=fun hm hd=>by
  have h:=num_bd (show 1 ≤ yrO fr+k - 1 by omega) hm hd
  rw [e] at h
  exact h
 have h3:=lenO_bd (yrO fr+k - 1) 3
 by_cases hc:moO fr=2∧dyO fr=29∧¬ (yrO fr+k - 1).tmod 4=0
 ·have eb:begR fr k=numO (yrO fr+k - 1) 3 1:=by unfold begR;rw [if_pos hc]
  rw [eb]
  exact key (by omega) (by omega)
 ·have eb:begR fr k=numO (yrO fr+k - 1) (moO fr) (dyO fr):=by unfold begR;rw [if_neg hc]
  rw [eb]
  refine key hm ⟨hd.1,?_⟩
  by_cases m1:moO fr=2
  ·by_cases m3:(yrO fr+k - 1).tmod 4=0
   ·have hl2:lenO (yrO fr+k - 1) (moO fr)=29:=by rw [m1];exact lenO_2y m3
    have hl:lenO (yrO fr) (moO fr) ≤ 29:=by
     rw [m1]
     by_cases m2:(yrO fr).tmod 4=0
     ·rw [lenO_2y m2];omega
     ·rw [lenO_2n m2];omega
    omega
   ·have hl2:lenO (yrO fr+k - 1) (moO fr)=28:=by rw [m1];exact lenO_2n m3
    have hl:lenO (yrO fr) (moO fr) ≤ 29:=by
     rw [m1]
     by_cases m2:(yrO fr).tmod 4=0
     ·rw [lenO_2y m2];omega
     ·rw [lenO_2n m2];omega
    have:dyO fr ≠ 29:=fun e=>hc ⟨m1,e,m3⟩
    omega
  ·have hl:lenO (yrO fr+k - 1) (moO fr)=lenO (yrO fr) (moO fr):=by unfold lenO;rw [if_neg m1,if_neg m1]
   rw [hl]
   exact hd.2
theorem begR_lt {fr a b:Int} (h:0 ≤ fr) (ha:1 ≤ a) (hab:a < b):begR fr a < begR fr b:=by
 have h1:=begR_bd h ha
 have h2:=begR_bd h (show 1 ≤ b by omega)
 have hy:=yr_pos h
 by_cases e:a+1=b
 ·subst e
  have:yrO fr+(a+1) - 1=yrO fr+a:=by omega
  rw [this] at h2
  omega
 ·have:=ny_lt (show 1 ≤ yrO fr+a by omega) (show yrO fr+a < yrO fr+b - 1 by omega)
  omega
def rgTo (fr n:Int):Nat → Int
 | 0=>1
 | k+1=>if begR fr ((k:Int)+2) ≤ n then (k:Int)+2 else rgTo fr n k
def rgY (fr n:Int):Int:=rgTo fr n 2000
theorem rgTo_spec (fr n:Int):∀ k:Nat,∃ m:Nat,1 ≤ m∧m ≤ k+1∧rgTo fr n k=(m:Int)∧(m=1 ∨ begR fr m ≤ n)∧∀ j:Nat,m < j → j ≤ k+1 → n < begR fr j
 | 0=>⟨1,by omega,by omega,rfl,.inl rfl,fun j h1 h2=>by omega⟩
 | k+1=>by
  by_cases h:begR fr ((k:Int)+2) ≤ n
  ·refine ⟨k+2,by omega,by omega,?_,.inr ?_,fun j h1 h2=>by omega⟩
   ·show (if _ then _ else _)=_
    rw [if_pos h];push_cast;omega
   ·rw [show (((k+2:Nat):Int))=(k:Int)+2 by omega];exact h
  ·obtain ⟨m,h0,h1,h2,h3,h4⟩:=rgTo_spec fr n k
   refine ⟨m,h0,by omega,by show (if _ then _ else _)=_;rw [if_neg h,h2],h3,fun j h5 h6=>?_⟩
   by_cases e:j=k+2
   ·subst e;rw [show (((k+2:Nat):Int))=(k:Int)+2 by omega];omega
   ·exact h4 j h5 (by omega)
theorem rgY_spec {fr n:Int} (h:0 ≤ fr) (hn:n ≤ 730499):1 ≤ rgY fr n∧rgY fr n ≤ 2001∧(rgY fr n=1 ∨ begR fr (rgY fr n) ≤ n)∧n < begR fr (rgY fr n+1):=by
 obtain ⟨m,h0,h1,h2,h3,h4⟩:=rgTo_spec fr n 2000
 have hy:=yr_pos h
 have e:rgY fr n=(m:Int):=h2
 rw [e]
 refine ⟨by omega,by omega,h3.imp (fun x=>by omega) id,?_⟩
 by_cases hm:m ≤ 2000
 ·have:=h4 (m+1) (by omega) (by omega)
  rw [show (((m+1:Nat):Int))=(m:Int)+1 by omega] at this
  exact this
 ·have h5:=begR_bd h (show 1 ≤ (m:Int)+1 by omega)
  have h6:=ny_end
  by_cases e2:yrO fr+((m:Int)+1) - 1=2001
  ·rw [e2] at h5;omega
  ·have:=ny_lt (show (1:Int) ≤ 2001 by omega) (show 2001 < yrO fr+((m:Int)+1) - 1 by omega)
   omega
theorem rgY_is {fr n:Int} (h:0 ≤ fr) (hn:n ≤ 730499) {k:Int} (hk:1 ≤ k) (h1:k=1 ∨ begR fr k ≤ n) (h2:n < begR fr (k+1)):rgY fr n=k:=by
 obtain ⟨g1,_,g2,g3⟩:=rgY_spec h hn
 rcases Int.lt_trichotomy (rgY fr n) k with e | e | e
 ·rcases h1 with h1 | h1
  ·omega
  ·by_cases e2:rgY fr n+1=k
   ·rw [e2] at g3;omega
   ·have:=begR_lt h (show 1 ≤ rgY fr n+1 by omega) (show rgY fr n+1 < k by omega);omega
 ·exact e
 ·rcases g2 with g2 | g2
  ·omega
  ·by_cases e2:k+1=rgY fr n
   ·rw [e2] at h2;omega
   ·have:=begR_lt h (show 1 ≤ k+1 by omega) (show k+1 < rgY fr n by omega);omega
theorem begR_start {fr n:Int} (h:0 ≤ fr) (hn:0 ≤ n) {k:Int} (hk:1 ≤ k) (hy:k ≤ yrO n - yrO fr):begR fr k ≤ n:=by
 have h1:=begR_bd h hk
 have h2:=yr_bd hn
 have hp:=yr_pos h
 by_cases e:yrO fr+k=yrO n
 ·rw [e] at h1;omega
 ·have:=ny_lt (show 1 ≤ yrO fr+k by omega) (show yrO fr+k < yrO n by omega);omega
def HoldF (c:Cls) (n:Int):Prop:=∃ y,(1 ≤ y∧yrO n - 1 ≤ y)∧(y ≤ 2000∧y ≤ yrO n+1)∧relO c.fe c.re c.wd y=n
def HoldR (l:List Nsp) (c:Cls) (n:Int):Prop:=∃ i,i < l.length∧(nspAt l i).nm=c.kg∧((nspAt l i).fr ≤ n∧n ≤ (nspAt l i).to)∧rgY (nspAt l i).fr n=c.nu
def Hold (l:List Nsp) (c:Cls) (n:Int):Prop :=
 if c.ki=0 then moO n=c.mo∧dyO n=c.nu else if c.ki=1 then HoldF c n else if c.ki=2 then HoldR l c n else
 if c.ki=3 then yrS c.st n ≠ 0∧yrS c.st n=c.nu else if c.ki=4 then indN c.st n=c.nu else wdO n=c.wd
def Fits (l:List Nsp) (cs:List Cls) (n:Int):Prop:=∀ i,i < cs.length → Hold l (clsAt cs i) n
end Go.Proofs.YtechbeegbhlppaaGreatDoor
namespace Go.Proofs.YtechbeegbhlppaaGreatDoor
set_option linter.unusedVariables false
set_option linter.unusedSimpArgs false
open Go.RowKit
structure DedAt (w:World) (lo hi:Nat) (f:Nat → Value) (i:Nat) (d:Ded):Prop where
 nm:f (i * 7)=.string d.nm
 dt:Clss w lo hi (f (i * 7+1)) d.dt
 wi:Wits w lo hi (f (i * 7+2)) d.wi
 pl:f (i * 7+3)=.string d.pl
 se:f (i * 7+4)=.string d.se
 ha:f (i * 7+5)=.string d.ha
 ci:Strs w lo hi (f (i * 7+6)) d.ci
def Deds (w:World) (lo hi:Nat) (v:Value) (l:List Ded):Prop:=∃ f:Nat → Value,Row w lo hi 7 v l.length f∧∀ i,i < l.length → DedAt w lo hi f i (dedAt l i)
section
variable {w w' : World} {lo hi lo' hi' : Nat} {v:Value} {l:List Ded}
theorem Deds.ext (h:Deds w lo hi v l) (hx:Ext w w') (hh:hi ≤ w.heap.size):Deds w' lo hi v l:=by
 obtain ⟨f,h1,h2⟩:=h
 exact ⟨f,Row.ext h1 hx hh,fun i hi' => by
  obtain ⟨a,b,c,d,e,g,k⟩:=h2 i hi'
  exact ⟨a,b.ext hx hh,c.ext hx hh,d,e,g,k.ext hx hh⟩⟩
theorem Deds.mono (h:Deds w lo hi v l) (h1:lo' ≤ lo) (h2:hi ≤ hi'):Deds w lo' hi' v l:=by
 obtain ⟨f,k1,k2⟩:=h
 exact ⟨f,Row.mono k1 h1 h2,fun i hi' => by
  obtain ⟨a,b,c,d,e,g,k⟩:=k2 i hi'
  exact ⟨a,b.mono h1 h2,c.mono h1 h2,d,e,g,k.mono h1 h2⟩⟩
theorem Deds.up (h:Deds w 0 w.heap.size v l) (hx:Ext w w'):Deds w' 0 w'.heap.size v l:=(h.ext hx (Nat.le_refl _)).mono (Nat.le_refl _) hx.size
theorem Deds.len (h:Deds w lo hi v l):∃ A c,v=.slice A l.length c∧l.length ≤ 9223372036854775807∧l.length ≤ c:=by
 obtain ⟨f,⟨hn,A,c,e,hc,_⟩,_⟩:=h
 exact ⟨A,c,e,by unfold maxLen at hn;omega,hc⟩
theorem Deds.at_ {A:Option Addr} {c m i:Nat} (h:Deds w lo hi (.slice A m c) l) (hi' : i < l.length) :
  ∃ b off vd vw vc,A=some ⟨b,off,none⟩∧lo ≤ b∧b < hi∧w.cell? ⟨b,off+i * 7,none⟩=some (.string (dedAt l i).nm)∧w.cell? ⟨b,off+i * 7+1,none⟩=some vd∧w.cell? ⟨b,off+i * 7+2,none⟩=some vw ∧
   w.cell? ⟨b,off+i * 7+3,none⟩=some (.string (dedAt l i).pl)∧w.cell? ⟨b,off+i * 7+4,none⟩=some (.string (dedAt l i).se)∧w.cell? ⟨b,off+i * 7+5,none⟩=some (.string (dedAt l i).ha)∧w.cell? ⟨b,off+i * 7+6,none⟩=some vc ∧
   Clss w lo hi vd (dedAt l i).dt∧Wits w lo hi vw (dedAt l i).wi∧Strs w lo hi vc (dedAt l i).ci:=by
 obtain ⟨f,⟨hn,A', c', e,hc,hr⟩,h2⟩:=h
 injection e with e1 e2 e3
 obtain ⟨b,off,hA,k1,k2,k3⟩:=hr (by omega)
 obtain ⟨a0,a1,a2,a3,a4,a5,a6⟩:=h2 i hi'
 refine ⟨b,off,f (i * 7+1),f (i * 7+2),f (i * 7+6),by rw [e1,hA],k1,k2,?_,?_,?_,?_,?_,?_,?_,a1,a2,a6⟩
 ·rw [k3 (i * 7) (by omega),a0]
 ·rw [Nat.add_assoc,k3 (i * 7+1) (by omega)]
 ·rw [Nat.add_assoc,k3 (i * 7+2) (by omega)]
 ·rw [Nat.add_assoc,k3 (i * 7+3) (by omega),a3]
 ·rw [Nat.add_assoc,k3 (i * 7+4) (by omega),a4]
 ·rw [Nat.add_assoc,k3 (i * 7+5) (by omega),a5]
 ·rw [Nat.add_assoc,k3 (i * 7+6) (by omega)]
end
end Go.Proofs.YtechbeegbhlppaaGreatDoor
