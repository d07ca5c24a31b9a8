/- Texts merged (a claim holds at most sixty files): Jd, Jm, Jw, Qa, Qb, Va. -/
import Derived.Test.YtmmokjnljaifcaaGreatDoorE1Lib
import Derived.Test.YtmmokjnljaifcaaGreatDoorE1Ja
import Derived.Test.YtmmokjnljaifcaaGreatDoorE1Jf
/- Plain: structs of strings and numbers in rows; strings in rows. No program in sight. (Printed by genK.py.) -/
namespace Go.Proofs.YtmmokjnljaifcaaGreatDoor
set_option linter.unusedVariables false
set_option linter.unusedSimpArgs false
open Go.RowKit

structure Nsp where
  nm : ByteArray
  fr : Int
  to : Int
def nspAt (l : List Nsp) (i : Nat) : Nsp := l.getD i ⟨⟨#[]⟩, 0, 0⟩
def nspCell (l : List Nsp) (i : Nat) : Value := if i % 3 = 0 then .string (nspAt l (i / 3)).nm else if i % 3 = 1 then .int .i64 (nspAt l (i / 3)).fr else .int .i64 (nspAt l (i / 3)).to
theorem nspCell_0 (l : List Nsp) (j : Nat) : nspCell l (j * 3) = .string (nspAt l j).nm := by
  unfold nspCell
  rw [if_pos (by omega), show (j * 3) / 3 = j from by omega]
theorem nspCell_1 (l : List Nsp) (j : Nat) : nspCell l (j * 3 + 1) = .int .i64 (nspAt l j).fr := by
  unfold nspCell
  rw [if_neg (by omega), if_pos (by omega), show (j * 3 + 1) / 3 = j from by omega]
theorem nspCell_2 (l : List Nsp) (j : Nat) : nspCell l (j * 3 + 2) = .int .i64 (nspAt l j).to := by
  unfold nspCell
  rw [if_neg (by omega), if_neg (by omega), show (j * 3 + 2) / 3 = j from by omega]
def Nsps (w : World) (lo hi : Nat) (v : Value) (l : List Nsp) : Prop := Row w lo hi 3 v l.length (nspCell l)
section
variable {w w' : World} {lo hi lo' hi' : Nat} {v : Value}
theorem Nsps.ext {l : List Nsp} (h : Nsps w lo hi v l) (hx : Ext w w') (hh : hi ≤ w.heap.size) : Nsps w' lo hi v l := Row.ext h hx hh
theorem Nsps.mono {l : List Nsp} (h : Nsps w lo hi v l) (h1 : lo' ≤ lo) (h2 : hi ≤ hi') : Nsps w lo' hi' v l := Row.mono h h1 h2
theorem Nsps.up {l : List Nsp} (h : Nsps w 0 w.heap.size v l) (hx : Ext w w') : Nsps w' 0 w'.heap.size v l := (h.ext hx (Nat.le_refl _)).mono (Nat.le_refl _) hx.size
theorem Nsps.upAt {l : List Nsp} (h : Nsps w lo hi v l) (hh : hi ≤ w.heap.size) (hx : Ext w w') : Nsps w' 0 w'.heap.size v l := Nsps.up (h.mono (Nat.zero_le _) hh) hx
theorem Nsps.len {l : List Nsp} (h : Nsps w lo hi v l) : ∃ A c, v = .slice A l.length c ∧ l.length ≤ 9223372036854775807 ∧ l.length ≤ c := by
  obtain ⟨hn, A, c, e, hc, _⟩ := h
  exact ⟨A, c, e, by unfold maxLen at hn; omega, hc⟩
theorem Nsps.at_ {A : Option Addr} {c : Nat} {l : List Nsp} {m i : Nat} (h : Nsps w lo hi (.slice A m c) l) (hi' : i < l.length) :
    ∃ b off, A = some ⟨b, off, none⟩ ∧ lo ≤ b ∧ b < hi ∧ w.cell? ⟨b, off + i * 3, none⟩ = some (.string (nspAt l i).nm) ∧ w.cell? ⟨b, off + i * 3 + 1, none⟩ = some (.int .i64 (nspAt l i).fr) ∧ w.cell? ⟨b, off + i * 3 + 2, none⟩ = some (.int .i64 (nspAt l i).to) := by
  obtain ⟨hn, A', c', e, hc, hr⟩ := h
  injection e with e1 e2 e3
  obtain ⟨b, off, hA, h1, h2, h3⟩ := hr (by omega)
  refine ⟨b, off, by rw [e1, hA], h1, h2, ?_, ?_, ?_⟩
  · rw [h3 (i * 3) (by omega)]; exact congrArg some (nspCell_0 l i)
  · rw [Nat.add_assoc, h3 (i * 3 + 1) (by omega)]; exact congrArg some (nspCell_1 l i)
  · rw [Nat.add_assoc, h3 (i * 3 + 2) (by omega)]; exact congrArg some (nspCell_2 l i)
end

structure Trm where
  of : ByteArray
  pe : ByteArray
  fr : Int
  to : Int
def trmAt (l : List Trm) (i : Nat) : Trm := l.getD i ⟨⟨#[]⟩, ⟨#[]⟩, 0, 0⟩
def trmCell (l : List Trm) (i : Nat) : Value := if i % 4 = 0 then .string (trmAt l (i / 4)).of else if i % 4 = 1 then .string (trmAt l (i / 4)).pe else if i % 4 = 2 then .int .i64 (trmAt l (i / 4)).fr else .int .i64 (trmAt l (i / 4)).to
theorem trmCell_0 (l : List Trm) (j : Nat) : trmCell l (j * 4) = .string (trmAt l j).of := by
  unfold trmCell
  rw [if_pos (by omega), show (j * 4) / 4 = j from by omega]
theorem trmCell_1 (l : List Trm) (j : Nat) : trmCell l (j * 4 + 1) = .string (trmAt l j).pe := by
  unfold trmCell
  rw [if_neg (by omega), if_pos (by omega), show (j * 4 + 1) / 4 = j from by omega]
theorem trmCell_2 (l : List Trm) (j : Nat) : trmCell l (j * 4 + 2) = .int .i64 (trmAt l j).fr := by
  unfold trmCell
  rw [if_neg (by omega), if_neg (by omega), if_pos (by omega), show (j * 4 + 2) / 4 = j from by omega]
theorem trmCell_3 (l : List Trm) (j : Nat) : trmCell l (j * 4 + 3) = .int .i64 (trmAt l j).to := by
  unfold trmCell
  rw [if_neg (by omega), if_neg (by omega), if_neg (by omega), show (j * 4 + 3) / 4 = j from by omega]
def Trms (w : World) (lo hi : Nat) (v : Value) (l : List Trm) : Prop := Row w lo hi 4 v l.length (trmCell l)
section
variable {w w' : World} {lo hi lo' hi' : Nat} {v : Value}
theorem Trms.ext {l : List Trm} (h : Trms w lo hi v l) (hx : Ext w w') (hh : hi ≤ w.heap.size) : Trms w' lo hi v l := Row.ext h hx hh
theorem Trms.mono {l : List Trm} (h : Trms w lo hi v l) (h1 : lo' ≤ lo) (h2 : hi ≤ hi') : Trms w lo' hi' v l := Row.mono h h1 h2
theorem Trms.up {l : List Trm} (h : Trms w 0 w.heap.size v l) (hx : Ext w w') : Trms w' 0 w'.heap.size v l := (h.ext hx (Nat.le_refl _)).mono (Nat.le_refl _) hx.size
theorem Trms.upAt {l : List Trm} (h : Trms w lo hi v l) (hh : hi ≤ w.heap.size) (hx : Ext w w') : Trms w' 0 w'.heap.size v l := Trms.up (h.mono (Nat.zero_le _) hh) hx
theorem Trms.len {l : List Trm} (h : Trms w lo hi v l) : ∃ A c, v = .slice A l.length c ∧ l.length ≤ 9223372036854775807 ∧ l.length ≤ c := by
  obtain ⟨hn, A, c, e, hc, _⟩ := h
  exact ⟨A, c, e, by unfold maxLen at hn; omega, hc⟩
theorem Trms.at_ {A : Option Addr} {c : Nat} {l : List Trm} {m i : Nat} (h : Trms w lo hi (.slice A m c) l) (hi' : i < l.length) :
    ∃ b off, A = some ⟨b, off, none⟩ ∧ lo ≤ b ∧ b < hi ∧ w.cell? ⟨b, off + i * 4, none⟩ = some (.string (trmAt l i).of) ∧ w.cell? ⟨b, off + i * 4 + 1, none⟩ = some (.string (trmAt l i).pe) ∧ w.cell? ⟨b, off + i * 4 + 2, none⟩ = some (.int .i64 (trmAt l i).fr) ∧ w.cell? ⟨b, off + i * 4 + 3, none⟩ = some (.int .i64 (trmAt l i).to) := by
  obtain ⟨hn, A', c', e, hc, hr⟩ := h
  injection e with e1 e2 e3
  obtain ⟨b, off, hA, h1, h2, h3⟩ := hr (by omega)
  refine ⟨b, off, by rw [e1, hA], h1, h2, ?_, ?_, ?_, ?_⟩
  · rw [h3 (i * 4) (by omega)]; exact congrArg some (trmCell_0 l i)
  · rw [Nat.add_assoc, h3 (i * 4 + 1) (by omega)]; exact congrArg some (trmCell_1 l i)
  · rw [Nat.add_assoc, h3 (i * 4 + 2) (by omega)]; exact congrArg some (trmCell_2 l i)
  · rw [Nat.add_assoc, h3 (i * 4 + 3) (by omega)]; exact congrArg some (trmCell_3 l i)
end

def wyCell (l : List Wy) (i : Nat) : Value := if i % 3 = 0 then .int .i64 (wyAt l (i / 3)).a else if i % 3 = 1 then .int .i64 (wyAt l (i / 3)).b else .int .i64 (wyAt l (i / 3)).d
theorem wyCell_0 (l : List Wy) (j : Nat) : wyCell l (j * 3) = .int .i64 (wyAt l j).a := by
  unfold wyCell
  rw [if_pos (by omega), show (j * 3) / 3 = j from by omega]
theorem wyCell_1 (l : List Wy) (j : Nat) : wyCell l (j * 3 + 1) = .int .i64 (wyAt l j).b := by
  unfold wyCell
  rw [if_neg (by omega), if_pos (by omega), show (j * 3 + 1) / 3 = j from by omega]
theorem wyCell_2 (l : List Wy) (j : Nat) : wyCell l (j * 3 + 2) = .int .i64 (wyAt l j).d := by
  unfold wyCell
  rw [if_neg (by omega), if_neg (by omega), show (j * 3 + 2) / 3 = j from by omega]
def Wys (w : World) (lo hi : Nat) (v : Value) (l : List Wy) : Prop := Row w lo hi 3 v l.length (wyCell l)
section
variable {w w' : World} {lo hi lo' hi' : Nat} {v : Value}
theorem Wys.ext {l : List Wy} (h : Wys w lo hi v l) (hx : Ext w w') (hh : hi ≤ w.heap.size) : Wys w' lo hi v l := Row.ext h hx hh
theorem Wys.mono {l : List Wy} (h : Wys w lo hi v l) (h1 : lo' ≤ lo) (h2 : hi ≤ hi') : Wys w lo' hi' v l := Row.mono h h1 h2
theorem Wys.up {l : List Wy} (h : Wys w 0 w.heap.size v l) (hx : Ext w w') : Wys w' 0 w'.heap.size v l := (h.ext hx (Nat.le_refl _)).mono (Nat.le_refl _) hx.size
theorem Wys.upAt {l : List Wy} (h : Wys w lo hi v l) (hh : hi ≤ w.heap.size) (hx : Ext w w') : Wys w' 0 w'.heap.size v l := Wys.up (h.mono (Nat.zero_le _) hh) hx
theorem Wys.len {l : List Wy} (h : Wys w lo hi v l) : ∃ A c, v = .slice A l.length c ∧ l.length ≤ 9223372036854775807 ∧ l.length ≤ c := by
  obtain ⟨hn, A, c, e, hc, _⟩ := h
  exact ⟨A, c, e, by unfold maxLen at hn; omega, hc⟩
theorem Wys.at_ {A : Option Addr} {c : Nat} {l : List Wy} {m i : Nat} (h : Wys w lo hi (.slice A m c) l) (hi' : i < l.length) :
    ∃ b off, A = some ⟨b, off, none⟩ ∧ lo ≤ b ∧ b < hi ∧ w.cell? ⟨b, off + i * 3, none⟩ = some (.int .i64 (wyAt l i).a) ∧ w.cell? ⟨b, off + i * 3 + 1, none⟩ = some (.int .i64 (wyAt l i).b) ∧ w.cell? ⟨b, off + i * 3 + 2, none⟩ = some (.int .i64 (wyAt l i).d) := by
  obtain ⟨hn, A', c', e, hc, hr⟩ := h
  injection e with e1 e2 e3
  obtain ⟨b, off, hA, h1, h2, h3⟩ := hr (by omega)
  refine ⟨b, off, by rw [e1, hA], h1, h2, ?_, ?_, ?_⟩
  · rw [h3 (i * 3) (by omega)]; exact congrArg some (wyCell_0 l i)
  · rw [Nat.add_assoc, h3 (i * 3 + 1) (by omega)]; exact congrArg some (wyCell_1 l i)
  · rw [Nat.add_assoc, h3 (i * 3 + 2) (by omega)]; exact congrArg some (wyCell_2 l i)
end

structure Cls where
  ki : Int
  nu : Int
  mo : Int
  fe : Int
  re : Int
  wd : Int
  st : Int
  kg : ByteArray
def clsAt (l : List Cls) (i : Nat) : Cls := l.getD i ⟨0, 0, 0, 0, 0, 0, 0, ⟨#[]⟩⟩
def clsCell (l : List Cls) (i : Nat) : Value := if i % 8 = 0 then .int .i64 (clsAt l (i / 8)).ki else if i % 8 = 1 then .int .i64 (clsAt l (i / 8)).nu else if i % 8 = 2 then .int .i64 (clsAt l (i / 8)).mo else if i % 8 = 3 then .int .i64 (clsAt l (i / 8)).fe else if i % 8 = 4 then .int .i64 (clsAt l (i / 8)).re else if i % 8 = 5 then .int .i64 (clsAt l (i / 8)).wd else if i % 8 = 6 then .int .i64 (clsAt l (i / 8)).st else .string (clsAt l (i / 8)).kg
theorem clsCell_0 (l : List Cls) (j : Nat) : clsCell l (j * 8) = .int .i64 (clsAt l j).ki := by
  unfold clsCell
  rw [if_pos (by omega), show (j * 8) / 8 = j from by omega]
theorem clsCell_1 (l : List Cls) (j : Nat) : clsCell l (j * 8 + 1) = .int .i64 (clsAt l j).nu := by
  unfold clsCell
  rw [if_neg (by omega), if_pos (by omega), show (j * 8 + 1) / 8 = j from by omega]
theorem clsCell_2 (l : List Cls) (j : Nat) : clsCell l (j * 8 + 2) = .int .i64 (clsAt l j).mo := by
  unfold clsCell
  rw [if_neg (by omega), if_neg (by omega), if_pos (by omega), show (j * 8 + 2) / 8 = j from by omega]
theorem clsCell_3 (l : List Cls) (j : Nat) : clsCell l (j * 8 + 3) = .int .i64 (clsAt l j).fe := by
  unfold clsCell
  rw [if_neg (by omega), if_neg (by omega), if_neg (by omega), if_pos (by omega), show (j * 8 + 3) / 8 = j from by omega]
theorem clsCell_4 (l : List Cls) (j : Nat) : clsCell l (j * 8 + 4) = .int .i64 (clsAt l j).re := by
  unfold clsCell
  rw [if_neg (by omega), if_neg (by omega), if_neg (by omega), if_neg (by omega), if_pos (by omega), show (j * 8 + 4) / 8 = j from by omega]
theorem clsCell_5 (l : List Cls) (j : Nat) : clsCell l (j * 8 + 5) = .int .i64 (clsAt l j).wd := by
  unfold clsCell
  rw [if_neg (by omega), if_neg (by omega), if_neg (by omega), if_neg (by omega), if_neg (by omega), if_pos (by omega), show (j * 8 + 5) / 8 = j from by omega]
theorem clsCell_6 (l : List Cls) (j : Nat) : clsCell l (j * 8 + 6) = .int .i64 (clsAt l j).st := by
  unfold clsCell
  rw [if_neg (by omega), if_neg (by omega), if_neg (by omega), if_neg (by omega), if_neg (by omega), if_neg (by omega), if_pos (by omega), show (j * 8 + 6) / 8 = j from by omega]
theorem clsCell_7 (l : List Cls) (j : Nat) : clsCell l (j * 8 + 7) = .string (clsAt l j).kg := by
  unfold clsCell
  rw [if_neg (by omega), if_neg (by omega), if_neg (by omega), if_neg (by omega), if_neg (by omega), if_neg (by omega), if_neg (by omega), show (j * 8 + 7) / 8 = j from by omega]
def Clss (w : World) (lo hi : Nat) (v : Value) (l : List Cls) : Prop := Row w lo hi 8 v l.length (clsCell l)
section
variable {w w' : World} {lo hi lo' hi' : Nat} {v : Value}
theorem Clss.ext {l : List Cls} (h : Clss w lo hi v l) (hx : Ext w w') (hh : hi ≤ w.heap.size) : Clss w' lo hi v l := Row.ext h hx hh
theorem Clss.mono {l : List Cls} (h : Clss w lo hi v l) (h1 : lo' ≤ lo) (h2 : hi ≤ hi') : Clss w lo' hi' v l := Row.mono h h1 h2
theorem Clss.up {l : List Cls} (h : Clss w 0 w.heap.size v l) (hx : Ext w w') : Clss w' 0 w'.heap.size v l := (h.ext hx (Nat.le_refl _)).mono (Nat.le_refl _) hx.size
theorem Clss.upAt {l : List Cls} (h : Clss w lo hi v l) (hh : hi ≤ w.heap.size) (hx : Ext w w') : Clss w' 0 w'.heap.size v l := Clss.up (h.mono (Nat.zero_le _) hh) hx
theorem Clss.len {l : List Cls} (h : Clss w lo hi v l) : ∃ A c, v = .slice A l.length c ∧ l.length ≤ 9223372036854775807 ∧ l.length ≤ c := by
  obtain ⟨hn, A, c, e, hc, _⟩ := h
  exact ⟨A, c, e, by unfold maxLen at hn; omega, hc⟩
theorem Clss.at_ {A : Option Addr} {c : Nat} {l : List Cls} {m i : Nat} (h : Clss w lo hi (.slice A m c) l) (hi' : i < l.length) :
    ∃ b off, A = some ⟨b, off, none⟩ ∧ lo ≤ b ∧ b < hi ∧ w.cell? ⟨b, off + i * 8, none⟩ = some (.int .i64 (clsAt l i).ki) ∧ w.cell? ⟨b, off + i * 8 + 1, none⟩ = some (.int .i64 (clsAt l i).nu) ∧ w.cell? ⟨b, off + i * 8 + 2, none⟩ = some (.int .i64 (clsAt l i).mo) ∧ w.cell? ⟨b, off + i * 8 + 3, none⟩ = some (.int .i64 (clsAt l i).fe) ∧ w.cell? ⟨b, off + i * 8 + 4, none⟩ = some (.int .i64 (clsAt l i).re) ∧ w.cell? ⟨b, off + i * 8 + 5, none⟩ = some (.int .i64 (clsAt l i).wd) ∧ w.cell? ⟨b, off + i * 8 + 6, none⟩ = some (.int .i64 (clsAt l i).st) ∧ w.cell? ⟨b, off + i * 8 + 7, none⟩ = some (.string (clsAt l i).kg) := by
  obtain ⟨hn, A', c', e, hc, hr⟩ := h
  injection e with e1 e2 e3
  obtain ⟨b, off, hA, h1, h2, h3⟩ := hr (by omega)
  refine ⟨b, off, by rw [e1, hA], h1, h2, ?_, ?_, ?_, ?_, ?_, ?_, ?_, ?_⟩
  · rw [h3 (i * 8) (by omega)]; exact congrArg some (clsCell_0 l i)
  · rw [Nat.add_assoc, h3 (i * 8 + 1) (by omega)]; exact congrArg some (clsCell_1 l i)
  · rw [Nat.add_assoc, h3 (i * 8 + 2) (by omega)]; exact congrArg some (clsCell_2 l i)
  · rw [Nat.add_assoc, h3 (i * 8 + 3) (by omega)]; exact congrArg some (clsCell_3 l i)
  · rw [Nat.add_assoc, h3 (i * 8 + 4) (by omega)]; exact congrArg some (clsCell_4 l i)
  · rw [Nat.add_assoc, h3 (i * 8 + 5) (by omega)]; exact congrArg some (clsCell_5 l i)
  · rw [Nat.add_assoc, h3 (i * 8 + 6) (by omega)]; exact congrArg some (clsCell_6 l i)
  · rw [Nat.add_assoc, h3 (i * 8 + 7) (by omega)]; exact congrArg some (clsCell_7 l i)
end

structure Wit where
  pe : ByteArray
  of : ByteArray
def witAt (l : List Wit) (i : Nat) : Wit := l.getD i ⟨⟨#[]⟩, ⟨#[]⟩⟩
def witCell (l : List Wit) (i : Nat) : Value := if i % 2 = 0 then .string (witAt l (i / 2)).pe else .string (witAt l (i / 2)).of
theorem witCell_0 (l : List Wit) (j : Nat) : witCell l (j * 2) = .string (witAt l j).pe := by
  unfold witCell
  rw [if_pos (by omega), show (j * 2) / 2 = j from by omega]
theorem witCell_1 (l : List Wit) (j : Nat) : witCell l (j * 2 + 1) = .string (witAt l j).of := by
  unfold witCell
  rw [if_neg (by omega), show (j * 2 + 1) / 2 = j from by omega]
def Wits (w : World) (lo hi : Nat) (v : Value) (l : List Wit) : Prop := Row w lo hi 2 v l.length (witCell l)
section
variable {w w' : World} {lo hi lo' hi' : Nat} {v : Value}
theorem Wits.ext {l : List Wit} (h : Wits w lo hi v l) (hx : Ext w w') (hh : hi ≤ w.heap.size) : Wits w' lo hi v l := Row.ext h hx hh
theorem Wits.mono {l : List Wit} (h : Wits w lo hi v l) (h1 : lo' ≤ lo) (h2 : hi ≤ hi') : Wits w lo' hi' v l := Row.mono h h1 h2
theorem Wits.up {l : List Wit} (h : Wits w 0 w.heap.size v l) (hx : Ext w w') : Wits w' 0 w'.heap.size v l := (h.ext hx (Nat.le_refl _)).mono (Nat.le_refl _) hx.size
theorem Wits.upAt {l : List Wit} (h : Wits w lo hi v l) (hh : hi ≤ w.heap.size) (hx : Ext w w') : Wits w' 0 w'.heap.size v l := Wits.up (h.mono (Nat.zero_le _) hh) hx
theorem Wits.len {l : List Wit} (h : Wits w lo hi v l) : ∃ A c, v = .slice A l.length c ∧ l.length ≤ 9223372036854775807 ∧ l.length ≤ c := by
  obtain ⟨hn, A, c, e, hc, _⟩ := h
  exact ⟨A, c, e, by unfold maxLen at hn; omega, hc⟩
theorem Wits.at_ {A : Option Addr} {c : Nat} {l : List Wit} {m i : Nat} (h : Wits w lo hi (.slice A m c) l) (hi' : i < l.length) :
    ∃ b off, A = some ⟨b, off, none⟩ ∧ lo ≤ b ∧ b < hi ∧ w.cell? ⟨b, off + i * 2, none⟩ = some (.string (witAt l i).pe) ∧ w.cell? ⟨b, off + i * 2 + 1, none⟩ = some (.string (witAt l i).of) := by
  obtain ⟨hn, A', c', e, hc, hr⟩ := h
  injection e with e1 e2 e3
  obtain ⟨b, off, hA, h1, h2, h3⟩ := hr (by omega)
  refine ⟨b, off, by rw [e1, hA], h1, h2, ?_, ?_⟩
  · rw [h3 (i * 2) (by omega)]; exact congrArg some (witCell_0 l i)
  · rw [Nat.add_assoc, h3 (i * 2 + 1) (by omega)]; exact congrArg some (witCell_1 l i)
end

/-! ### Strings -/
def strAt (l : List ByteArray) (i : Nat) : ByteArray := l.getD i ⟨#[]⟩
def strCell (l : List ByteArray) (i : Nat) : Value := .string (strAt l i)
def Strs (w : World) (lo hi : Nat) (v : Value) (l : List ByteArray) : Prop := Row w lo hi 1 v l.length (strCell l)
section
variable {w w' : World} {lo hi lo' hi' : Nat} {v : Value}
theorem Strs.ext {l : List ByteArray} (h : Strs w lo hi v l) (hx : Ext w w') (hh : hi ≤ w.heap.size) : Strs w' lo hi v l := Row.ext h hx hh
theorem Strs.mono {l : List ByteArray} (h : Strs w lo hi v l) (h1 : lo' ≤ lo) (h2 : hi ≤ hi') : Strs w lo' hi' v l := Row.mono h h1 h2
theorem Strs.up {l : List ByteArray} (h : Strs w 0 w.heap.size v l) (hx : Ext w w') : Strs w' 0 w'.heap.size v l := (h.ext hx (Nat.le_refl _)).mono (Nat.le_refl _) hx.size
theorem Strs.upAt {l : List ByteArray} (h : Strs w lo hi v l) (hh : hi ≤ w.heap.size) (hx : Ext w w') : Strs w' 0 w'.heap.size v l := Strs.up (h.mono (Nat.zero_le _) hh) hx
theorem Strs.len {l : List ByteArray} (h : Strs w lo hi v l) : ∃ A c, v = .slice A l.length c ∧ l.length ≤ 9223372036854775807 ∧ l.length ≤ c := by
  obtain ⟨hn, A, c, e, hc, _⟩ := h
  exact ⟨A, c, e, by unfold maxLen at hn; omega, hc⟩
theorem Strs.at_ {A : Option Addr} {c : Nat} {l : List ByteArray} {m i : Nat} (h : Strs w lo hi (.slice A m c) l) (hi' : i < l.length) :
    ∃ b off, A = some ⟨b, off, none⟩ ∧ lo ≤ b ∧ b < hi ∧ w.cell? ⟨b, off + i, none⟩ = some (.string (strAt l i)) := by
  obtain ⟨hn, A', c', e, hc, hr⟩ := h
  injection e with e1 e2 e3
  obtain ⟨b, off, hA, h1, h2, h3⟩ := hr (by omega)
  exact ⟨b, off, by rw [e1, hA], h1, h2, h3 i (by omega)⟩
end
end Go.Proofs.YtmmokjnljaifcaaGreatDoor

/- Plain: marks: their order, their days, what is recorded, in use, longest. -/
namespace Go.Proofs.YtmmokjnljaifcaaGreatDoor
set_option linter.unusedVariables false
set_option linter.unusedSimpArgs false

def MkLt (a b : Nsp) : Prop := sLt a.nm b.nm ∨ (a.nm = b.nm ∧ a.fr < b.fr)
theorem MkLt.trans {a b c : Nsp} (h : MkLt a b) (k : MkLt b c) : MkLt a c := by
  rcases h with h | ⟨e, h⟩
  · rcases k with k | ⟨e2, k⟩
    · exact .inl (sLt_trans h k)
    · exact .inl (e2 ▸ h)
  · rcases k with k | ⟨e2, k⟩
    · exact .inl (e ▸ k)
    · exact .inr ⟨e.trans e2, by omega⟩
/-- the program's way to ask: the order of names, then of days -/
noncomputable def cmpS (a b : ByteArray) : Int := bif B (sLt a b) then -1 else bif B (sLt b a) then 1 else 0
def cmpI (a b : Int) : Int := if a < b then -1 else if b < a then 1 else 0
noncomputable def cmpM (a b : Nsp) : Int := if cmpS a.nm b.nm = 0 then cmpI a.fr b.fr else cmpS a.nm b.nm
theorem cmpS_lt {a b : ByteArray} (h : sLt a b) : cmpS a b = -1 := by unfold cmpS; rw [B_true h]; rfl
theorem cmpS_gt {a b : ByteArray} (h : sLt b a) : cmpS a b = 1 := by unfold cmpS; rw [B_false (sLt_asym h), B_true h]; rfl
theorem cmpS_eq (a : ByteArray) : cmpS a a = 0 := by unfold cmpS; rw [B_false (sLt_irr a)]; rfl
theorem cmpM_neg (a b : Nsp) : cmpM a b < 0 ↔ MkLt a b := by
  unfold cmpM MkLt
  by_cases h1 : sLt a.nm b.nm
  · rw [cmpS_lt h1]
    simp [h1]
  · by_cases h2 : sLt b.nm a.nm
    · rw [cmpS_gt h2]
      simp [h1]
      intro e
      exact absurd (e ▸ h2) (sLt_irr _)
    · have e := sLt_tri h1 h2
      rw [e, cmpS_eq, if_pos rfl]
      unfold cmpI
      constructor
      · intro h
        refine .inr ⟨rfl, ?_⟩
        by_cases c : a.fr < b.fr
        · exact c
        · rw [if_neg c] at h; split at h <;> omega
      · rintro (h | ⟨_, h⟩)
        · exact absurd h (sLt_irr _)
        · rw [if_pos h]; omega
def NspOk (a : Nsp) : Prop := NameOk a.nm 12 ∧ DayOk a.fr ∧ DayOk a.to ∧ a.fr ≤ a.to
def MkStep (l : List Nsp) (i : Nat) : Prop := NspOk (nspAt l i) ∧ (0 < i → MkLt (nspAt l (i - 1)) (nspAt l i))
def MksOk (l : List Nsp) : Prop := l.length ≤ 40 ∧ ∀ i, i < l.length → MkStep l i
theorem mks_step {l : List Nsp} {j : Nat} (h : ∀ i, i < j → MkStep l i) (h' : MkStep l j) : ∀ i, i < j + 1 → MkStep l i := by
  intro i hi
  by_cases e : i = j
  · subst e; exact h'
  · exact h i (by omega)
/-! ### The days of a mark -/
def mdTo (l : List Nsp) (name : ByteArray) : Nat → List Sp
  | 0 => []
  | k + 1 => if (nspAt l k).nm = name then mdTo l name k ++ [⟨(nspAt l k).fr, (nspAt l k).to⟩] else mdTo l name k
theorem mdTo_yes {l : List Nsp} {name : ByteArray} {k : Nat} (h : (nspAt l k).nm = name) : mdTo l name (k + 1) = mdTo l name k ++ [⟨(nspAt l k).fr, (nspAt l k).to⟩] := if_pos h
theorem mdTo_no {l : List Nsp} {name : ByteArray} {k : Nat} (h : ¬ (nspAt l k).nm = name) : mdTo l name (k + 1) = mdTo l name k := if_neg h
theorem mdTo_len (l : List Nsp) (name : ByteArray) : ∀ k, (mdTo l name k).length ≤ k
  | 0 => Nat.le_refl _
  | k + 1 => by
    have := mdTo_len l name k
    unfold mdTo
    split
    · simp; omega
    · omega
theorem mdTo_all {l : List Nsp} {name : ByteArray} {P : Sp → Prop} : ∀ k, (∀ i, i < k → (nspAt l i).nm = name → P ⟨(nspAt l i).fr, (nspAt l i).to⟩) → ∀ i, i < (mdTo l name k).length → P (spAt (mdTo l name k) i)
  | 0, _, i, hi => absurd hi (by simp [mdTo])
  | k + 1, h, i, hi => by
    by_cases e : (nspAt l k).nm = name
    · rw [mdTo_yes e] at hi ⊢
      rw [spAt_app (by simpa using hi)]
      split
      · exact h k (by omega) e
      · exact mdTo_all k (fun i hi => h i (by omega)) i (by simp at hi; omega)
    · rw [mdTo_no e] at hi ⊢
      exact mdTo_all k (fun i hi => h i (by omega)) i hi
def mdL (l : List Nsp) (name : ByteArray) : List Sp := mdTo l name l.length
theorem mdL_ok {l : List Nsp} (h : MksOk l) (name : ByteArray) : (mdL l name).length ≤ 40 ∧ (∀ i, i < (mdL l name).length → SpOk (spAt (mdL l name) i)) := by
  refine ⟨Nat.le_trans (mdTo_len _ _ _) h.1, mdTo_all _ (fun i hi _ => ?_)⟩
  obtain ⟨⟨_, h1, h2, h3⟩, _⟩ := h.2 i hi
  exact ⟨h1, h2, h3⟩
/-! ### What is recorded -/
end Go.Proofs.YtmmokjnljaifcaaGreatDoor

/- Plain: what is told of people, lands, itineraries, chanceries, worlds. -/
namespace Go.Proofs.YtmmokjnljaifcaaGreatDoor
set_option linter.unusedVariables false
set_option linter.unusedSimpArgs false

/-- the first index below k of which p holds, or -1 -/
noncomputable def fstIx (p : Nat → Prop) : Nat → Int
  | 0 => -1
  | k + 1 => if fstIx p k = -1 then (bif B (p k) then (k : Int) else -1) else fstIx p k
theorem fstIx_none {p : Nat → Prop} : ∀ k, (∀ i, i < k → ¬ p i) → fstIx p k = -1
  | 0, _ => rfl
  | k + 1, h => by
    rw [fstIx, fstIx_none k (fun i hi => h i (by omega)), if_pos rfl, B_false (h k (by omega))]
    rfl
theorem fstIx_at {p : Nat → Prop} : ∀ k j, j < k → p j → (∀ i, i < j → ¬ p i) → fstIx p k = j
  | 0, j, h, _, _ => absurd h (by omega)
  | k + 1, j, hj, h1, h2 => by
    by_cases e : j = k
    · subst e
      rw [fstIx, fstIx_none j h2, if_pos rfl, B_true h1]
      rfl
    · rw [fstIx, fstIx_at k j (by omega) h1 h2, if_neg (by omega)]
theorem fstIx_cases (p : Nat → Prop) : ∀ k, (fstIx p k = -1 ∧ ∀ i, i < k → ¬ p i) ∨ ∃ j, j < k ∧ fstIx p k = (j : Int) ∧ p j ∧ ∀ i, i < j → ¬ p i
  | 0 => .inl ⟨rfl, fun i hi => absurd hi (by omega)⟩
  | k + 1 => by
    rcases fstIx_cases p k with ⟨h1, h2⟩ | ⟨j, h1, h2, h3, h4⟩
    · by_cases h : p k
      · exact .inr ⟨k, by omega, fstIx_at (k + 1) k (by omega) h h2, h, h2⟩
      · have hn : ∀ i, i < k + 1 → ¬ p i := fun i hi => by
          by_cases e : i = k
          · subst e; exact h
          · exact h2 i (by omega)
        exact .inl ⟨fstIx_none (k + 1) hn, hn⟩
    · exact .inr ⟨j, by omega, fstIx_at (k + 1) j (by omega) h3 h4, h3, h4⟩
theorem fstIx_congr {p q : Nat → Prop} : ∀ k, (∀ i, i < k → (p i ↔ q i)) → fstIx p k = fstIx q k
  | 0, _ => rfl
  | k + 1, h => by
    rw [fstIx, fstIx, fstIx_congr k (fun i hi => h i (by omega)), B_congr (h k (by omega))]
/-! ### Chanceries -/
structure Chan where
  rg : List Nsp
  fr : Int
  to : Int
def RgStep (l : List Nsp) (i : Nat) : Prop := NspOk (nspAt l i) ∧ (0 < i → (nspAt l (i - 1)).fr ≤ (nspAt l i).fr)
def RgsOk (l : List Nsp) : Prop := l.length ≤ 30 ∧ ∀ i, i < l.length → RgStep l i
theorem rgs_step {l : List Nsp} {j : Nat} (h : ∀ i, i < j → RgStep l i) (h' : RgStep l j) : ∀ i, i < j + 1 → RgStep l i := by
  intro i hi
  by_cases e : i = j
  · subst e; exact h'
  · exact h i (by omega)
def ChanOk (c : Chan) : Prop := RgsOk c.rg ∧ DayOk c.fr ∧ DayOk c.to ∧ c.fr ≤ c.to ∧ c.to - c.fr ≤ 20000
/-! ### People -/
structure Ppl where
  ps : List Nsp
  tm : List Trm
def PsStep (l : List Nsp) (i : Nat) : Prop := NspOk (nspAt l i) ∧ (0 < i → sLt (nspAt l (i - 1)).nm (nspAt l i).nm)
/-- the person with a name -/
noncomputable def psIx (l : List Nsp) (name : ByteArray) : Int := fstIx (fun i => (nspAt l i).nm = name) l.length
def TrmOk (l : List Nsp) (t : Trm) : Prop := 0 ≤ psIx l t.pe ∧ NameOk t.of 12 ∧ t.fr ≤ t.to ∧ (nspAt l (psIx l t.pe).toNat).fr ≤ t.fr ∧ t.to ≤ (nspAt l (psIx l t.pe).toNat).to
def PplOk (p : Ppl) : Prop := p.ps.length ≤ 40 ∧ p.tm.length ≤ 60 ∧ (∀ i, i < p.ps.length → PsStep p.ps i) ∧ ∀ i, i < p.tm.length → TrmOk p.ps (trmAt p.tm i)
theorem ps_step {l : List Nsp} {j : Nat} (h : ∀ i, i < j → PsStep l i) (h' : PsStep l j) : ∀ i, i < j + 1 → PsStep l i := by
  intro i hi
  by_cases e : i = j
  · subst e; exact h'
  · exact h i (by omega)
theorem psIx_lt {l : List Nsp} {name : ByteArray} (h : 0 ≤ psIx l name) : (psIx l name).toNat < l.length ∧ (((psIx l name).toNat : Nat) : Int) = psIx l name := by
  unfold psIx at *
  rcases fstIx_cases (fun i => (nspAt l i).nm = name) l.length with ⟨h1, _⟩ | ⟨j, h1, h2, _⟩
  · omega
  · rw [h2]; omega
/-! ### Lands -/
structure Lnd where
  pl : List ByteArray
  wy : List Wy
def PlStep (l : List ByteArray) (i : Nat) : Prop := NameOk (strAt l i) 12 ∧ ∀ k, k < i → strAt l k ≠ strAt l i
def LndOk (l : Lnd) : Prop := (1 ≤ l.pl.length ∧ l.pl.length ≤ 12) ∧ l.wy.length ≤ 40 ∧ (∀ i, i < l.pl.length → PlStep l.pl i) ∧ ∀ i, i < l.wy.length → WyOk l.pl.length (wyAt l.wy i)
theorem pl_step {l : List ByteArray} {j : Nat} (h : ∀ i, i < j → PlStep l i) (h' : PlStep l j) : ∀ i, i < j + 1 → PlStep l i := by
  intro i hi
  by_cases e : i = j
  · subst e; exact h'
  · exact h i (by omega)
/-! ### Itineraries (a stay: place a, from b, to d) -/
def StyOk (n : Nat) (s : Wy) : Prop := (0 ≤ s.a ∧ s.a ≤ (n : Int) - 1) ∧ DayOk s.b ∧ DayOk s.d ∧ s.b ≤ s.d
/-- the next stay: there is a way, and time for it -/
def Nxt (M : Mat) (s t : Wy) : Prop := M s.a.toNat t.a.toNat < 1000000 ∧ s.d < t.b ∧ s.d + M s.a.toNat t.a.toNat ≤ t.b
def StStep (n : Nat) (M : Mat) (l : List Wy) (i : Nat) : Prop := StyOk n (wyAt l i) ∧ (0 < i → Nxt M (wyAt l (i - 1)) (wyAt l i))
def ItiOk (l : Lnd) (s : List Wy) : Prop := LndOk l ∧ s.length ≤ 40 ∧ ∀ i, i < s.length → StStep l.pl.length (trvM l.pl.length l.wy) s i
theorem st_step {n : Nat} {M : Mat} {l : List Wy} {j : Nat} (h : ∀ i, i < j → StStep n M l i) (h' : StStep n M l j) : ∀ i, i < j + 1 → StStep n M l i := by
  intro i hi
  by_cases e : i = j
  · subst e; exact h'
  · exact h i (by omega)
/-- the reference's test of two stays -/
theorem nxt_iff {n : Nat} {l : List Wy} (hl : ∀ i, i < l.length → WyOk n (wyAt l i)) (h40 : l.length ≤ 40) (hn : n ≤ 12) {s t : Wy} (hs : StyOk n s) (ht : StyOk n t) :
    Nxt (trvM n l) s t ↔ 0 ≤ frmV n l s.a.toNat t.a.toNat ∧ s.d + max 1 (frmV n l s.a.toNat t.a.toNat) ≤ t.b := by
  obtain ⟨⟨a0, a1⟩, _⟩ := hs
  obtain ⟨⟨b0, b1⟩, _⟩ := ht
  have hnn := (trv_ok hl).1.nn s.a.toNat t.a.toNat (by omega) (by omega)
  unfold Nxt
  rcases travel_same hl h40 hn (a := s.a.toNat) (b := t.a.toNat) (by omega) (by omega) with ⟨h1, h2⟩ | ⟨h1, h2⟩
  · rw [h2]; omega
  · rw [h2]; omega
/-! ### Worlds -/
structure Wrl where
  ch : Chan
  pp : Ppl
  ld : Lnd
  st : List Wy
  se : List Nsp
  ha : List Nsp
def WrlOk (w : Wrl) : Prop := ChanOk w.ch ∧ PplOk w.pp ∧ ItiOk w.ld w.st ∧ MksOk w.se ∧ MksOk w.ha
end Go.Proofs.YtmmokjnljaifcaaGreatDoor

/- Deeds, plain: clauses, datings, deeds as told; who cites whom; the order of citing. -/
namespace Go.Proofs.YtmmokjnljaifcaaGreatDoor
set_option linter.unusedVariables false
set_option linter.unusedSimpArgs false
open Go.RowKit

/-! ### Clauses -/
def MdLen (mo : Int) : Int := if mo = 2 then 29 else if mo = 4 ∨ mo = 6 ∨ mo = 9 ∨ mo = 11 then 30 else 31
def MdOk (mo d : Int) : Prop := (1 ≤ mo ∧ mo ≤ 12) ∧ 1 ≤ d ∧ d ≤ MdLen mo
def RelOk (fe re wd : Int) : Prop := (0 ≤ fe ∧ fe ≤ 19) ∧ (0 ≤ re ∧ re ≤ 4) ∧ (0 ≤ wd ∧ wd ≤ 6) ∧ (3 ≤ re ∨ wd = 0)
/-- a clause with the fields of its kind alone -/
def clsUsed (c : Cls) : Cls :=
  if c.ki = 0 then ⟨0, c.nu, c.mo, 0, 0, 0, 0, ⟨#[]⟩⟩ else
  if c.ki = 1 then ⟨1, 0, 0, c.fe, c.re, c.wd, 0, ⟨#[]⟩⟩ else
  if c.ki = 2 then ⟨2, c.nu, 0, 0, 0, 0, 0, c.kg⟩ else
  if c.ki = 3 then ⟨3, c.nu, 0, 0, 0, 0, c.st, ⟨#[]⟩⟩ else
  if c.ki = 4 then ⟨4, c.nu, 0, 0, 0, 0, c.st, ⟨#[]⟩⟩ else
  if c.ki = 5 then ⟨5, 0, 0, 0, 0, c.wd, 0, ⟨#[]⟩⟩ else ⟨c.ki, 0, 0, 0, 0, 0, 0, ⟨#[]⟩⟩
def clsFine (c : Cls) : Prop :=
  (c.ki = 0 ∧ MdOk c.mo c.nu) ∨ (c.ki = 1 ∧ RelOk c.fe c.re c.wd) ∨ (c.ki = 2 ∧ (1 ≤ c.nu ∧ c.nu ≤ 99) ∧ NameOk c.kg 12) ∨
  (c.ki = 3 ∧ (2 ≤ c.nu ∧ c.nu ≤ 1999) ∧ 0 ≤ c.st ∧ c.st ≤ 6) ∨ (c.ki = 4 ∧ (1 ≤ c.nu ∧ c.nu ≤ 15) ∧ 0 ≤ c.st ∧ c.st ≤ 2) ∨ (c.ki = 5 ∧ 0 ≤ c.wd ∧ c.wd ≤ 6)
def ClsOk (c : Cls) : Prop := clsFine c ∧ c = clsUsed c
def DtgOk (l : List Cls) : Prop := l.length ≤ 8 ∧ ∀ i, i < l.length → ClsOk (clsAt l i)
theorem dtg_step {l : List Cls} {j : Nat} (h : ∀ i, i < j → ClsOk (clsAt l i)) (h' : ClsOk (clsAt l j)) : ∀ i, i < j + 1 → ClsOk (clsAt l i) := by
  intro i hi
  by_cases e : i = j
  · subst e; exact h'
  · exact h i (by omega)
/-! ### Deeds -/
structure Ded where
  nm : ByteArray
  dt : List Cls
  wi : List Wit
  pl : ByteArray
  se : ByteArray
  ha : ByteArray
  ci : List ByteArray
def dedAt (l : List Ded) (i : Nat) : Ded := l.getD i ⟨⟨#[]⟩, [], [], ⟨#[]⟩, ⟨#[]⟩, ⟨#[]⟩, []⟩
/-- the deed with a name -/
noncomputable def ddIx (l : List Ded) (name : ByteArray) : Int := fstIx (fun i => (dedAt l i).nm = name) l.length
theorem ddIx_lt {l : List Ded} {name : ByteArray} (h : 0 ≤ ddIx l name) : (ddIx l name).toNat < l.length ∧ (((ddIx l name).toNat : Nat) : Int) = ddIx l name ∧ (dedAt l (ddIx l name).toNat).nm = name := by
  unfold ddIx at *
  rcases fstIx_cases (fun i => (dedAt l i).nm = name) l.length with ⟨h1, _⟩ | ⟨j, h1, h2, h3, _⟩
  · omega
  · rw [h2]; exact ⟨by omega, by omega, h3⟩
/-- one cite of a deed as told -/
def CiteOk (ds : List Ded) (d : Ded) (k : Nat) : Prop := strAt d.ci k ≠ d.nm ∧ 0 ≤ ddIx ds (strAt d.ci k) ∧ ∀ j, j < k → strAt d.ci j ≠ strAt d.ci k
/-- a deed as told, but for its name's being the first of its kind -/
def DedIn (W : Wrl) (ds : List Ded) (d : Ded) : Prop :=
  NameOk d.nm 12 ∧ DtgOk d.dt ∧ (d.wi.length ≤ 12 ∧ ∀ k, k < d.wi.length → 0 ≤ psIx W.pp.ps (witAt d.wi k).pe) ∧ d.ci.length ≤ 8 ∧
  (d.pl = ⟨#[]⟩ ∨ 0 ≤ fstIx (fun i => strAt W.ld.pl i = d.pl) W.ld.pl.length) ∧ (d.se = ⟨#[]⟩ ∨ 0 < (mkL (mdL W.se d.se)).length) ∧ (d.ha = ⟨#[]⟩ ∨ 0 < (mkL (mdL W.ha d.ha)).length) ∧
  ∀ k, k < d.ci.length → CiteOk ds d k
def DedOk (W : Wrl) (ds : List Ded) (i : Nat) : Prop := DedIn W ds (dedAt ds i) ∧ ∀ k, k < i → (dedAt ds k).nm ≠ (dedAt ds i).nm
def DedsOk (W : Wrl) (ds : List Ded) : Prop := WrlOk W ∧ ds.length ≤ 8 ∧ ∀ i, i < ds.length → DedOk W ds i
theorem ded_step {W : Wrl} {l : List Ded} {j : Nat} (h : ∀ i, i < j → DedOk W l i) (h' : DedOk W l j) : ∀ i, i < j + 1 → DedOk W l i := by
  intro i hi
  by_cases e : i = j
  · subst e; exact h'
  · exact h i (by omega)
theorem ddIx_self {W : Wrl} {ds : List Ded} (h : ∀ i, i < ds.length → DedOk W ds i) {i : Nat} (hi : i < ds.length) : ddIx ds (dedAt ds i).nm = (i : Int) :=
  fstIx_at ds.length i hi rfl (fun k hk => (h i hi).2 k hk)
theorem ded_first {ds : List Ded} {i : Nat} (hi : i < ds.length) : ddIx ds (dedAt ds i).nm = (i : Int) ↔ ∀ k, k < i → (dedAt ds k).nm ≠ (dedAt ds i).nm := by
  constructor
  · intro h k hk e
    unfold ddIx at h
    rcases fstIx_cases (fun j => (dedAt ds j).nm = (dedAt ds i).nm) ds.length with ⟨h1, _⟩ | ⟨j, h1, h2, h3, h4⟩
    · omega
    · have : j = i := by omega
      subst this
      exact h4 k hk e
  · intro h
    exact fstIx_at ds.length i hi rfl h
/-! ### Who cites a deed -/
noncomputable def cbTo (ds : List Ded) (name : ByteArray) : Nat → List Int
  | 0 => []
  | k + 1 => bif B (0 ≤ fstIx (fun i => strAt (dedAt ds k).ci i = name) (dedAt ds k).ci.length) then cbTo ds name k ++ [(k : Int)] else cbTo ds name k
theorem cbTo_yes {ds : List Ded} {name : ByteArray} {k : Nat} (h : 0 ≤ fstIx (fun i => strAt (dedAt ds k).ci i = name) (dedAt ds k).ci.length) : cbTo ds name (k + 1) = cbTo ds name k ++ [(k : Int)] := by show (bif B _ then _ else _) = _; rw [B_true h]; rfl
theorem cbTo_no {ds : List Ded} {name : ByteArray} {k : Nat} (h : ¬ 0 ≤ fstIx (fun i => strAt (dedAt ds k).ci i = name) (dedAt ds k).ci.length) : cbTo ds name (k + 1) = cbTo ds name k := by show (bif B _ then _ else _) = _; rw [B_false h]; rfl
theorem cbTo_len (ds : List Ded) (name : ByteArray) : ∀ k, (cbTo ds name k).length ≤ k
  | 0 => Nat.le_refl _
  | k + 1 => by
    have := cbTo_len ds name k
    by_cases h : 0 ≤ fstIx (fun i => strAt (dedAt ds k).ci i = name) (dedAt ds k).ci.length
    · rw [cbTo_yes h]; simp; omega
    · rw [cbTo_no h]; omega
/-- the code of deeds and an index -/
noncomputable def ddE (W : Wrl) (ds : List Ded) (i : Int) : Int := bif B (DedsOk W ds) then (bif B (0 ≤ i ∧ i ≤ (ds.length : Int) - 1) then 0 else 2) else 1
theorem ddE_no {W : Wrl} {ds : List Ded} {i : Int} (h : ¬ DedsOk W ds) : ddE W ds i = 1 := by unfold ddE; rw [B_false h]; rfl
theorem ddE_rng {W : Wrl} {ds : List Ded} {i : Int} (h : DedsOk W ds) (h1 : ¬ (0 ≤ i ∧ i ≤ (ds.length : Int) - 1)) : ddE W ds i = 2 := by unfold ddE; rw [B_true h, B_false h1]; rfl
theorem ddE_ok {W : Wrl} {ds : List Ded} {i : Int} (h : DedsOk W ds) (h1 : 0 ≤ i ∧ i ≤ (ds.length : Int) - 1) : ddE W ds i = 0 := by unfold ddE; rw [B_true h, B_true h1]; rfl
noncomputable def cbL (W : Wrl) (ds : List Ded) (i : Int) : List Int := bif B (DedsOk W ds ∧ 0 ≤ i ∧ i ≤ (ds.length : Int) - 1) then cbTo ds (dedAt ds i.toNat).nm ds.length else []
theorem cbL_no {W : Wrl} {ds : List Ded} {i : Int} (h : ¬ (DedsOk W ds ∧ 0 ≤ i ∧ i ≤ (ds.length : Int) - 1)) : cbL W ds i = [] := by unfold cbL; rw [B_false h]; rfl
theorem cbL_ok {W : Wrl} {ds : List Ded} {i : Int} (h : DedsOk W ds ∧ 0 ≤ i ∧ i ≤ (ds.length : Int) - 1) : cbL W ds i = cbTo ds (dedAt ds i.toNat).nm ds.length := by unfold cbL; rw [B_true h]; rfl
theorem cbL_len (W : Wrl) (ds : List Ded) (i : Int) : (cbL W ds i).length ≤ 8 := by
  by_cases h : DedsOk W ds ∧ 0 ≤ i ∧ i ≤ (ds.length : Int) - 1
  · rw [cbL_ok h]; have := cbTo_len ds (dedAt ds i.toNat).nm ds.length; have := h.1.2.1; omega
  · rw [cbL_no h]; simp
/-! ### The order of citing -/
/-- the deed may stand next: it stands nowhere yet, and all that it cites stands -/
def CoFree (ds : List Ded) (out : List Int) (i : Nat) : Prop := (i : Int) ∉ out ∧ ∀ k, k < (dedAt ds i).ci.length → ddIx ds (strAt (dedAt ds i).ci k) ∈ out
noncomputable def coNext (ds : List Ded) (out : List Int) : Int := fstIx (CoFree ds out) ds.length
/-- the order, n deeds long at most; none if it comes to a stop -/
noncomputable def coTo (ds : List Ded) : Nat → Option (List Int)
  | 0 => some []
  | n + 1 => (coTo ds n).bind (fun out => if coNext ds out = -1 then none else some (out ++ [coNext ds out]))
theorem coTo_none {ds : List Ded} {n : Nat} (h : coTo ds n = none) : coTo ds (n + 1) = none := by show (coTo ds n).bind _ = _; rw [h]; rfl
theorem coTo_stop {ds : List Ded} {n : Nat} {out : List Int} (h : coTo ds n = some out) (h1 : coNext ds out = -1) : coTo ds (n + 1) = none := by show (coTo ds n).bind _ = _; rw [h]; exact if_pos h1
theorem coTo_go {ds : List Ded} {n : Nat} {out : List Int} (h : coTo ds n = some out) (h1 : ¬ coNext ds out = -1) : coTo ds (n + 1) = some (out ++ [coNext ds out]) := by show (coTo ds n).bind _ = _; rw [h]; exact if_neg h1
theorem coTo_never {ds : List Ded} {n : Nat} (h : coTo ds n = none) : ∀ m, n ≤ m → coTo ds m = none
  | 0, hm => by have : n = 0 := by omega
                subst this; exact h
  | m + 1, hm => by
    by_cases e : n = m + 1
    · subst e; exact h
    · exact coTo_none (coTo_never h m (by omega))
theorem coTo_len {ds : List Ded} : ∀ {n : Nat} {out : List Int}, coTo ds n = some out → out.length = n
  | 0, out, h => by have h : some [] = some out := h; injection h with h; subst h; rfl
  | n + 1, out, h => by
    cases e : coTo ds n with
    | none => rw [coTo_none e] at h; cases h
    | some o =>
      by_cases h1 : coNext ds o = -1
      · rw [coTo_stop e h1] at h; cases h
      · rw [coTo_go e h1] at h
        injection h with h
        subst h
        rw [List.length_append, coTo_len e]
        rfl
noncomputable def coE (W : Wrl) (ds : List Ded) : Int := bif B (DedsOk W ds) then (if coTo ds ds.length = none then 5 else 0) else 1
noncomputable def coL (W : Wrl) (ds : List Ded) : List Int := bif B (DedsOk W ds) then (coTo ds ds.length).getD [] else []
theorem co_no {W : Wrl} {ds : List Ded} (h : ¬ DedsOk W ds) : coE W ds = 1 ∧ coL W ds = [] := ⟨by unfold coE; rw [B_false h]; rfl, by unfold coL; rw [B_false h]; rfl⟩
theorem co_stop {W : Wrl} {ds : List Ded} (h : DedsOk W ds) (h1 : coTo ds ds.length = none) : coE W ds = 5 ∧ coL W ds = [] := ⟨by unfold coE; rw [B_true h, h1]; rfl, by unfold coL; rw [B_true h, h1]; rfl⟩
theorem co_ok {W : Wrl} {ds : List Ded} (h : DedsOk W ds) {out : List Int} (h1 : coTo ds ds.length = some out) : coE W ds = 0 ∧ coL W ds = out := by
  constructor
  · unfold coE; rw [B_true h, h1]; rfl
  · unfold coL; rw [B_true h, h1]; rfl
theorem coL_len (W : Wrl) (ds : List Ded) : (coL W ds).length ≤ 8 := by
  by_cases h : DedsOk W ds
  · cases e : coTo ds ds.length with
    | none => rw [(co_stop h e).2]; simp
    | some out => rw [(co_ok h e).2, coTo_len e]; exact h.2.1
  · rw [(co_no h).2]; simp
end Go.Proofs.YtmmokjnljaifcaaGreatDoor

/- Deeds in memory: rows of seven cells, three of them slices of their own. -/
namespace Go.Proofs.YtmmokjnljaifcaaGreatDoor
set_option linter.unusedVariables false
set_option linter.unusedSimpArgs false
open Go.RowKit

/-- one deed's cells -/
structure DedAt (w : World) (lo hi : Nat) (f : Nat → Value) (i : Nat) (d : Ded) : Prop where
  nm : f (i * 7) = .string d.nm
  dt : Clss w lo hi (f (i * 7 + 1)) d.dt
  wi : Wits w lo hi (f (i * 7 + 2)) d.wi
  pl : f (i * 7 + 3) = .string d.pl
  se : f (i * 7 + 4) = .string d.se
  ha : f (i * 7 + 5) = .string d.ha
  ci : Strs w lo hi (f (i * 7 + 6)) d.ci
def Deds (w : World) (lo hi : Nat) (v : Value) (l : List Ded) : Prop := ∃ f : Nat → Value, Row w lo hi 7 v l.length f ∧ ∀ i, i < l.length → DedAt w lo hi f i (dedAt l i)
section
variable {w w' : World} {lo hi lo' hi' : Nat} {v : Value} {l : List Ded}
theorem Deds.ext (h : Deds w lo hi v l) (hx : Ext w w') (hh : hi ≤ w.heap.size) : Deds w' lo hi v l := by
  obtain ⟨f, h1, h2⟩ := h
  exact ⟨f, Row.ext h1 hx hh, fun i hi' => by
    obtain ⟨a, b, c, d, e, g, k⟩ := h2 i hi'
    exact ⟨a, b.ext hx hh, c.ext hx hh, d, e, g, k.ext hx hh⟩⟩
theorem Deds.mono (h : Deds w lo hi v l) (h1 : lo' ≤ lo) (h2 : hi ≤ hi') : Deds w lo' hi' v l := by
  obtain ⟨f, k1, k2⟩ := h
  exact ⟨f, Row.mono k1 h1 h2, fun i hi' => by
    obtain ⟨a, b, c, d, e, g, k⟩ := k2 i hi'
    exact ⟨a, b.mono h1 h2, c.mono h1 h2, d, e, g, k.mono h1 h2⟩⟩
theorem Deds.up (h : Deds w 0 w.heap.size v l) (hx : Ext w w') : Deds w' 0 w'.heap.size v l := (h.ext hx (Nat.le_refl _)).mono (Nat.le_refl _) hx.size
theorem Deds.len (h : Deds w lo hi v l) : ∃ A c, v = .slice A l.length c ∧ l.length ≤ 9223372036854775807 ∧ l.length ≤ c := by
  obtain ⟨f, ⟨hn, A, c, e, hc, _⟩, _⟩ := h
  exact ⟨A, c, e, by unfold maxLen at hn; omega, hc⟩
theorem Deds.at_ {A : Option Addr} {c m i : Nat} (h : Deds w lo hi (.slice A m c) l) (hi' : i < l.length) :
    ∃ b off vd vw vc, A = some ⟨b, off, none⟩ ∧ lo ≤ b ∧ b < hi ∧ w.cell? ⟨b, off + i * 7, none⟩ = some (.string (dedAt l i).nm) ∧ w.cell? ⟨b, off + i * 7 + 1, none⟩ = some vd ∧ w.cell? ⟨b, off + i * 7 + 2, none⟩ = some vw ∧
      w.cell? ⟨b, off + i * 7 + 3, none⟩ = some (.string (dedAt l i).pl) ∧ w.cell? ⟨b, off + i * 7 + 4, none⟩ = some (.string (dedAt l i).se) ∧ w.cell? ⟨b, off + i * 7 + 5, none⟩ = some (.string (dedAt l i).ha) ∧ w.cell? ⟨b, off + i * 7 + 6, none⟩ = some vc ∧
      Clss w lo hi vd (dedAt l i).dt ∧ Wits w lo hi vw (dedAt l i).wi ∧ Strs w lo hi vc (dedAt l i).ci := by
  obtain ⟨f, ⟨hn, A', c', e, hc, hr⟩, h2⟩ := h
  injection e with e1 e2 e3
  obtain ⟨b, off, hA, k1, k2, k3⟩ := hr (by omega)
  obtain ⟨a0, a1, a2, a3, a4, a5, a6⟩ := h2 i hi'
  refine ⟨b, off, f (i * 7 + 1), f (i * 7 + 2), f (i * 7 + 6), by rw [e1, hA], k1, k2, ?_, ?_, ?_, ?_, ?_, ?_, ?_, a1, a2, a6⟩
  · rw [k3 (i * 7) (by omega), a0]
  · rw [Nat.add_assoc, k3 (i * 7 + 1) (by omega)]
  · rw [Nat.add_assoc, k3 (i * 7 + 2) (by omega)]
  · rw [Nat.add_assoc, k3 (i * 7 + 3) (by omega), a3]
  · rw [Nat.add_assoc, k3 (i * 7 + 4) (by omega), a4]
  · rw [Nat.add_assoc, k3 (i * 7 + 5) (by omega), a5]
  · rw [Nat.add_assoc, k3 (i * 7 + 6) (by omega)]
end
end Go.Proofs.YtmmokjnljaifcaaGreatDoor

/- The old calendar, plain: numbers of dates, dates of numbers. -/
namespace Go.Proofs.YtmmokjnljaifcaaGreatDoor
set_option linter.unusedVariables false
set_option linter.unusedSimpArgs false

def lenO (y mo : Int) : Int := if mo = 2 then (if y.tmod 4 = 0 then 29 else 28) else if mo = 4 ∨ mo = 6 ∨ mo = 9 ∨ mo = 11 then 30 else 31
def OldOk (y mo d : Int) : Prop := (1 ≤ y ∧ y ≤ 2000) ∧ (1 ≤ mo ∧ mo ≤ 12) ∧ 1 ≤ d ∧ d ≤ lenO y mo
theorem lenO_4 (mo : Int) : lenO 4 mo = MdLen mo := by
  unfold lenO MdLen
  rw [if_pos (show (4 : Int).tmod 4 = 0 by decide)]
theorem old4 (mo d : Int) : OldOk 4 mo d ↔ MdOk mo d := by
  unfold OldOk MdOk
  rw [lenO_4]
  exact ⟨fun h => h.2, fun h => ⟨by omega, h⟩⟩
theorem lenO_2y {y : Int} (h : y.tmod 4 = 0) : lenO y 2 = 29 := by unfold lenO; rw [if_pos rfl, if_pos h]
theorem lenO_2n {y : Int} (h : ¬ y.tmod 4 = 0) : lenO y 2 = 28 := by unfold lenO; rw [if_pos rfl, if_neg h]
theorem lenO_30 {y mo : Int} (h : mo = 4 ∨ mo = 6 ∨ mo = 9 ∨ mo = 11) : lenO y mo = 30 := by unfold lenO; rw [if_neg (by omega), if_pos h]
theorem lenO_31 {y mo : Int} (h2 : mo ≠ 2) (h : ¬ (mo = 4 ∨ mo = 6 ∨ mo = 9 ∨ mo = 11)) : lenO y mo = 31 := by unfold lenO; rw [if_neg h2, if_neg h]
/-! ### the date of a number -/
end Go.Proofs.YtmmokjnljaifcaaGreatDoor
