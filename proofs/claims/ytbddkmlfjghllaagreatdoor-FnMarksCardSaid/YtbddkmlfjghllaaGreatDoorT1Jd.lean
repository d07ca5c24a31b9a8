/- Texts merged (a claim holds at most sixty files): Jd, Jm, Jw. -/
import Derived.Test.YtbddkmlfjghllaaGreatDoorT1Lib
import Derived.Test.YtbddkmlfjghllaaGreatDoorT1Ja
import Derived.Test.YtbddkmlfjghllaaGreatDoorT1Jf
/- Plain: structs of strings and numbers in rows; strings in rows. No program in sight. (Printed by genK.py.) -/
namespace Go.Proofs.YtbddkmlfjghllaaGreatDoor
set_option linter.unusedVariables false
set_option linter.unusedSimpArgs false
open Go.RowKit

structure Nsp where
  nm : ByteArray
  fr : Int
  to : Int
def nspAt (l : List Nsp) (i : Nat) : Nsp := l.getD i ⟨⟨#[]⟩, 0, 0⟩
def nspCell (l : List Nsp) (i : Nat) : Value := if i % 3 = 0 then .string (nspAt l (i / 3)).nm else if i % 3 = 1 then .int .i64 (nspAt l (i / 3)).fr else .int .i64 (nspAt l (i / 3)).to
theorem nspCell_0 (l : List Nsp) (j : Nat) : nspCell l (j * 3) = .string (nspAt l j).nm := by
  unfold nspCell
  rw [if_pos (by omega), show (j * 3) / 3 = j from by omega]
theorem nspCell_1 (l : List Nsp) (j : Nat) : nspCell l (j * 3 + 1) = .int .i64 (nspAt l j).fr := by
  unfold nspCell
  rw [if_neg (by omega), if_pos (by omega), show (j * 3 + 1) / 3 = j from by omega]
theorem nspCell_2 (l : List Nsp) (j : Nat) : nspCell l (j * 3 + 2) = .int .i64 (nspAt l j).to := by
  unfold nspCell
  rw [if_neg (by omega), if_neg (by omega), show (j * 3 + 2) / 3 = j from by omega]
def Nsps (w : World) (lo hi : Nat) (v : Value) (l : List Nsp) : Prop := Row w lo hi 3 v l.length (nspCell l)
section
variable {w w' : World} {lo hi lo' hi' : Nat} {v : Value}
theorem Nsps.ext {l : List Nsp} (h : Nsps w lo hi v l) (hx : Ext w w') (hh : hi ≤ w.heap.size) : Nsps w' lo hi v l := Row.ext h hx hh
theorem Nsps.mono {l : List Nsp} (h : Nsps w lo hi v l) (h1 : lo' ≤ lo) (h2 : hi ≤ hi') : Nsps w lo' hi' v l := Row.mono h h1 h2
theorem Nsps.up {l : List Nsp} (h : Nsps w 0 w.heap.size v l) (hx : Ext w w') : Nsps w' 0 w'.heap.size v l := (h.ext hx (Nat.le_refl _)).mono (Nat.le_refl _) hx.size
theorem Nsps.upAt {l : List Nsp} (h : Nsps w lo hi v l) (hh : hi ≤ w.heap.size) (hx : Ext w w') : Nsps w' 0 w'.heap.size v l := Nsps.up (h.mono (Nat.zero_le _) hh) hx
theorem Nsps.len {l : List Nsp} (h : Nsps w lo hi v l) : ∃ A c, v = .slice A l.length c ∧ l.length ≤ 9223372036854775807 ∧ l.length ≤ c := by
  obtain ⟨hn, A, c, e, hc, _⟩ := h
  exact ⟨A, c, e, by unfold maxLen at hn; omega, hc⟩
theorem Nsps.at_ {A : Option Addr} {c : Nat} {l : List Nsp} {m i : Nat} (h : Nsps w lo hi (.slice A m c) l) (hi' : i < l.length) :
    ∃ b off, A = some ⟨b, off, none⟩ ∧ lo ≤ b ∧ b < hi ∧ w.cell? ⟨b, off + i * 3, none⟩ = some (.string (nspAt l i).nm) ∧ w.cell? ⟨b, off + i * 3 + 1, none⟩ = some (.int .i64 (nspAt l i).fr) ∧ w.cell? ⟨b, off + i * 3 + 2, none⟩ = some (.int .i64 (nspAt l i).to) := by
  obtain ⟨hn, A', c', e, hc, hr⟩ := h
  injection e with e1 e2 e3
  obtain ⟨b, off, hA, h1, h2, h3⟩ := hr (by omega)
  refine ⟨b, off, by rw [e1, hA], h1, h2, ?_, ?_, ?_⟩
  · rw [h3 (i * 3) (by omega)]; exact congrArg some (nspCell_0 l i)
  · rw [Nat.add_assoc, h3 (i * 3 + 1) (by omega)]; exact congrArg some (nspCell_1 l i)
  · rw [Nat.add_assoc, h3 (i * 3 + 2) (by omega)]; exact congrArg some (nspCell_2 l i)
end

structure Trm where
  of : ByteArray
  pe : ByteArray
  fr : Int
  to : Int
def trmAt (l : List Trm) (i : Nat) : Trm := l.getD i ⟨⟨#[]⟩, ⟨#[]⟩, 0, 0⟩
def trmCell (l : List Trm) (i : Nat) : Value := if i % 4 = 0 then .string (trmAt l (i / 4)).of else if i % 4 = 1 then .string (trmAt l (i / 4)).pe else if i % 4 = 2 then .int .i64 (trmAt l (i / 4)).fr else .int .i64 (trmAt l (i / 4)).to
theorem trmCell_0 (l : List Trm) (j : Nat) : trmCell l (j * 4) = .string (trmAt l j).of := by
  unfold trmCell
  rw [if_pos (by omega), show (j * 4) / 4 = j from by omega]
theorem trmCell_1 (l : List Trm) (j : Nat) : trmCell l (j * 4 + 1) = .string (trmAt l j).pe := by
  unfold trmCell
  rw [if_neg (by omega), if_pos (by omega), show (j * 4 + 1) / 4 = j from by omega]
theorem trmCell_2 (l : List Trm) (j : Nat) : trmCell l (j * 4 + 2) = .int .i64 (trmAt l j).fr := by
  unfold trmCell
  rw [if_neg (by omega), if_neg (by omega), if_pos (by omega), show (j * 4 + 2) / 4 = j from by omega]
theorem trmCell_3 (l : List Trm) (j : Nat) : trmCell l (j * 4 + 3) = .int .i64 (trmAt l j).to := by
  unfold trmCell
  rw [if_neg (by omega), if_neg (by omega), if_neg (by omega), show (j * 4 + 3) / 4 = j from by omega]
def Trms (w : World) (lo hi : Nat) (v : Value) (l : List Trm) : Prop := Row w lo hi 4 v l.length (trmCell l)
section
variable {w w' : World} {lo hi lo' hi' : Nat} {v : Value}
theorem Trms.ext {l : List Trm} (h : Trms w lo hi v l) (hx : Ext w w') (hh : hi ≤ w.heap.size) : Trms w' lo hi v l := Row.ext h hx hh
theorem Trms.mono {l : List Trm} (h : Trms w lo hi v l) (h1 : lo' ≤ lo) (h2 : hi ≤ hi') : Trms w lo' hi' v l := Row.mono h h1 h2
theorem Trms.up {l : List Trm} (h : Trms w 0 w.heap.size v l) (hx : Ext w w') : Trms w' 0 w'.heap.size v l := (h.ext hx (Nat.le_refl _)).mono (Nat.le_refl _) hx.size
theorem Trms.upAt {l : List Trm} (h : Trms w lo hi v l) (hh : hi ≤ w.heap.size) (hx : Ext w w') : Trms w' 0 w'.heap.size v l := Trms.up (h.mono (Nat.zero_le _) hh) hx
theorem Trms.len {l : List Trm} (h : Trms w lo hi v l) : ∃ A c, v = .slice A l.length c ∧ l.length ≤ 9223372036854775807 ∧ l.length ≤ c := by
  obtain ⟨hn, A, c, e, hc, _⟩ := h
  exact ⟨A, c, e, by unfold maxLen at hn; omega, hc⟩
theorem Trms.at_ {A : Option Addr} {c : Nat} {l : List Trm} {m i : Nat} (h : Trms w lo hi (.slice A m c) l) (hi' : i < l.length) :
    ∃ b off, A = some ⟨b, off, none⟩ ∧ lo ≤ b ∧ b < hi ∧ w.cell? ⟨b, off + i * 4, none⟩ = some (.string (trmAt l i).of) ∧ w.cell? ⟨b, off + i * 4 + 1, none⟩ = some (.string (trmAt l i).pe) ∧ w.cell? ⟨b, off + i * 4 + 2, none⟩ = some (.int .i64 (trmAt l i).fr) ∧ w.cell? ⟨b, off + i * 4 + 3, none⟩ = some (.int .i64 (trmAt l i).to) := by
  obtain ⟨hn, A', c', e, hc, hr⟩ := h
  injection e with e1 e2 e3
  obtain ⟨b, off, hA, h1, h2, h3⟩ := hr (by omega)
  refine ⟨b, off, by rw [e1, hA], h1, h2, ?_, ?_, ?_, ?_⟩
  · rw [h3 (i * 4) (by omega)]; exact congrArg some (trmCell_0 l i)
  · rw [Nat.add_assoc, h3 (i * 4 + 1) (by omega)]; exact congrArg some (trmCell_1 l i)
  · rw [Nat.add_assoc, h3 (i * 4 + 2) (by omega)]; exact congrArg some (trmCell_2 l i)
  · rw [Nat.add_assoc, h3 (i * 4 + 3) (by omega)]; exact congrArg some (trmCell_3 l i)
end

def wyCell (l : List Wy) (i : Nat) : Value := if i % 3 = 0 then .int .i64 (wyAt l (i / 3)).a else if i % 3 = 1 then .int .i64 (wyAt l (i / 3)).b else .int .i64 (wyAt l (i / 3)).d
theorem wyCell_0 (l : List Wy) (j : Nat) : wyCell l (j * 3) = .int .i64 (wyAt l j).a := by
  unfold wyCell
  rw [if_pos (by omega), show (j * 3) / 3 = j from by omega]
theorem wyCell_1 (l : List Wy) (j : Nat) : wyCell l (j * 3 + 1) = .int .i64 (wyAt l j).b := by
  unfold wyCell
  rw [if_neg (by omega), if_pos (by omega), show (j * 3 + 1) / 3 = j from by omega]
theorem wyCell_2 (l : List Wy) (j : Nat) : wyCell l (j * 3 + 2) = .int .i64 (wyAt l j).d := by
  unfold wyCell
  rw [if_neg (by omega), if_neg (by omega), show (j * 3 + 2) / 3 = j from by omega]
def Wys (w : World) (lo hi : Nat) (v : Value) (l : List Wy) : Prop := Row w lo hi 3 v l.length (wyCell l)
section
variable {w w' : World} {lo hi lo' hi' : Nat} {v : Value}
theorem Wys.ext {l : List Wy} (h : Wys w lo hi v l) (hx : Ext w w') (hh : hi ≤ w.heap.size) : Wys w' lo hi v l := Row.ext h hx hh
theorem Wys.mono {l : List Wy} (h : Wys w lo hi v l) (h1 : lo' ≤ lo) (h2 : hi ≤ hi') : Wys w lo' hi' v l := Row.mono h h1 h2
theorem Wys.up {l : List Wy} (h : Wys w 0 w.heap.size v l) (hx : Ext w w') : Wys w' 0 w'.heap.size v l := (h.ext hx (Nat.le_refl _)).mono (Nat.le_refl _) hx.size
theorem Wys.upAt {l : List Wy} (h : Wys w lo hi v l) (hh : hi ≤ w.heap.size) (hx : Ext w w') : Wys w' 0 w'.heap.size v l := Wys.up (h.mono (Nat.zero_le _) hh) hx
theorem Wys.len {l : List Wy} (h : Wys w lo hi v l) : ∃ A c, v = .slice A l.length c ∧ l.length ≤ 9223372036854775807 ∧ l.length ≤ c := by
  obtain ⟨hn, A, c, e, hc, _⟩ := h
  exact ⟨A, c, e, by unfold maxLen at hn; omega, hc⟩
theorem Wys.at_ {A : Option Addr} {c : Nat} {l : List Wy} {m i : Nat} (h : Wys w lo hi (.slice A m c) l) (hi' : i < l.length) :
    ∃ b off, A = some ⟨b, off, none⟩ ∧ lo ≤ b ∧ b < hi ∧ w.cell? ⟨b, off + i * 3, none⟩ = some (.int .i64 (wyAt l i).a) ∧ w.cell? ⟨b, off + i * 3 + 1, none⟩ = some (.int .i64 (wyAt l i).b) ∧ w.cell? ⟨b, off + i * 3 + 2, none⟩ = some (.int .i64 (wyAt l i).d) := by
  obtain ⟨hn, A', c', e, hc, hr⟩ := h
  injection e with e1 e2 e3
  obtain ⟨b, off, hA, h1, h2, h3⟩ := hr (by omega)
  refine ⟨b, off, by rw [e1, hA], h1, h2, ?_, ?_, ?_⟩
  · rw [h3 (i * 3) (by omega)]; exact congrArg some (wyCell_0 l i)
  · rw [Nat.add_assoc, h3 (i * 3 + 1) (by omega)]; exact congrArg some (wyCell_1 l i)
  · rw [Nat.add_assoc, h3 (i * 3 + 2) (by omega)]; exact congrArg some (wyCell_2 l i)
end

structure Cls where
  ki : Int
  nu : Int
  mo : Int
  fe : Int
  re : Int
  wd : Int
  st : Int
  kg : ByteArray
def clsAt (l : List Cls) (i : Nat) : Cls := l.getD i ⟨0, 0, 0, 0, 0, 0, 0, ⟨#[]⟩⟩
def clsCell (l : List Cls) (i : Nat) : Value := if i % 8 = 0 then .int .i64 (clsAt l (i / 8)).ki else if i % 8 = 1 then .int .i64 (clsAt l (i / 8)).nu else if i % 8 = 2 then .int .i64 (clsAt l (i / 8)).mo else if i % 8 = 3 then .int .i64 (clsAt l (i / 8)).fe else if i % 8 = 4 then .int .i64 (clsAt l (i / 8)).re else if i % 8 = 5 then .int .i64 (clsAt l (i / 8)).wd else if i % 8 = 6 then .int .i64 (clsAt l (i / 8)).st else .string (clsAt l (i / 8)).kg
theorem clsCell_0 (l : List Cls) (j : Nat) : clsCell l (j * 8) = .int .i64 (clsAt l j).ki := by
  unfold clsCell
  rw [if_pos (by omega), show (j * 8) / 8 = j from by omega]
theorem clsCell_1 (l : List Cls) (j : Nat) : clsCell l (j * 8 + 1) = .int .i64 (clsAt l j).nu := by
  unfold clsCell
  rw [if_neg (by omega), if_pos (by omega), show (j * 8 + 1) / 8 = j from by omega]
theorem clsCell_2 (l : List Cls) (j : Nat) : clsCell l (j * 8 + 2) = .int .i64 (clsAt l j).mo := by
  unfold clsCell
  rw [if_neg (by omega), if_neg (by omega), if_pos (by omega), show (j * 8 + 2) / 8 = j from by omega]
theorem clsCell_3 (l : List Cls) (j : Nat) : clsCell l (j * 8 + 3) = .int .i64 (clsAt l j).fe := by
  unfold clsCell
  rw [if_neg (by omega), if_neg (by omega), if_neg (by omega), if_pos (by omega), show (j * 8 + 3) / 8 = j from by omega]
theorem clsCell_4 (l : List Cls) (j : Nat) : clsCell l (j * 8 + 4) = .int .i64 (clsAt l j).re := by
  unfold clsCell
  rw [if_neg (by omega), if_neg (by omega), if_neg (by omega), if_neg (by omega), if_pos (by omega), show (j * 8 + 4) / 8 = j from by omega]
theorem clsCell_5 (l : List Cls) (j : Nat) : clsCell l (j * 8 + 5) = .int .i64 (clsAt l j).wd := by
  unfold clsCell
  rw [if_neg (by omega), if_neg (by omega), if_neg (by omega), if_neg (by omega), if_neg (by omega), if_pos (by omega), show (j * 8 + 5) / 8 = j from by omega]
theorem clsCell_6 (l : List Cls) (j : Nat) : clsCell l (j * 8 + 6) = .int .i64 (clsAt l j).st := by
  unfold clsCell
  rw [if_neg (by omega), if_neg (by omega), if_neg (by omega), if_neg (by omega), if_neg (by omega), if_neg (by omega), if_pos (by omega), show (j * 8 + 6) / 8 = j from by omega]
theorem clsCell_7 (l : List Cls) (j : Nat) : clsCell l (j * 8 + 7) = .string (clsAt l j).kg := by
  unfold clsCell
  rw [if_neg (by omega), if_neg (by omega), if_neg (by omega), if_neg (by omega), if_neg (by omega), if_neg (by omega), if_neg (by omega), show (j * 8 + 7) / 8 = j from by omega]
def Clss (w : World) (lo hi : Nat) (v : Value) (l : List Cls) : Prop := Row w lo hi 8 v l.length (clsCell l)
section
variable {w w' : World} {lo hi lo' hi' : Nat} {v : Value}
theorem Clss.ext {l : List Cls} (h : Clss w lo hi v l) (hx : Ext w w') (hh : hi ≤ w.heap.size) : Clss w' lo hi v l := Row.ext h hx hh
theorem Clss.mono {l : List Cls} (h : Clss w lo hi v l) (h1 : lo' ≤ lo) (h2 : hi ≤ hi') : Clss w lo' hi' v l := Row.mono h h1 h2
theorem Clss.up {l : List Cls} (h : Clss w 0 w.heap.size v l) (hx : Ext w w') : Clss w' 0 w'.heap.size v l := (h.ext hx (Nat.le_refl _)).mono (Nat.le_refl _) hx.size
theorem Clss.upAt {l : List Cls} (h : Clss w lo hi v l) (hh : hi ≤ w.heap.size) (hx : Ext w w') : Clss w' 0 w'.heap.size v l := Clss.up (h.mono (Nat.zero_le _) hh) hx
theorem Clss.len {l : List Cls} (h : Clss w lo hi v l) : ∃ A c, v = .slice A l.length c ∧ l.length ≤ 9223372036854775807 ∧ l.length ≤ c := by
  obtain ⟨hn, A, c, e, hc, _⟩ := h
  exact ⟨A, c, e, by unfold maxLen at hn; omega, hc⟩
theorem Clss.at_ {A : Option Addr} {c : Nat} {l : List Cls} {m i : Nat} (h : Clss w lo hi (.slice A m c) l) (hi' : i < l.length) :
    ∃ b off, A = some ⟨b, off, none⟩ ∧ lo ≤ b ∧ b < hi ∧ w.cell? ⟨b, off + i * 8, none⟩ = some (.int .i64 (clsAt l i).ki) ∧ w.cell? ⟨b, off + i * 8 + 1, none⟩ = some (.int .i64 (clsAt l i).nu) ∧ w.cell? ⟨b, off + i * 8 + 2, none⟩ = some (.int .i64 (clsAt l i).mo) ∧ w.cell? ⟨b, off + i * 8 + 3, none⟩ = some (.int .i64 (clsAt l i).fe) ∧ w.cell? ⟨b, off + i * 8 + 4, none⟩ = some (.int .i64 (clsAt l i).re) ∧ w.cell? ⟨b, off + i * 8 + 5, none⟩ = some (.int .i64 (clsAt l i).wd) ∧ w.cell? ⟨b, off + i * 8 + 6, none⟩ = some (.int .i64 (clsAt l i).st) ∧ w.cell? ⟨b, off + i * 8 + 7, none⟩ = some (.string (clsAt l i).kg) := by
  obtain ⟨hn, A', c', e, hc, hr⟩ := h
  injection e with e1 e2 e3
  obtain ⟨b, off, hA, h1, h2, h3⟩ := hr (by omega)
  refine ⟨b, off, by rw [e1, hA], h1, h2, ?_, ?_, ?_, ?_, ?_, ?_, ?_, ?_⟩
  · rw [h3 (i * 8) (by omega)]; exact congrArg some (clsCell_0 l i)
  · rw [Nat.add_assoc, h3 (i * 8 + 1) (by omega)]; exact congrArg some (clsCell_1 l i)
  · rw [Nat.add_assoc, h3 (i * 8 + 2) (by omega)]; exact congrArg some (clsCell_2 l i)
  · rw [Nat.add_assoc, h3 (i * 8 + 3) (by omega)]; exact congrArg some (clsCell_3 l i)
  · rw [Nat.add_assoc, h3 (i * 8 + 4) (by omega)]; exact congrArg some (clsCell_4 l i)
  · rw [Nat.add_assoc, h3 (i * 8 + 5) (by omega)]; exact congrArg some (clsCell_5 l i)
  · rw [Nat.add_assoc, h3 (i * 8 + 6) (by omega)]; exact congrArg some (clsCell_6 l i)
  · rw [Nat.add_assoc, h3 (i * 8 + 7) (by omega)]; exact congrArg some (clsCell_7 l i)
end

structure Wit where
  pe : ByteArray
  of : ByteArray
def witAt (l : List Wit) (i : Nat) : Wit := l.getD i ⟨⟨#[]⟩, ⟨#[]⟩⟩
def witCell (l : List Wit) (i : Nat) : Value := if i % 2 = 0 then .string (witAt l (i / 2)).pe else .string (witAt l (i / 2)).of
theorem witCell_0 (l : List Wit) (j : Nat) : witCell l (j * 2) = .string (witAt l j).pe := by
  unfold witCell
  rw [if_pos (by omega), show (j * 2) / 2 = j from by omega]
theorem witCell_1 (l : List Wit) (j : Nat) : witCell l (j * 2 + 1) = .string (witAt l j).of := by
  unfold witCell
  rw [if_neg (by omega), show (j * 2 + 1) / 2 = j from by omega]
def Wits (w : World) (lo hi : Nat) (v : Value) (l : List Wit) : Prop := Row w lo hi 2 v l.length (witCell l)
section
variable {w w' : World} {lo hi lo' hi' : Nat} {v : Value}
theorem Wits.ext {l : List Wit} (h : Wits w lo hi v l) (hx : Ext w w') (hh : hi ≤ w.heap.size) : Wits w' lo hi v l := Row.ext h hx hh
theorem Wits.mono {l : List Wit} (h : Wits w lo hi v l) (h1 : lo' ≤ lo) (h2 : hi ≤ hi') : Wits w lo' hi' v l := Row.mono h h1 h2
theorem Wits.up {l : List Wit} (h : Wits w 0 w.heap.size v l) (hx : Ext w w') : Wits w' 0 w'.heap.size v l := (h.ext hx (Nat.le_refl _)).mono (Nat.le_refl _) hx.size
theorem Wits.upAt {l : List Wit} (h : Wits w lo hi v l) (hh : hi ≤ w.heap.size) (hx : Ext w w') : Wits w' 0 w'.heap.size v l := Wits.up (h.mono (Nat.zero_le _) hh) hx
theorem Wits.len {l : List Wit} (h : Wits w lo hi v l) : ∃ A c, v = .slice A l.length c ∧ l.length ≤ 9223372036854775807 ∧ l.length ≤ c := by
  obtain ⟨hn, A, c, e, hc, _⟩ := h
  exact ⟨A, c, e, by unfold maxLen at hn; omega, hc⟩
theorem Wits.at_ {A : Option Addr} {c : Nat} {l : List Wit} {m i : Nat} (h : Wits w lo hi (.slice A m c) l) (hi' : i < l.length) :
    ∃ b off, A = some ⟨b, off, none⟩ ∧ lo ≤ b ∧ b < hi ∧ w.cell? ⟨b, off + i * 2, none⟩ = some (.string (witAt l i).pe) ∧ w.cell? ⟨b, off + i * 2 + 1, none⟩ = some (.string (witAt l i).of) := by
  obtain ⟨hn, A', c', e, hc, hr⟩ := h
  injection e with e1 e2 e3
  obtain ⟨b, off, hA, h1, h2, h3⟩ := hr (by omega)
  refine ⟨b, off, by rw [e1, hA], h1, h2, ?_, ?_⟩
  · rw [h3 (i * 2) (by omega)]; exact congrArg some (witCell_0 l i)
  · rw [Nat.add_assoc, h3 (i * 2 + 1) (by omega)]; exact congrArg some (witCell_1 l i)
end

/-! ### Strings -/
def strAt (l : List ByteArray) (i : Nat) : ByteArray := l.getD i ⟨#[]⟩
def strCell (l : List ByteArray) (i : Nat) : Value := .string (strAt l i)
def Strs (w : World) (lo hi : Nat) (v : Value) (l : List ByteArray) : Prop := Row w lo hi 1 v l.length (strCell l)
section
variable {w w' : World} {lo hi lo' hi' : Nat} {v : Value}
theorem Strs.ext {l : List ByteArray} (h : Strs w lo hi v l) (hx : Ext w w') (hh : hi ≤ w.heap.size) : Strs w' lo hi v l := Row.ext h hx hh
theorem Strs.mono {l : List ByteArray} (h : Strs w lo hi v l) (h1 : lo' ≤ lo) (h2 : hi ≤ hi') : Strs w lo' hi' v l := Row.mono h h1 h2
theorem Strs.up {l : List ByteArray} (h : Strs w 0 w.heap.size v l) (hx : Ext w w') : Strs w' 0 w'.heap.size v l := (h.ext hx (Nat.le_refl _)).mono (Nat.le_refl _) hx.size
theorem Strs.upAt {l : List ByteArray} (h : Strs w lo hi v l) (hh : hi ≤ w.heap.size) (hx : Ext w w') : Strs w' 0 w'.heap.size v l := Strs.up (h.mono (Nat.zero_le _) hh) hx
theorem Strs.len {l : List ByteArray} (h : Strs w lo hi v l) : ∃ A c, v = .slice A l.length c ∧ l.length ≤ 9223372036854775807 ∧ l.length ≤ c := by
  obtain ⟨hn, A, c, e, hc, _⟩ := h
  exact ⟨A, c, e, by unfold maxLen at hn; omega, hc⟩
theorem Strs.at_ {A : Option Addr} {c : Nat} {l : List ByteArray} {m i : Nat} (h : Strs w lo hi (.slice A m c) l) (hi' : i < l.length) :
    ∃ b off, A = some ⟨b, off, none⟩ ∧ lo ≤ b ∧ b < hi ∧ w.cell? ⟨b, off + i, none⟩ = some (.string (strAt l i)) := by
  obtain ⟨hn, A', c', e, hc, hr⟩ := h
  injection e with e1 e2 e3
  obtain ⟨b, off, hA, h1, h2, h3⟩ := hr (by omega)
  exact ⟨b, off, by rw [e1, hA], h1, h2, h3 i (by omega)⟩
end
end Go.Proofs.YtbddkmlfjghllaaGreatDoor

/- Plain: marks: their order, their days, what is recorded, in use, longest. -/
namespace Go.Proofs.YtbddkmlfjghllaaGreatDoor
set_option linter.unusedVariables false
set_option linter.unusedSimpArgs false

def MkLt (a b : Nsp) : Prop := sLt a.nm b.nm ∨ (a.nm = b.nm ∧ a.fr < b.fr)
theorem MkLt.irr (a : Nsp) : ¬ MkLt a a := by
  rintro (h | ⟨_, h⟩)
  · exact sLt_irr _ h
  · omega
theorem MkLt.trans {a b c : Nsp} (h : MkLt a b) (k : MkLt b c) : MkLt a c := by
  rcases h with h | ⟨e, h⟩
  · rcases k with k | ⟨e2, k⟩
    · exact .inl (sLt_trans h k)
    · exact .inl (e2 ▸ h)
  · rcases k with k | ⟨e2, k⟩
    · exact .inl (e ▸ k)
    · exact .inr ⟨e.trans e2, by omega⟩
theorem MkLt.asym {a b : Nsp} (h : MkLt a b) : ¬ MkLt b a := fun k => MkLt.irr a (h.trans k)
theorem MkLt.tri {a b : Nsp} (h : ¬ MkLt a b) (k : ¬ MkLt b a) : a.nm = b.nm ∧ a.fr = b.fr := by
  unfold MkLt at h k
  have e : a.nm = b.nm := sLt_tri (fun x => h (.inl x)) (fun x => k (.inl x))
  refine ⟨e, ?_⟩
  have h1 : ¬ a.fr < b.fr := fun x => h (.inr ⟨e, x⟩)
  have h2 : ¬ b.fr < a.fr := fun x => k (.inr ⟨e.symm, x⟩)
  omega
/-- the program's way to ask: the order of names, then of days -/
noncomputable def cmpS (a b : ByteArray) : Int := bif B (sLt a b) then -1 else bif B (sLt b a) then 1 else 0
def cmpI (a b : Int) : Int := if a < b then -1 else if b < a then 1 else 0
noncomputable def cmpM (a b : Nsp) : Int := if cmpS a.nm b.nm = 0 then cmpI a.fr b.fr else cmpS a.nm b.nm
theorem cmpS_lt {a b : ByteArray} (h : sLt a b) : cmpS a b = -1 := by unfold cmpS; rw [B_true h]; rfl
theorem cmpS_gt {a b : ByteArray} (h : sLt b a) : cmpS a b = 1 := by unfold cmpS; rw [B_false (sLt_asym h), B_true h]; rfl
theorem cmpS_eq (a : ByteArray) : cmpS a a = 0 := by unfold cmpS; rw [B_false (sLt_irr a)]; rfl
theorem cmpM_neg (a b : Nsp) : cmpM a b < 0 ↔ MkLt a b := by
  unfold cmpM MkLt
  by_cases h1 : sLt a.nm b.nm
  · rw [cmpS_lt h1]
    simp [h1]
  · by_cases h2 : sLt b.nm a.nm
    · rw [cmpS_gt h2]
      simp [h1]
      intro e
      exact absurd (e ▸ h2) (sLt_irr _)
    · have e := sLt_tri h1 h2
      rw [e, cmpS_eq, if_pos rfl]
      unfold cmpI
      constructor
      · intro h
        refine .inr ⟨rfl, ?_⟩
        by_cases c : a.fr < b.fr
        · exact c
        · rw [if_neg c] at h; split at h <;> omega
      · rintro (h | ⟨_, h⟩)
        · exact absurd h (sLt_irr _)
        · rw [if_pos h]; omega
def NspOk (a : Nsp) : Prop := NameOk a.nm 12 ∧ DayOk a.fr ∧ DayOk a.to ∧ a.fr ≤ a.to
def MkStep (l : List Nsp) (i : Nat) : Prop := NspOk (nspAt l i) ∧ (0 < i → MkLt (nspAt l (i - 1)) (nspAt l i))
def MksOk (l : List Nsp) : Prop := l.length ≤ 40 ∧ ∀ i, i < l.length → MkStep l i
theorem mks_step {l : List Nsp} {j : Nat} (h : ∀ i, i < j → MkStep l i) (h' : MkStep l j) : ∀ i, i < j + 1 → MkStep l i := by
  intro i hi
  by_cases e : i = j
  · subst e; exact h'
  · exact h i (by omega)
theorem mks_lt {l : List Nsp} (h : ∀ i, i < l.length → MkStep l i) : ∀ k i, i < k → k < l.length → MkLt (nspAt l i) (nspAt l k)
  | 0, i, hi, _ => absurd hi (by omega)
  | k + 1, i, hi, hk => by
    have h1 := (h (k + 1) hk).2 (by omega)
    rw [Nat.add_sub_cancel] at h1
    by_cases e : i = k
    · subst e; exact h1
    · exact (mks_lt h k i (by omega) (by omega)).trans h1

/-! ### The days of a mark -/
def mdTo (l : List Nsp) (name : ByteArray) : Nat → List Sp
  | 0 => []
  | k + 1 => if (nspAt l k).nm = name then mdTo l name k ++ [⟨(nspAt l k).fr, (nspAt l k).to⟩] else mdTo l name k
theorem mdTo_yes {l : List Nsp} {name : ByteArray} {k : Nat} (h : (nspAt l k).nm = name) : mdTo l name (k + 1) = mdTo l name k ++ [⟨(nspAt l k).fr, (nspAt l k).to⟩] := if_pos h
theorem mdTo_no {l : List Nsp} {name : ByteArray} {k : Nat} (h : ¬ (nspAt l k).nm = name) : mdTo l name (k + 1) = mdTo l name k := if_neg h
theorem mdTo_len (l : List Nsp) (name : ByteArray) : ∀ k, (mdTo l name k).length ≤ k
  | 0 => Nat.le_refl _
  | k + 1 => by
    have := mdTo_len l name k
    unfold mdTo
    split
    · simp; omega
    · omega
theorem mdTo_all {l : List Nsp} {name : ByteArray} {P : Sp → Prop} : ∀ k, (∀ i, i < k → (nspAt l i).nm = name → P ⟨(nspAt l i).fr, (nspAt l i).to⟩) → ∀ i, i < (mdTo l name k).length → P (spAt (mdTo l name k) i)
  | 0, _, i, hi => absurd hi (by simp [mdTo])
  | k + 1, h, i, hi => by
    by_cases e : (nspAt l k).nm = name
    · rw [mdTo_yes e] at hi ⊢
      rw [spAt_app (by simpa using hi)]
      split
      · exact h k (by omega) e
      · exact mdTo_all k (fun i hi => h i (by omega)) i (by simp at hi; omega)
    · rw [mdTo_no e] at hi ⊢
      exact mdTo_all k (fun i hi => h i (by omega)) i hi
def mdL (l : List Nsp) (name : ByteArray) : List Sp := mdTo l name l.length
theorem mdL_ok {l : List Nsp} (h : MksOk l) (name : ByteArray) : (mdL l name).length ≤ 40 ∧ (∀ i, i < (mdL l name).length → SpOk (spAt (mdL l name) i)) := by
  refine ⟨Nat.le_trans (mdTo_len _ _ _) h.1, mdTo_all _ (fun i hi _ => ?_)⟩
  obtain ⟨⟨_, h1, h2, h3⟩, _⟩ := h.2 i hi
  exact ⟨h1, h2, h3⟩
theorem mdL_days (l : List Nsp) (name : ByteArray) (d : Int) : HasDay (mdL l name) d ↔ ∃ i, i < l.length ∧ (nspAt l i).nm = name ∧ (nspAt l i).fr ≤ d ∧ d ≤ (nspAt l i).to := by
  have h : ∀ k, HasDay (mdTo l name k) d ↔ ∃ i, i < k ∧ (nspAt l i).nm = name ∧ (nspAt l i).fr ≤ d ∧ d ≤ (nspAt l i).to := by
    intro k
    induction k with
    | zero => exact ⟨fun ⟨i, hi, _⟩ => absurd hi (by simp [mdTo]), fun ⟨i, hi, _⟩ => absurd hi (by omega)⟩
    | succ k ih =>
      by_cases e : (nspAt l k).nm = name
      · rw [mdTo_yes e, hasDay_app, ih]
        constructor
        · rintro (⟨i, h1, h2⟩ | h1)
          · exact ⟨i, by omega, h2⟩
          · exact ⟨k, by omega, e, h1⟩
        · rintro ⟨i, h1, h2, h3⟩
          by_cases c : i = k
          · subst c; exact .inr h3
          · exact .inl ⟨i, by omega, h2, h3⟩
      · rw [mdTo_no e, ih]
        constructor
        · rintro ⟨i, h1, h2⟩
          exact ⟨i, by omega, h2⟩
        · rintro ⟨i, h1, h2, h3⟩
          exact ⟨i, by (by_cases c : i = k; (subst c; exact absurd h2 e); omega), h2, h3⟩
  exact h l.length
/-- what MarkDays returns -/
noncomputable def mkdE (l : List Nsp) (name : ByteArray) : Int := bif B (MksOk l) then (if (mkL (mdL l name)).length = 0 then 4 else 0) else 1
noncomputable def mkdL (l : List Nsp) (name : ByteArray) : List Sp := bif B (MksOk l) then mkL (mdL l name) else []
theorem mkd_no {l : List Nsp} {name : ByteArray} (h : ¬ MksOk l) : mkdE l name = 1 ∧ mkdL l name = [] := ⟨by unfold mkdE; rw [B_false h]; rfl, by unfold mkdL; rw [B_false h]; rfl⟩
theorem mkd_ok {l : List Nsp} {name : ByteArray} (h : MksOk l) : mkdE l name = (if (mkL (mdL l name)).length = 0 then 4 else 0) ∧ mkdL l name = mkL (mdL l name) := ⟨by unfold mkdE; rw [B_true h]; rfl, by unfold mkdL; rw [B_true h]; rfl⟩

/-! ### What is recorded -/
def nspSet (l : List Nsp) (i : Nat) (x : Nsp) : List Nsp := l.set i x
theorem nspAt_set {l : List Nsp} {x : Nsp} {j i : Nat} : nspAt (l.set j x) i = if i = j ∧ i < l.length then x else nspAt l i := by
  unfold nspAt
  rw [List.getD_eq_getElem?_getD, List.getD_eq_getElem?_getD, List.getElem?_set]
  by_cases e : j = i
  · subst e
    by_cases h : j < l.length
    · rw [if_pos rfl, if_pos h, if_pos ⟨rfl, h⟩]; rfl
    · rw [if_pos rfl, if_neg h, if_neg (by omega), List.getElem?_eq_none (by omega)]
  · rw [if_neg e, if_neg (by omega)]
theorem nspAt_app {l : List Nsp} {x : Nsp} {i : Nat} (hi : i < l.length + 1) : nspAt (l ++ [x]) i = if i = l.length then x else nspAt l i := by
  unfold nspAt
  rw [List.getD_eq_getElem?_getD, List.getD_eq_getElem?_getD]
  by_cases e : i = l.length
  · subst e; rw [if_pos rfl]; simp
  · rw [if_neg e, List.getElem?_append_left (by omega)]
theorem nsp_ext {a b : List Nsp} (hl : a.length = b.length) (h : ∀ i, i < a.length → nspAt a i = nspAt b i) : a = b := by
  refine List.ext_getElem hl (fun i h1 h2 => ?_)
  have := h i h1
  unfold nspAt at this
  rw [List.getD_eq_getElem?_getD, List.getD_eq_getElem?_getD, List.getElem?_eq_getElem h1, List.getElem?_eq_getElem h2] at this
  exact this
/-- the mark i is the one that the use belongs to -/
def Hit (l : List Nsp) (name : ByteArray) (n away : Int) (i : Nat) : Prop := (nspAt l i).nm = name ∧ (nspAt l i).fr - away ≤ n ∧ n ≤ (nspAt l i).to + away
def hitM (l : List Nsp) (n : Int) (i : Nat) : List Nsp := l.set i ⟨(nspAt l i).nm, min (nspAt l i).fr n, max (nspAt l i).to n⟩
/-- strictly in order -/
def Srt (l : List Nsp) : Prop := ∀ i k, i < k → k < l.length → MkLt (nspAt l i) (nspAt l k)
/-- the reference's way to put one in -/
def posM (l : List Nsp) (x : Nsp) : Nat → Prop := fun p => p ≤ l.length ∧ (∀ i, i < p → MkLt (nspAt l i) x) ∧ (p < l.length → ¬ MkLt (nspAt l p) x)
def insP (l : List Nsp) (x : Nsp) (p : Nat) : List Nsp := l.take p ++ x :: l.drop p
theorem insP_len {l : List Nsp} {x : Nsp} {p : Nat} (hp : p ≤ l.length) : (insP l x p).length = l.length + 1 := by simp [insP]; omega
theorem nspAt_ins {l : List Nsp} {x : Nsp} {p : Nat} (hp : p ≤ l.length) (i : Nat) : nspAt (insP l x p) i = if i < p then nspAt l i else if i = p then x else nspAt l (i - 1) := by
  unfold nspAt insP
  rw [List.getD_eq_getElem?_getD, List.getD_eq_getElem?_getD, List.getD_eq_getElem?_getD]
  have ht : (l.take p).length = p := by rw [List.length_take]; omega
  by_cases h : i < p
  · rw [if_pos h, List.getElem?_append_left (by omega), List.getElem?_take, if_pos h]
  · rw [if_neg h, List.getElem?_append_right (by omega), ht]
    by_cases h2 : i = p
    · rw [if_pos h2, h2, Nat.sub_self]; rfl
    · rw [if_neg h2]
      obtain ⟨q, hq⟩ : ∃ q, i = p + 1 + q := ⟨i - (p + 1), by omega⟩
      rw [hq, show p + 1 + q - p = q + 1 by omega, List.getElem?_cons_succ, List.getElem?_drop, show p + 1 + q - 1 = p + q by omega]
/-- nothing with this name and this first day lies in the list -/
def Fresh (l : List Nsp) (x : Nsp) : Prop := ∀ i, i < l.length → ¬ ((nspAt l i).nm = x.nm ∧ (nspAt l i).fr = x.fr)
theorem ins_srt {l : List Nsp} {x : Nsp} {p : Nat} (h : Srt l) (hf : Fresh l x) (hp : posM l x p) : Srt (insP l x p) := by
  obtain ⟨h1, h2, h3⟩ := hp
  intro i k hik hk
  rw [insP_len h1] at hk
  rw [nspAt_ins h1, nspAt_ins h1]
  have hx : p < l.length → MkLt x (nspAt l p) := fun hh => by
    refine Classical.byContradiction fun hn => ?_
    have := MkLt.tri (h3 hh) hn
    exact hf p hh this
  by_cases c1 : k < p
  · rw [if_pos c1, if_pos (by omega)]
    exact h i k hik (by omega)
  · rw [if_neg c1]
    by_cases c2 : k = p
    · rw [if_pos c2, if_pos (by omega)]
      exact h2 i (by omega)
    · rw [if_neg c2]
      have hpk : MkLt x (nspAt l (k - 1)) := by
        by_cases e : p = k - 1
        · rw [← e]; exact hx (by omega)
        · exact (hx (by omega)).trans (h _ _ (by omega) (by omega))
      by_cases c3 : i < p
      · rw [if_pos c3]; exact (h2 i c3).trans hpk
      · rw [if_neg c3]
        by_cases c4 : i = p
        · rw [if_pos c4]; exact hpk
        · rw [if_neg c4]; exact h (i - 1) (k - 1) (by omega) (by omega)
theorem ins_perm {l : List Nsp} {x : Nsp} {p : Nat} : (insP l x p).Perm (l ++ [x]) := by
  unfold insP
  have h1 : (l.take p ++ x :: l.drop p).Perm (x :: (l.take p ++ l.drop p)) := List.perm_middle
  rw [List.take_append_drop] at h1
  exact h1.trans (List.perm_append_comm (l₁ := [x]) (l₂ := l))
theorem mem_nsp {l : List Nsp} {x : Nsp} : x ∈ l ↔ ∃ i, i < l.length ∧ nspAt l i = x := by
  rw [List.mem_iff_getElem]
  constructor
  · rintro ⟨i, hi, rfl⟩
    exact ⟨i, hi, by unfold nspAt; rw [List.getD_eq_getElem?_getD, List.getElem?_eq_getElem hi]; rfl⟩
  · rintro ⟨i, hi, rfl⟩
    exact ⟨i, hi, by unfold nspAt; rw [List.getD_eq_getElem?_getD, List.getElem?_eq_getElem hi]; rfl⟩
/-- one order alone -/
theorem srt_unique : ∀ {a b : List Nsp}, a.Perm b → Srt a → Srt b → a = b
  | [], b, h, _, _ => (List.nil_perm.1 h).symm
  | x :: a, [], h, _, _ => absurd h.length_eq (by simp)
  | x :: a, y :: b, h, ha, hb => by
    have hxy : x = y := by
      have h1 : x ∈ y :: b := h.subset (by simp)
      have h2 : y ∈ x :: a := h.symm.subset (by simp)
      obtain ⟨i, hi, e1⟩ := mem_nsp.1 h1
      obtain ⟨j, hj, e2⟩ := mem_nsp.1 h2
      match i, j, hi, hj, e1, e2 with
      | 0, _, _, _, e1, _ => exact e1.symm
      | _, 0, _, _, _, e2 => exact e2
      | i + 1, j + 1, hi, hj, e1, e2 =>
        have k1 := hb 0 (i + 1) (by omega) hi
        have k2 := ha 0 (j + 1) (by omega) hj
        rw [e1] at k1
        rw [e2] at k2
        exact absurd k2 (MkLt.asym k1)
    subst hxy
    congr 1
    exact srt_unique (List.Perm.cons_inv h) (fun i k hik hk => ha (i + 1) (k + 1) (by omega) (by simpa using hk)) (fun i k hik hk => hb (i + 1) (k + 1) (by omega) (by simpa using hk))
/-- sorted by 'not greater' and no two of one key: strictly sorted -/
theorem srt_of_le {a b : List Nsp} (h : a.Perm b) (hb : ∃ c, c.Perm b ∧ Srt c) (ha : ∀ i k, i < k → k < a.length → ¬ MkLt (nspAt a k) (nspAt a i)) : Srt a := by
  obtain ⟨c, hc, hs⟩ := hb
  have hac := h.trans hc.symm
  have hk : a.Pairwise (fun x y => ¬ (x.nm = y.nm ∧ x.fr = y.fr)) := by
    refine (hac.symm.pairwise_iff (fun {x y} hh k => hh ⟨k.1.symm, k.2.symm⟩)).1 ?_
    rw [List.pairwise_iff_getElem]
    intro i j hi hj hij
    have := hs i j hij hj
    unfold nspAt at this
    rw [List.getD_eq_getElem?_getD, List.getD_eq_getElem?_getD, List.getElem?_eq_getElem hi, List.getElem?_eq_getElem hj] at this
    intro k
    rcases this with t | ⟨_, t⟩
    · have k1 : c[i].nm = c[j].nm := k.1
      exact sLt_ne t k1
    · have k1 : c[i].fr = c[j].fr := k.2
      have t1 : c[i].fr < c[j].fr := t
      omega
  rw [List.pairwise_iff_getElem] at hk
  intro i k hik hkl
  refine Classical.byContradiction fun hn => ?_
  have e := MkLt.tri hn (ha i k hik hkl)
  have := hk i k (by omega) hkl hik
  apply this
  unfold nspAt at e
  rw [List.getD_eq_getElem?_getD, List.getD_eq_getElem?_getD, List.getElem?_eq_getElem (show i < a.length by omega), List.getElem?_eq_getElem hkl] at e
  exact e
theorem srt_app {l : List Nsp} {x : Nsp} (h : Srt l) (hx : ∀ i, i < l.length → MkLt (nspAt l i) x) : Srt (l ++ [x]) := by
  intro i k hik hk
  have hk' : k < l.length + 1 := by simpa using hk
  rw [nspAt_app (by omega), nspAt_app hk', if_neg (show ¬ i = l.length by omega)]
  split
  · exact hx i (by omega)
  · exact h i k hik (by omega)
theorem posM_end {l : List Nsp} {x : Nsp} (hx : ∀ i, i < l.length → MkLt (nspAt l i) x) {p : Nat} (hp : posM l x p) : p = l.length := by
  obtain ⟨h1, h2, h3⟩ := hp
  rcases Nat.lt_or_ge p l.length with h | h
  · exact absurd (hx p h) (h3 h)
  · omega
theorem insP_end (l : List Nsp) (x : Nsp) : insP l x l.length = l ++ [x] := by simp [insP]
/-- what the use belongs to, widened, is in order still -/
theorem hit_srt {l : List Nsp} {name : ByteArray} {n away : Int} {i : Nat} (h : MksOk l) (ha : 0 ≤ away) (hi : i < l.length) (hh : Hit l name n away i) (hno : ∀ k, k < i → ¬ Hit l name n away k) : Srt (hitM l n i) := by
  have hs := mks_lt h.2
  intro a b hab hb
  have hbl : b < l.length := by simpa [hitM] using hb
  unfold hitM
  rw [nspAt_set, nspAt_set]
  have h0 := hs b a hab hbl
  by_cases ea : a = i
  · subst ea
    rw [if_pos ⟨rfl, hi⟩, if_neg (by omega)]
    rcases h0 with h0 | ⟨e, h0⟩
    · exact .inl h0
    · exact .inr ⟨e, by show min _ _ < _; omega⟩
  · rw [if_neg (by omega)]
    by_cases eb : b = i
    · subst eb
      rw [if_pos ⟨rfl, hi⟩]
      rcases h0 with h0 | ⟨e, h0⟩
      · exact .inl h0
      · refine .inr ⟨e, ?_⟩
        show _ < min _ _
        have hn := hno a hab
        unfold Hit at hn hh
        obtain ⟨k1, k2, k3⟩ := hh
        have ea' : (nspAt l a).nm = name := e.trans k1
        obtain ⟨⟨_, _, _, ok⟩, _⟩ := h.2 a (by omega)
        have : ¬ ((nspAt l a).fr - away ≤ n ∧ n ≤ (nspAt l a).to + away) := fun t => hn ⟨ea', t⟩
        omega
    · rw [if_neg (by omega)]
      exact h0
/-- a use that belongs to no mark: no key is met twice -/
theorem miss_fresh {l : List Nsp} {name : ByteArray} {n away : Int} (h : MksOk l) (ha : 0 ≤ away) (hno : ∀ k, k < l.length → ¬ Hit l name n away k) : Fresh l ⟨name, n, n⟩ := by
  intro i hi ⟨e1, e2⟩
  obtain ⟨⟨_, _, _, ok⟩, _⟩ := h.2 i hi
  exact hno i hi ⟨e1, by have e2' : (nspAt l i).fr = n := e2; omega, by have e2' : (nspAt l i).fr = n := e2; omega⟩
theorem srt_mks {l : List Nsp} (h : Srt l) (hn : ∀ i, i < l.length → NspOk (nspAt l i)) : ∀ i, i < l.length → MkStep l i :=
  fun i hi => ⟨hn i hi, fun h0 => h (i - 1) i (by omega) hi⟩
end Go.Proofs.YtbddkmlfjghllaaGreatDoor

/- Plain: what is told of people, lands, itineraries, chanceries, worlds. -/
namespace Go.Proofs.YtbddkmlfjghllaaGreatDoor
set_option linter.unusedVariables false
set_option linter.unusedSimpArgs false

/-- the first index below k of which p holds, or -1 -/
noncomputable def fstIx (p : Nat → Prop) : Nat → Int
  | 0 => -1
  | k + 1 => if fstIx p k = -1 then (bif B (p k) then (k : Int) else -1) else fstIx p k
theorem fstIx_none {p : Nat → Prop} : ∀ k, (∀ i, i < k → ¬ p i) → fstIx p k = -1
  | 0, _ => rfl
  | k + 1, h => by
    rw [fstIx, fstIx_none k (fun i hi => h i (by omega)), if_pos rfl, B_false (h k (by omega))]
    rfl
theorem fstIx_at {p : Nat → Prop} : ∀ k j, j < k → p j → (∀ i, i < j → ¬ p i) → fstIx p k = j
  | 0, j, h, _, _ => absurd h (by omega)
  | k + 1, j, hj, h1, h2 => by
    by_cases e : j = k
    · subst e
      rw [fstIx, fstIx_none j h2, if_pos rfl, B_true h1]
      rfl
    · rw [fstIx, fstIx_at k j (by omega) h1 h2, if_neg (by omega)]
theorem fstIx_cases (p : Nat → Prop) : ∀ k, (fstIx p k = -1 ∧ ∀ i, i < k → ¬ p i) ∨ ∃ j, j < k ∧ fstIx p k = (j : Int) ∧ p j ∧ ∀ i, i < j → ¬ p i
  | 0 => .inl ⟨rfl, fun i hi => absurd hi (by omega)⟩
  | k + 1 => by
    rcases fstIx_cases p k with ⟨h1, h2⟩ | ⟨j, h1, h2, h3, h4⟩
    · by_cases h : p k
      · exact .inr ⟨k, by omega, fstIx_at (k + 1) k (by omega) h h2, h, h2⟩
      · have hn : ∀ i, i < k + 1 → ¬ p i := fun i hi => by
          by_cases e : i = k
          · subst e; exact h
          · exact h2 i (by omega)
        exact .inl ⟨fstIx_none (k + 1) hn, hn⟩
    · exact .inr ⟨j, by omega, fstIx_at (k + 1) j (by omega) h3 h4, h3, h4⟩
theorem fstIx_congr {p q : Nat → Prop} : ∀ k, (∀ i, i < k → (p i ↔ q i)) → fstIx p k = fstIx q k
  | 0, _ => rfl
  | k + 1, h => by
    rw [fstIx, fstIx, fstIx_congr k (fun i hi => h i (by omega)), B_congr (h k (by omega))]
theorem fstIx_ge (p : Nat → Prop) (k : Nat) : -1 ≤ fstIx p k ∧ fstIx p k < k ∨ fstIx p k = -1 := by
  rcases fstIx_cases p k with ⟨h, _⟩ | ⟨j, h1, h2, _⟩
  · exact .inr h
  · exact .inl (by omega)

/-! ### Chanceries -/
structure Chan where
  rg : List Nsp
  fr : Int
  to : Int
def RgStep (l : List Nsp) (i : Nat) : Prop := NspOk (nspAt l i) ∧ (0 < i → (nspAt l (i - 1)).fr ≤ (nspAt l i).fr)
def RgsOk (l : List Nsp) : Prop := l.length ≤ 30 ∧ ∀ i, i < l.length → RgStep l i
theorem rgs_step {l : List Nsp} {j : Nat} (h : ∀ i, i < j → RgStep l i) (h' : RgStep l j) : ∀ i, i < j + 1 → RgStep l i := by
  intro i hi
  by_cases e : i = j
  · subst e; exact h'
  · exact h i (by omega)
def ChanOk (c : Chan) : Prop := RgsOk c.rg ∧ DayOk c.fr ∧ DayOk c.to ∧ c.fr ≤ c.to ∧ c.to - c.fr ≤ 20000
/-! ### People -/
structure Ppl where
  ps : List Nsp
  tm : List Trm
def PsStep (l : List Nsp) (i : Nat) : Prop := NspOk (nspAt l i) ∧ (0 < i → sLt (nspAt l (i - 1)).nm (nspAt l i).nm)
/-- the person with a name -/
noncomputable def psIx (l : List Nsp) (name : ByteArray) : Int := fstIx (fun i => (nspAt l i).nm = name) l.length
def TrmOk (l : List Nsp) (t : Trm) : Prop := 0 ≤ psIx l t.pe ∧ NameOk t.of 12 ∧ t.fr ≤ t.to ∧ (nspAt l (psIx l t.pe).toNat).fr ≤ t.fr ∧ t.to ≤ (nspAt l (psIx l t.pe).toNat).to
def PplOk (p : Ppl) : Prop := p.ps.length ≤ 40 ∧ p.tm.length ≤ 60 ∧ (∀ i, i < p.ps.length → PsStep p.ps i) ∧ ∀ i, i < p.tm.length → TrmOk p.ps (trmAt p.tm i)
theorem ps_step {l : List Nsp} {j : Nat} (h : ∀ i, i < j → PsStep l i) (h' : PsStep l j) : ∀ i, i < j + 1 → PsStep l i := by
  intro i hi
  by_cases e : i = j
  · subst e; exact h'
  · exact h i (by omega)
theorem psIx_lt {l : List Nsp} {name : ByteArray} (h : 0 ≤ psIx l name) : (psIx l name).toNat < l.length ∧ (((psIx l name).toNat : Nat) : Int) = psIx l name := by
  unfold psIx at *
  rcases fstIx_cases (fun i => (nspAt l i).nm = name) l.length with ⟨h1, _⟩ | ⟨j, h1, h2, _⟩
  · omega
  · rw [h2]; omega
/-- a term's days are days -/
theorem trm_days {l : List Nsp} {t : Trm} (hl : ∀ i, i < l.length → PsStep l i) (h : TrmOk l t) : DayOk t.fr ∧ DayOk t.to := by
  obtain ⟨h0, _, h1, h2, h3⟩ := h
  obtain ⟨⟨_, ⟨d1, d2⟩, ⟨d3, d4⟩, _⟩, _⟩ := hl _ (psIx_lt h0).1
  exact ⟨⟨by omega, by omega⟩, ⟨by omega, by omega⟩⟩
/-! ### Lands -/
structure Lnd where
  pl : List ByteArray
  wy : List Wy
def PlStep (l : List ByteArray) (i : Nat) : Prop := NameOk (strAt l i) 12 ∧ ∀ k, k < i → strAt l k ≠ strAt l i
def LndOk (l : Lnd) : Prop := (1 ≤ l.pl.length ∧ l.pl.length ≤ 12) ∧ l.wy.length ≤ 40 ∧ (∀ i, i < l.pl.length → PlStep l.pl i) ∧ ∀ i, i < l.wy.length → WyOk l.pl.length (wyAt l.wy i)
theorem pl_step {l : List ByteArray} {j : Nat} (h : ∀ i, i < j → PlStep l i) (h' : PlStep l j) : ∀ i, i < j + 1 → PlStep l i := by
  intro i hi
  by_cases e : i = j
  · subst e; exact h'
  · exact h i (by omega)
/-! ### Itineraries (a stay: place a, from b, to d) -/
def StyOk (n : Nat) (s : Wy) : Prop := (0 ≤ s.a ∧ s.a ≤ (n : Int) - 1) ∧ DayOk s.b ∧ DayOk s.d ∧ s.b ≤ s.d
/-- the next stay: there is a way, and time for it -/
def Nxt (M : Mat) (s t : Wy) : Prop := M s.a.toNat t.a.toNat < 1000000 ∧ s.d < t.b ∧ s.d + M s.a.toNat t.a.toNat ≤ t.b
def StStep (n : Nat) (M : Mat) (l : List Wy) (i : Nat) : Prop := StyOk n (wyAt l i) ∧ (0 < i → Nxt M (wyAt l (i - 1)) (wyAt l i))
def ItiOk (l : Lnd) (s : List Wy) : Prop := LndOk l ∧ s.length ≤ 40 ∧ ∀ i, i < s.length → StStep l.pl.length (trvM l.pl.length l.wy) s i
theorem st_step {n : Nat} {M : Mat} {l : List Wy} {j : Nat} (h : ∀ i, i < j → StStep n M l i) (h' : StStep n M l j) : ∀ i, i < j + 1 → StStep n M l i := by
  intro i hi
  by_cases e : i = j
  · subst e; exact h'
  · exact h i (by omega)
/-- the reference's test of two stays -/
theorem nxt_iff {n : Nat} {l : List Wy} (hl : ∀ i, i < l.length → WyOk n (wyAt l i)) (h40 : l.length ≤ 40) (hn : n ≤ 12) {s t : Wy} (hs : StyOk n s) (ht : StyOk n t) :
    Nxt (trvM n l) s t ↔ 0 ≤ frmV n l s.a.toNat t.a.toNat ∧ s.d + max 1 (frmV n l s.a.toNat t.a.toNat) ≤ t.b := by
  obtain ⟨⟨a0, a1⟩, _⟩ := hs
  obtain ⟨⟨b0, b1⟩, _⟩ := ht
  have hnn := (trv_ok hl).1.nn s.a.toNat t.a.toNat (by omega) (by omega)
  unfold Nxt
  rcases travel_same hl h40 hn (a := s.a.toNat) (b := t.a.toNat) (by omega) (by omega) with ⟨h1, h2⟩ | ⟨h1, h2⟩
  · rw [h2]; omega
  · rw [h2]; omega
/-! ### Worlds -/
structure Wrl where
  ch : Chan
  pp : Ppl
  ld : Lnd
  st : List Wy
  se : List Nsp
  ha : List Nsp
def WrlOk (w : Wrl) : Prop := ChanOk w.ch ∧ PplOk w.pp ∧ ItiOk w.ld w.st ∧ MksOk w.se ∧ MksOk w.ha
end Go.Proofs.YtbddkmlfjghllaaGreatDoor
