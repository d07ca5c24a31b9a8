/- Plain: structs of strings and numbers in rows; strings in rows. No program in sight. (Printed by genK.py.) -/
import Derived.Test.YtbddkmlfjghllaaGreatDoorW1Lib
import Derived.Test.YtbddkmlfjghllaaGreatDoorW1Ja
import Derived.Test.YtbddkmlfjghllaaGreatDoorW1Jf
namespace Go.Proofs.YtbddkmlfjghllaaGreatDoor
set_option linter.unusedVariables false
set_option linter.unusedSimpArgs false
open Go.RowKit

structure Nsp where
  nm : ByteArray
  fr : Int
  to : Int
def nspAt (l : List Nsp) (i : Nat) : Nsp := l.getD i ⟨⟨#[]⟩, 0, 0⟩
def nspCell (l : List Nsp) (i : Nat) : Value := if i % 3 = 0 then .string (nspAt l (i / 3)).nm else if i % 3 = 1 then .int .i64 (nspAt l (i / 3)).fr else .int .i64 (nspAt l (i / 3)).to
theorem nspCell_0 (l : List Nsp) (j : Nat) : nspCell l (j * 3) = .string (nspAt l j).nm := by
  unfold nspCell
  rw [if_pos (by omega), show (j * 3) / 3 = j from by omega]
theorem nspCell_1 (l : List Nsp) (j : Nat) : nspCell l (j * 3 + 1) = .int .i64 (nspAt l j).fr := by
  unfold nspCell
  rw [if_neg (by omega), if_pos (by omega), show (j * 3 + 1) / 3 = j from by omega]
theorem nspCell_2 (l : List Nsp) (j : Nat) : nspCell l (j * 3 + 2) = .int .i64 (nspAt l j).to := by
  unfold nspCell
  rw [if_neg (by omega), if_neg (by omega), show (j * 3 + 2) / 3 = j from by omega]
def Nsps (w : World) (lo hi : Nat) (v : Value) (l : List Nsp) : Prop := Row w lo hi 3 v l.length (nspCell l)
section
variable {w w' : World} {lo hi lo' hi' : Nat} {v : Value}
theorem Nsps.ext {l : List Nsp} (h : Nsps w lo hi v l) (hx : Ext w w') (hh : hi ≤ w.heap.size) : Nsps w' lo hi v l := Row.ext h hx hh
theorem Nsps.mono {l : List Nsp} (h : Nsps w lo hi v l) (h1 : lo' ≤ lo) (h2 : hi ≤ hi') : Nsps w lo' hi' v l := Row.mono h h1 h2
theorem Nsps.up {l : List Nsp} (h : Nsps w 0 w.heap.size v l) (hx : Ext w w') : Nsps w' 0 w'.heap.size v l := (h.ext hx (Nat.le_refl _)).mono (Nat.le_refl _) hx.size
theorem Nsps.upAt {l : List Nsp} (h : Nsps w lo hi v l) (hh : hi ≤ w.heap.size) (hx : Ext w w') : Nsps w' 0 w'.heap.size v l := Nsps.up (h.mono (Nat.zero_le _) hh) hx
theorem Nsps.len {l : List Nsp} (h : Nsps w lo hi v l) : ∃ A c, v = .slice A l.length c ∧ l.length ≤ 9223372036854775807 ∧ l.length ≤ c := by
  obtain ⟨hn, A, c, e, hc, _⟩ := h
  exact ⟨A, c, e, by unfold maxLen at hn; omega, hc⟩
theorem Nsps.at_ {A : Option Addr} {c : Nat} {l : List Nsp} {m i : Nat} (h : Nsps w lo hi (.slice A m c) l) (hi' : i < l.length) :
    ∃ b off, A = some ⟨b, off, none⟩ ∧ lo ≤ b ∧ b < hi ∧ w.cell? ⟨b, off + i * 3, none⟩ = some (.string (nspAt l i).nm) ∧ w.cell? ⟨b, off + i * 3 + 1, none⟩ = some (.int .i64 (nspAt l i).fr) ∧ w.cell? ⟨b, off + i * 3 + 2, none⟩ = some (.int .i64 (nspAt l i).to) := by
  obtain ⟨hn, A', c', e, hc, hr⟩ := h
  injection e with e1 e2 e3
  obtain ⟨b, off, hA, h1, h2, h3⟩ := hr (by omega)
  refine ⟨b, off, by rw [e1, hA], h1, h2, ?_, ?_, ?_⟩
  · rw [h3 (i * 3) (by omega)]; exact congrArg some (nspCell_0 l i)
  · rw [Nat.add_assoc, h3 (i * 3 + 1) (by omega)]; exact congrArg some (nspCell_1 l i)
  · rw [Nat.add_assoc, h3 (i * 3 + 2) (by omega)]; exact congrArg some (nspCell_2 l i)
end

structure Trm where
  of : ByteArray
  pe : ByteArray
  fr : Int
  to : Int
def trmAt (l : List Trm) (i : Nat) : Trm := l.getD i ⟨⟨#[]⟩, ⟨#[]⟩, 0, 0⟩
def trmCell (l : List Trm) (i : Nat) : Value := if i % 4 = 0 then .string (trmAt l (i / 4)).of else if i % 4 = 1 then .string (trmAt l (i / 4)).pe else if i % 4 = 2 then .int .i64 (trmAt l (i / 4)).fr else .int .i64 (trmAt l (i / 4)).to
theorem trmCell_0 (l : List Trm) (j : Nat) : trmCell l (j * 4) = .string (trmAt l j).of := by
  unfold trmCell
  rw [if_pos (by omega), show (j * 4) / 4 = j from by omega]
theorem trmCell_1 (l : List Trm) (j : Nat) : trmCell l (j * 4 + 1) = .string (trmAt l j).pe := by
  unfold trmCell
  rw [if_neg (by omega), if_pos (by omega), show (j * 4 + 1) / 4 = j from by omega]
theorem trmCell_2 (l : List Trm) (j : Nat) : trmCell l (j * 4 + 2) = .int .i64 (trmAt l j).fr := by
  unfold trmCell
  rw [if_neg (by omega), if_neg (by omega), if_pos (by omega), show (j * 4 + 2) / 4 = j from by omega]
theorem trmCell_3 (l : List Trm) (j : Nat) : trmCell l (j * 4 + 3) = .int .i64 (trmAt l j).to := by
  unfold trmCell
  rw [if_neg (by omega), if_neg (by omega), if_neg (by omega), show (j * 4 + 3) / 4 = j from by omega]
def Trms (w : World) (lo hi : Nat) (v : Value) (l : List Trm) : Prop := Row w lo hi 4 v l.length (trmCell l)
section
variable {w w' : World} {lo hi lo' hi' : Nat} {v : Value}
theorem Trms.ext {l : List Trm} (h : Trms w lo hi v l) (hx : Ext w w') (hh : hi ≤ w.heap.size) : Trms w' lo hi v l := Row.ext h hx hh
theorem Trms.mono {l : List Trm} (h : Trms w lo hi v l) (h1 : lo' ≤ lo) (h2 : hi ≤ hi') : Trms w lo' hi' v l := Row.mono h h1 h2
theorem Trms.up {l : List Trm} (h : Trms w 0 w.heap.size v l) (hx : Ext w w') : Trms w' 0 w'.heap.size v l := (h.ext hx (Nat.le_refl _)).mono (Nat.le_refl _) hx.size
theorem Trms.upAt {l : List Trm} (h : Trms w lo hi v l) (hh : hi ≤ w.heap.size) (hx : Ext w w') : Trms w' 0 w'.heap.size v l := Trms.up (h.mono (Nat.zero_le _) hh) hx
theorem Trms.len {l : List Trm} (h : Trms w lo hi v l) : ∃ A c, v = .slice A l.length c ∧ l.length ≤ 9223372036854775807 ∧ l.length ≤ c := by
  obtain ⟨hn, A, c, e, hc, _⟩ := h
  exact ⟨A, c, e, by unfold maxLen at hn; omega, hc⟩
theorem Trms.at_ {A : Option Addr} {c : Nat} {l : List Trm} {m i : Nat} (h : Trms w lo hi (.slice A m c) l) (hi' : i < l.length) :
    ∃ b off, A = some ⟨b, off, none⟩ ∧ lo ≤ b ∧ b < hi ∧ w.cell? ⟨b, off + i * 4, none⟩ = some (.string (trmAt l i).of) ∧ w.cell? ⟨b, off + i * 4 + 1, none⟩ = some (.string (trmAt l i).pe) ∧ w.cell? ⟨b, off + i * 4 + 2, none⟩ = some (.int .i64 (trmAt l i).fr) ∧ w.cell? ⟨b, off + i * 4 + 3, none⟩ = some (.int .i64 (trmAt l i).to) := by
  obtain ⟨hn, A', c', e, hc, hr⟩ := h
  injection e with e1 e2 e3
  obtain ⟨b, off, hA, h1, h2, h3⟩ := hr (by omega)
  refine ⟨b, off, by rw [e1, hA], h1, h2, ?_, ?_, ?_, ?_⟩
  · rw [h3 (i * 4) (by omega)]; exact congrArg some (trmCell_0 l i)
  · rw [Nat.add_assoc, h3 (i * 4 + 1) (by omega)]; exact congrArg some (trmCell_1 l i)
  · rw [Nat.add_assoc, h3 (i * 4 + 2) (by omega)]; exact congrArg some (trmCell_2 l i)
  · rw [Nat.add_assoc, h3 (i * 4 + 3) (by omega)]; exact congrArg some (trmCell_3 l i)
end

def wyCell (l : List Wy) (i : Nat) : Value := if i % 3 = 0 then .int .i64 (wyAt l (i / 3)).a else if i % 3 = 1 then .int .i64 (wyAt l (i / 3)).b else .int .i64 (wyAt l (i / 3)).d
theorem wyCell_0 (l : List Wy) (j : Nat) : wyCell l (j * 3) = .int .i64 (wyAt l j).a := by
  unfold wyCell
  rw [if_pos (by omega), show (j * 3) / 3 = j from by omega]
theorem wyCell_1 (l : List Wy) (j : Nat) : wyCell l (j * 3 + 1) = .int .i64 (wyAt l j).b := by
  unfold wyCell
  rw [if_neg (by omega), if_pos (by omega), show (j * 3 + 1) / 3 = j from by omega]
theorem wyCell_2 (l : List Wy) (j : Nat) : wyCell l (j * 3 + 2) = .int .i64 (wyAt l j).d := by
  unfold wyCell
  rw [if_neg (by omega), if_neg (by omega), show (j * 3 + 2) / 3 = j from by omega]
def Wys (w : World) (lo hi : Nat) (v : Value) (l : List Wy) : Prop := Row w lo hi 3 v l.length (wyCell l)
section
variable {w w' : World} {lo hi lo' hi' : Nat} {v : Value}
theorem Wys.ext {l : List Wy} (h : Wys w lo hi v l) (hx : Ext w w') (hh : hi ≤ w.heap.size) : Wys w' lo hi v l := Row.ext h hx hh
theorem Wys.mono {l : List Wy} (h : Wys w lo hi v l) (h1 : lo' ≤ lo) (h2 : hi ≤ hi') : Wys w lo' hi' v l := Row.mono h h1 h2
theorem Wys.up {l : List Wy} (h : Wys w 0 w.heap.size v l) (hx : Ext w w') : Wys w' 0 w'.heap.size v l := (h.ext hx (Nat.le_refl _)).mono (Nat.le_refl _) hx.size
theorem Wys.upAt {l : List Wy} (h : Wys w lo hi v l) (hh : hi ≤ w.heap.size) (hx : Ext w w') : Wys w' 0 w'.heap.size v l := Wys.up (h.mono (Nat.zero_le _) hh) hx
theorem Wys.len {l : List Wy} (h : Wys w lo hi v l) : ∃ A c, v = .slice A l.length c ∧ l.length ≤ 9223372036854775807 ∧ l.length ≤ c := by
  obtain ⟨hn, A, c, e, hc, _⟩ := h
  exact ⟨A, c, e, by unfold maxLen at hn; omega, hc⟩
theorem Wys.at_ {A : Option Addr} {c : Nat} {l : List Wy} {m i : Nat} (h : Wys w lo hi (.slice A m c) l) (hi' : i < l.length) :
    ∃ b off, A = some ⟨b, off, none⟩ ∧ lo ≤ b ∧ b < hi ∧ w.cell? ⟨b, off + i * 3, none⟩ = some (.int .i64 (wyAt l i).a) ∧ w.cell? ⟨b, off + i * 3 + 1, none⟩ = some (.int .i64 (wyAt l i).b) ∧ w.cell? ⟨b, off + i * 3 + 2, none⟩ = some (.int .i64 (wyAt l i).d) := by
  obtain ⟨hn, A', c', e, hc, hr⟩ := h
  injection e with e1 e2 e3
  obtain ⟨b, off, hA, h1, h2, h3⟩ := hr (by omega)
  refine ⟨b, off, by rw [e1, hA], h1, h2, ?_, ?_, ?_⟩
  · rw [h3 (i * 3) (by omega)]; exact congrArg some (wyCell_0 l i)
  · rw [Nat.add_assoc, h3 (i * 3 + 1) (by omega)]; exact congrArg some (wyCell_1 l i)
  · rw [Nat.add_assoc, h3 (i * 3 + 2) (by omega)]; exact congrArg some (wyCell_2 l i)
end

structure Cls where
  ki : Int
  nu : Int
  mo : Int
  fe : Int
  re : Int
  wd : Int
  st : Int
  kg : ByteArray
def clsAt (l : List Cls) (i : Nat) : Cls := l.getD i ⟨0, 0, 0, 0, 0, 0, 0, ⟨#[]⟩⟩
def clsCell (l : List Cls) (i : Nat) : Value := if i % 8 = 0 then .int .i64 (clsAt l (i / 8)).ki else if i % 8 = 1 then .int .i64 (clsAt l (i / 8)).nu else if i % 8 = 2 then .int .i64 (clsAt l (i / 8)).mo else if i % 8 = 3 then .int .i64 (clsAt l (i / 8)).fe else if i % 8 = 4 then .int .i64 (clsAt l (i / 8)).re else if i % 8 = 5 then .int .i64 (clsAt l (i / 8)).wd else if i % 8 = 6 then .int .i64 (clsAt l (i / 8)).st else .string (clsAt l (i / 8)).kg
theorem clsCell_0 (l : List Cls) (j : Nat) : clsCell l (j * 8) = .int .i64 (clsAt l j).ki := by
  unfold clsCell
  rw [if_pos (by omega), show (j * 8) / 8 = j from by omega]
theorem clsCell_1 (l : List Cls) (j : Nat) : clsCell l (j * 8 + 1) = .int .i64 (clsAt l j).nu := by
  unfold clsCell
  rw [if_neg (by omega), if_pos (by omega), show (j * 8 + 1) / 8 = j from by omega]
theorem clsCell_2 (l : List Cls) (j : Nat) : clsCell l (j * 8 + 2) = .int .i64 (clsAt l j).mo := by
  unfold clsCell
  rw [if_neg (by omega), if_neg (by omega), if_pos (by omega), show (j * 8 + 2) / 8 = j from by omega]
theorem clsCell_3 (l : List Cls) (j : Nat) : clsCell l (j * 8 + 3) = .int .i64 (clsAt l j).fe := by
  unfold clsCell
  rw [if_neg (by omega), if_neg (by omega), if_neg (by omega), if_pos (by omega), show (j * 8 + 3) / 8 = j from by omega]
theorem clsCell_4 (l : List Cls) (j : Nat) : clsCell l (j * 8 + 4) = .int .i64 (clsAt l j).re := by
  unfold clsCell
  rw [if_neg (by omega), if_neg (by omega), if_neg (by omega), if_neg (by omega), if_pos (by omega), show (j * 8 + 4) / 8 = j from by omega]
theorem clsCell_5 (l : List Cls) (j : Nat) : clsCell l (j * 8 + 5) = .int .i64 (clsAt l j).wd := by
  unfold clsCell
  rw [if_neg (by omega), if_neg (by omega), if_neg (by omega), if_neg (by omega), if_neg (by omega), if_pos (by omega), show (j * 8 + 5) / 8 = j from by omega]
theorem clsCell_6 (l : List Cls) (j : Nat) : clsCell l (j * 8 + 6) = .int .i64 (clsAt l j).st := by
  unfold clsCell
  rw [if_neg (by omega), if_neg (by omega), if_neg (by omega), if_neg (by omega), if_neg (by omega), if_neg (by omega), if_pos (by omega), show (j * 8 + 6) / 8 = j from by omega]
theorem clsCell_7 (l : List Cls) (j : Nat) : clsCell l (j * 8 + 7) = .string (clsAt l j).kg := by
  unfold clsCell
  rw [if_neg (by omega), if_neg (by omega), if_neg (by omega), if_neg (by omega), if_neg (by omega), if_neg (by omega), if_neg (by omega), show (j * 8 + 7) / 8 = j from by omega]
def Clss (w : World) (lo hi : Nat) (v : Value) (l : List Cls) : Prop := Row w lo hi 8 v l.length (clsCell l)
section
variable {w w' : World} {lo hi lo' hi' : Nat} {v : Value}
theorem Clss.ext {l : List Cls} (h : Clss w lo hi v l) (hx : Ext w w') (hh : hi ≤ w.heap.size) : Clss w' lo hi v l := Row.ext h hx hh
theorem Clss.mono {l : List Cls} (h : Clss w lo hi v l) (h1 : lo' ≤ lo) (h2 : hi ≤ hi') : Clss w lo' hi' v l := Row.mono h h1 h2
theorem Clss.up {l : List Cls} (h : Clss w 0 w.heap.size v l) (hx : Ext w w') : Clss w' 0 w'.heap.size v l := (h.ext hx (Nat.le_refl _)).mono (Nat.le_refl _) hx.size
theorem Clss.upAt {l : List Cls} (h : Clss w lo hi v l) (hh : hi ≤ w.heap.size) (hx : Ext w w') : Clss w' 0 w'.heap.size v l := Clss.up (h.mono (Nat.zero_le _) hh) hx
theorem Clss.len {l : List Cls} (h : Clss w lo hi v l) : ∃ A c, v = .slice A l.length c ∧ l.length ≤ 9223372036854775807 ∧ l.length ≤ c := by
  obtain ⟨hn, A, c, e, hc, _⟩ := h
  exact ⟨A, c, e, by unfold maxLen at hn; omega, hc⟩
theorem Clss.at_ {A : Option Addr} {c : Nat} {l : List Cls} {m i : Nat} (h : Clss w lo hi (.slice A m c) l) (hi' : i < l.length) :
    ∃ b off, A = some ⟨b, off, none⟩ ∧ lo ≤ b ∧ b < hi ∧ w.cell? ⟨b, off + i * 8, none⟩ = some (.int .i64 (clsAt l i).ki) ∧ w.cell? ⟨b, off + i * 8 + 1, none⟩ = some (.int .i64 (clsAt l i).nu) ∧ w.cell? ⟨b, off + i * 8 + 2, none⟩ = some (.int .i64 (clsAt l i).mo) ∧ w.cell? ⟨b, off + i * 8 + 3, none⟩ = some (.int .i64 (clsAt l i).fe) ∧ w.cell? ⟨b, off + i * 8 + 4, none⟩ = some (.int .i64 (clsAt l i).re) ∧ w.cell? ⟨b, off + i * 8 + 5, none⟩ = some (.int .i64 (clsAt l i).wd) ∧ w.cell? ⟨b, off + i * 8 + 6, none⟩ = some (.int .i64 (clsAt l i).st) ∧ w.cell? ⟨b, off + i * 8 + 7, none⟩ = some (.string (clsAt l i).kg) := by
  obtain ⟨hn, A', c', e, hc, hr⟩ := h
  injection e with e1 e2 e3
  obtain ⟨b, off, hA, h1, h2, h3⟩ := hr (by omega)
  refine ⟨b, off, by rw [e1, hA], h1, h2, ?_, ?_, ?_, ?_, ?_, ?_, ?_, ?_⟩
  · rw [h3 (i * 8) (by omega)]; exact congrArg some (clsCell_0 l i)
  · rw [Nat.add_assoc, h3 (i * 8 + 1) (by omega)]; exact congrArg some (clsCell_1 l i)
  · rw [Nat.add_assoc, h3 (i * 8 + 2) (by omega)]; exact congrArg some (clsCell_2 l i)
  · rw [Nat.add_assoc, h3 (i * 8 + 3) (by omega)]; exact congrArg some (clsCell_3 l i)
  · rw [Nat.add_assoc, h3 (i * 8 + 4) (by omega)]; exact congrArg some (clsCell_4 l i)
  · rw [Nat.add_assoc, h3 (i * 8 + 5) (by omega)]; exact congrArg some (clsCell_5 l i)
  · rw [Nat.add_assoc, h3 (i * 8 + 6) (by omega)]; exact congrArg some (clsCell_6 l i)
  · rw [Nat.add_assoc, h3 (i * 8 + 7) (by omega)]; exact congrArg some (clsCell_7 l i)
end

structure Wit where
  pe : ByteArray
  of : ByteArray
def witAt (l : List Wit) (i : Nat) : Wit := l.getD i ⟨⟨#[]⟩, ⟨#[]⟩⟩
def witCell (l : List Wit) (i : Nat) : Value := if i % 2 = 0 then .string (witAt l (i / 2)).pe else .string (witAt l (i / 2)).of
theorem witCell_0 (l : List Wit) (j : Nat) : witCell l (j * 2) = .string (witAt l j).pe := by
  unfold witCell
  rw [if_pos (by omega), show (j * 2) / 2 = j from by omega]
theorem witCell_1 (l : List Wit) (j : Nat) : witCell l (j * 2 + 1) = .string (witAt l j).of := by
  unfold witCell
  rw [if_neg (by omega), show (j * 2 + 1) / 2 = j from by omega]
def Wits (w : World) (lo hi : Nat) (v : Value) (l : List Wit) : Prop := Row w lo hi 2 v l.length (witCell l)
section
variable {w w' : World} {lo hi lo' hi' : Nat} {v : Value}
theorem Wits.ext {l : List Wit} (h : Wits w lo hi v l) (hx : Ext w w') (hh : hi ≤ w.heap.size) : Wits w' lo hi v l := Row.ext h hx hh
theorem Wits.mono {l : List Wit} (h : Wits w lo hi v l) (h1 : lo' ≤ lo) (h2 : hi ≤ hi') : Wits w lo' hi' v l := Row.mono h h1 h2
theorem Wits.up {l : List Wit} (h : Wits w 0 w.heap.size v l) (hx : Ext w w') : Wits w' 0 w'.heap.size v l := (h.ext hx (Nat.le_refl _)).mono (Nat.le_refl _) hx.size
theorem Wits.upAt {l : List Wit} (h : Wits w lo hi v l) (hh : hi ≤ w.heap.size) (hx : Ext w w') : Wits w' 0 w'.heap.size v l := Wits.up (h.mono (Nat.zero_le _) hh) hx
theorem Wits.len {l : List Wit} (h : Wits w lo hi v l) : ∃ A c, v = .slice A l.length c ∧ l.length ≤ 9223372036854775807 ∧ l.length ≤ c := by
  obtain ⟨hn, A, c, e, hc, _⟩ := h
  exact ⟨A, c, e, by unfold maxLen at hn; omega, hc⟩
theorem Wits.at_ {A : Option Addr} {c : Nat} {l : List Wit} {m i : Nat} (h : Wits w lo hi (.slice A m c) l) (hi' : i < l.length) :
    ∃ b off, A = some ⟨b, off, none⟩ ∧ lo ≤ b ∧ b < hi ∧ w.cell? ⟨b, off + i * 2, none⟩ = some (.string (witAt l i).pe) ∧ w.cell? ⟨b, off + i * 2 + 1, none⟩ = some (.string (witAt l i).of) := by
  obtain ⟨hn, A', c', e, hc, hr⟩ := h
  injection e with e1 e2 e3
  obtain ⟨b, off, hA, h1, h2, h3⟩ := hr (by omega)
  refine ⟨b, off, by rw [e1, hA], h1, h2, ?_, ?_⟩
  · rw [h3 (i * 2) (by omega)]; exact congrArg some (witCell_0 l i)
  · rw [Nat.add_assoc, h3 (i * 2 + 1) (by omega)]; exact congrArg some (witCell_1 l i)
end

/-! ### Strings -/
def strAt (l : List ByteArray) (i : Nat) : ByteArray := l.getD i ⟨#[]⟩
def strCell (l : List ByteArray) (i : Nat) : Value := .string (strAt l i)
def Strs (w : World) (lo hi : Nat) (v : Value) (l : List ByteArray) : Prop := Row w lo hi 1 v l.length (strCell l)
section
variable {w w' : World} {lo hi lo' hi' : Nat} {v : Value}
theorem Strs.ext {l : List ByteArray} (h : Strs w lo hi v l) (hx : Ext w w') (hh : hi ≤ w.heap.size) : Strs w' lo hi v l := Row.ext h hx hh
theorem Strs.mono {l : List ByteArray} (h : Strs w lo hi v l) (h1 : lo' ≤ lo) (h2 : hi ≤ hi') : Strs w lo' hi' v l := Row.mono h h1 h2
theorem Strs.up {l : List ByteArray} (h : Strs w 0 w.heap.size v l) (hx : Ext w w') : Strs w' 0 w'.heap.size v l := (h.ext hx (Nat.le_refl _)).mono (Nat.le_refl _) hx.size
theorem Strs.upAt {l : List ByteArray} (h : Strs w lo hi v l) (hh : hi ≤ w.heap.size) (hx : Ext w w') : Strs w' 0 w'.heap.size v l := Strs.up (h.mono (Nat.zero_le _) hh) hx
theorem Strs.len {l : List ByteArray} (h : Strs w lo hi v l) : ∃ A c, v = .slice A l.length c ∧ l.length ≤ 9223372036854775807 ∧ l.length ≤ c := by
  obtain ⟨hn, A, c, e, hc, _⟩ := h
  exact ⟨A, c, e, by unfold maxLen at hn; omega, hc⟩
theorem Strs.at_ {A : Option Addr} {c : Nat} {l : List ByteArray} {m i : Nat} (h : Strs w lo hi (.slice A m c) l) (hi' : i < l.length) :
    ∃ b off, A = some ⟨b, off, none⟩ ∧ lo ≤ b ∧ b < hi ∧ w.cell? ⟨b, off + i, none⟩ = some (.string (strAt l i)) := by
  obtain ⟨hn, A', c', e, hc, hr⟩ := h
  injection e with e1 e2 e3
  obtain ⟨b, off, hA, h1, h2, h3⟩ := hr (by omega)
  exact ⟨b, off, by rw [e1, hA], h1, h2, h3 i (by omega)⟩
end
end Go.Proofs.YtbddkmlfjghllaaGreatDoor
