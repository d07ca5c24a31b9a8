/- Rows of structs of strings and numbers, and of strings, that grow in memory of the call's own. (Printed by genRw.py.) -/
import Derived.Test.YtmmokjnljaifcaaGreatDoorE1Jd
import Derived.Test.YtmmokjnljaifcaaGreatDoorE1S
import Derived.Test.YtmmokjnljaifcaaGreatDoorE1De
import Derived.Test.YtmmokjnljaifcaaGreatDoorE1Mk
namespace Go.Proofs.YtmmokjnljaifcaaGreatDoor
set_option linter.unusedVariables false
set_option linter.unusedSimpArgs false
open Go.RowKit

def RowStr (w : World) (base : Nat) (T : TypeId) (u : Value) (l : List ByteArray) : Prop := w.ownsRow base T 1 u l.length (cellsOf (l.length * 1) (strCell l))
theorem RowStr.ext {w w' : World} {base : Nat} {T : TypeId} {u : Value} {l : List ByteArray} (h : RowStr w base T u l) (hx : Ext w w') : RowStr w' base T u l := row_ext h hx
theorem RowStr.made (w : World) (T : TypeId) : RowStr (w.alloc (.cells #[] T)) w.heap.size T (.slice (some ⟨w.heap.size, 0, none⟩) 0 0) [] := by
  have := World.ownsRow_made (base := w.heap.size) (e := T) (size := 1) w #[] 0 (by simp) (Nat.zero_le _) rfl
  unfold RowStr
  simpa [cellsOf] using this
theorem strCell_push (l : List ByteArray) (s : ByteArray) : cellsOf (l.length * 1) (strCell l) ++ cellsOf (1 * 1) (strCell [s]) = cellsOf ((l.length + 1) * 1) (strCell (l ++ [s])) := by
  rw [cellsOf_append, show l.length * 1 + 1 * 1 = (l.length + 1) * 1 by omega]
  refine cellsOf_congr (fun i hi => ?_)
  have ha : ∀ j, j < l.length → strAt (l ++ [s]) j = strAt l j := fun j hj => by
    unfold strAt
    rw [List.getD_eq_getElem?_getD, List.getD_eq_getElem?_getD, List.getElem?_append_left hj]
  have hb : strAt (l ++ [s]) l.length = strAt [s] 0 := by
    unfold strAt
    rw [List.getD_eq_getElem?_getD, List.getD_eq_getElem?_getD, List.getElem?_append_right (Nat.le_refl _), Nat.sub_self]
  by_cases e : i < l.length * 1
  · rw [if_pos e]
    unfold strCell
    rw [ha _ (by omega)]
  · rw [if_neg e]
    have h1 : (i - l.length * 1) / 1 = 0 := by omega
    have h2 : i / 1 = l.length := by omega
    have h3 : (i - l.length * 1) % 1 = i % 1 := by omega
    unfold strCell
    have h4 : i - l.length * 1 = 0 := by omega
    have h5 : i = l.length := by omega
    rw [h4, h5, hb]
theorem RowStr.push {w : World} {base : Nat} {T : TypeId} {u : Value} {l : List ByteArray} {s : ByteArray} (h : w.ownsRow base T 1 u (l.length + 1) (cellsOf (l.length * 1) (strCell l) ++ cellsOf (1 * 1) (strCell [s]))) : RowStr w base T u (l ++ [s]) := by
  unfold RowStr
  rw [strCell_push] at h
  rw [List.length_append]
  exact h
theorem RowStr.rows {w : World} {base : Nat} {T : TypeId} {v : Value} {l : List ByteArray} (h : RowStr w base T v l) : Strs w 0 w.heap.size v l := by
  obtain ⟨g, h1, h2⟩ := Own.of_owned h
  exact h2.row (fun h0 => ⟨Nat.zero_le _, h2.lt h0⟩)
end Go.Proofs.YtmmokjnljaifcaaGreatDoor
