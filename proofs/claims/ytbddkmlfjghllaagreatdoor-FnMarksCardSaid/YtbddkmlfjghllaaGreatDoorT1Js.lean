/- Rows of structs of strings and numbers, and of strings, that grow in memory of the call's own. (Printed by genRw.py.) -/
import Derived.Test.YtbddkmlfjghllaaGreatDoorT1Jd
import Derived.Test.YtbddkmlfjghllaaGreatDoorT1S
import Derived.Test.YtbddkmlfjghllaaGreatDoorT1De
import Derived.Test.YtbddkmlfjghllaaGreatDoorT1Mk
namespace Go.Proofs.YtbddkmlfjghllaaGreatDoor
set_option linter.unusedVariables false
set_option linter.unusedSimpArgs false
open Go.RowKit

theorem nspCell_one (l : List Nsp) (i : Nat) : (nspCell l i).oneCell' = true := by
  unfold nspCell
  repeat' (first | rfl | split)
def RowNsp (w : World) (base : Nat) (T : TypeId) (u : Value) (l : List Nsp) : Prop := w.ownsRow base T 3 u l.length (cellsOf (l.length * 3) (nspCell l))
theorem RowNsp.ext {w w' : World} {base : Nat} {T : TypeId} {u : Value} {l : List Nsp} (h : RowNsp w base T u l) (hx : Ext w w') : RowNsp w' base T u l := row_ext h hx
theorem RowNsp.made (w : World) (T : TypeId) : RowNsp (w.alloc (.cells #[] T)) w.heap.size T (.slice (some ⟨w.heap.size, 0, none⟩) 0 0) [] := by
  have := World.ownsRow_made (base := w.heap.size) (e := T) (size := 3) w #[] 0 (by simp) (Nat.zero_le _) rfl
  unfold RowNsp
  simpa [cellsOf] using this
theorem nspCell_push (l : List Nsp) (s : Nsp) : cellsOf (l.length * 3) (nspCell l) ++ cellsOf (1 * 3) (nspCell [s]) = cellsOf ((l.length + 1) * 3) (nspCell (l ++ [s])) := by
  rw [cellsOf_append, show l.length * 3 + 1 * 3 = (l.length + 1) * 3 by omega]
  refine cellsOf_congr (fun i hi => ?_)
  have ha : ∀ j, j < l.length → nspAt (l ++ [s]) j = nspAt l j := fun j hj => by
    unfold nspAt
    rw [List.getD_eq_getElem?_getD, List.getD_eq_getElem?_getD, List.getElem?_append_left hj]
  have hb : nspAt (l ++ [s]) l.length = nspAt [s] 0 := by
    unfold nspAt
    rw [List.getD_eq_getElem?_getD, List.getD_eq_getElem?_getD, List.getElem?_append_right (Nat.le_refl _), Nat.sub_self]
  by_cases e : i < l.length * 3
  · rw [if_pos e]
    unfold nspCell
    rw [ha _ (by omega)]
  · rw [if_neg e]
    have h1 : (i - l.length * 3) / 3 = 0 := by omega
    have h2 : i / 3 = l.length := by omega
    have h3 : (i - l.length * 3) % 3 = i % 3 := by omega
    unfold nspCell
    rw [h1, h2, hb, h3]
theorem RowNsp.push {w : World} {base : Nat} {T : TypeId} {u : Value} {l : List Nsp} {s : Nsp} (h : w.ownsRow base T 3 u (l.length + 1) (cellsOf (l.length * 3) (nspCell l) ++ cellsOf (1 * 3) (nspCell [s]))) : RowNsp w base T u (l ++ [s]) := by
  unfold RowNsp
  rw [nspCell_push] at h
  rw [List.length_append]
  exact h
theorem RowNsp.rows {w : World} {base : Nat} {T : TypeId} {v : Value} {l : List Nsp} (h : RowNsp w base T v l) : Nsps w 0 w.heap.size v l := by
  obtain ⟨g, h1, h2⟩ := Own.of_owned h
  exact h2.row (fun h0 => ⟨Nat.zero_le _, h2.lt h0⟩)
theorem trmCell_one (l : List Trm) (i : Nat) : (trmCell l i).oneCell' = true := by
  unfold trmCell
  repeat' (first | rfl | split)
def RowTrm (w : World) (base : Nat) (T : TypeId) (u : Value) (l : List Trm) : Prop := w.ownsRow base T 4 u l.length (cellsOf (l.length * 4) (trmCell l))
theorem RowTrm.ext {w w' : World} {base : Nat} {T : TypeId} {u : Value} {l : List Trm} (h : RowTrm w base T u l) (hx : Ext w w') : RowTrm w' base T u l := row_ext h hx
theorem RowTrm.made (w : World) (T : TypeId) : RowTrm (w.alloc (.cells #[] T)) w.heap.size T (.slice (some ⟨w.heap.size, 0, none⟩) 0 0) [] := by
  have := World.ownsRow_made (base := w.heap.size) (e := T) (size := 4) w #[] 0 (by simp) (Nat.zero_le _) rfl
  unfold RowTrm
  simpa [cellsOf] using this
theorem trmCell_push (l : List Trm) (s : Trm) : cellsOf (l.length * 4) (trmCell l) ++ cellsOf (1 * 4) (trmCell [s]) = cellsOf ((l.length + 1) * 4) (trmCell (l ++ [s])) := by
  rw [cellsOf_append, show l.length * 4 + 1 * 4 = (l.length + 1) * 4 by omega]
  refine cellsOf_congr (fun i hi => ?_)
  have ha : ∀ j, j < l.length → trmAt (l ++ [s]) j = trmAt l j := fun j hj => by
    unfold trmAt
    rw [List.getD_eq_getElem?_getD, List.getD_eq_getElem?_getD, List.getElem?_append_left hj]
  have hb : trmAt (l ++ [s]) l.length = trmAt [s] 0 := by
    unfold trmAt
    rw [List.getD_eq_getElem?_getD, List.getD_eq_getElem?_getD, List.getElem?_append_right (Nat.le_refl _), Nat.sub_self]
  by_cases e : i < l.length * 4
  · rw [if_pos e]
    unfold trmCell
    rw [ha _ (by omega)]
  · rw [if_neg e]
    have h1 : (i - l.length * 4) / 4 = 0 := by omega
    have h2 : i / 4 = l.length := by omega
    have h3 : (i - l.length * 4) % 4 = i % 4 := by omega
    unfold trmCell
    rw [h1, h2, hb, h3]
theorem RowTrm.push {w : World} {base : Nat} {T : TypeId} {u : Value} {l : List Trm} {s : Trm} (h : w.ownsRow base T 4 u (l.length + 1) (cellsOf (l.length * 4) (trmCell l) ++ cellsOf (1 * 4) (trmCell [s]))) : RowTrm w base T u (l ++ [s]) := by
  unfold RowTrm
  rw [trmCell_push] at h
  rw [List.length_append]
  exact h
theorem RowTrm.rows {w : World} {base : Nat} {T : TypeId} {v : Value} {l : List Trm} (h : RowTrm w base T v l) : Trms w 0 w.heap.size v l := by
  obtain ⟨g, h1, h2⟩ := Own.of_owned h
  exact h2.row (fun h0 => ⟨Nat.zero_le _, h2.lt h0⟩)
theorem wyCell_one (l : List Wy) (i : Nat) : (wyCell l i).oneCell' = true := by
  unfold wyCell
  repeat' (first | rfl | split)
def RowWy (w : World) (base : Nat) (T : TypeId) (u : Value) (l : List Wy) : Prop := w.ownsRow base T 3 u l.length (cellsOf (l.length * 3) (wyCell l))
theorem RowWy.ext {w w' : World} {base : Nat} {T : TypeId} {u : Value} {l : List Wy} (h : RowWy w base T u l) (hx : Ext w w') : RowWy w' base T u l := row_ext h hx
theorem RowWy.made (w : World) (T : TypeId) : RowWy (w.alloc (.cells #[] T)) w.heap.size T (.slice (some ⟨w.heap.size, 0, none⟩) 0 0) [] := by
  have := World.ownsRow_made (base := w.heap.size) (e := T) (size := 3) w #[] 0 (by simp) (Nat.zero_le _) rfl
  unfold RowWy
  simpa [cellsOf] using this
theorem wyCell_push (l : List Wy) (s : Wy) : cellsOf (l.length * 3) (wyCell l) ++ cellsOf (1 * 3) (wyCell [s]) = cellsOf ((l.length + 1) * 3) (wyCell (l ++ [s])) := by
  rw [cellsOf_append, show l.length * 3 + 1 * 3 = (l.length + 1) * 3 by omega]
  refine cellsOf_congr (fun i hi => ?_)
  have ha : ∀ j, j < l.length → wyAt (l ++ [s]) j = wyAt l j := fun j hj => by
    unfold wyAt
    rw [List.getD_eq_getElem?_getD, List.getD_eq_getElem?_getD, List.getElem?_append_left hj]
  have hb : wyAt (l ++ [s]) l.length = wyAt [s] 0 := by
    unfold wyAt
    rw [List.getD_eq_getElem?_getD, List.getD_eq_getElem?_getD, List.getElem?_append_right (Nat.le_refl _), Nat.sub_self]
  by_cases e : i < l.length * 3
  · rw [if_pos e]
    unfold wyCell
    rw [ha _ (by omega)]
  · rw [if_neg e]
    have h1 : (i - l.length * 3) / 3 = 0 := by omega
    have h2 : i / 3 = l.length := by omega
    have h3 : (i - l.length * 3) % 3 = i % 3 := by omega
    unfold wyCell
    rw [h1, h2, hb, h3]
theorem RowWy.push {w : World} {base : Nat} {T : TypeId} {u : Value} {l : List Wy} {s : Wy} (h : w.ownsRow base T 3 u (l.length + 1) (cellsOf (l.length * 3) (wyCell l) ++ cellsOf (1 * 3) (wyCell [s]))) : RowWy w base T u (l ++ [s]) := by
  unfold RowWy
  rw [wyCell_push] at h
  rw [List.length_append]
  exact h
theorem RowWy.rows {w : World} {base : Nat} {T : TypeId} {v : Value} {l : List Wy} (h : RowWy w base T v l) : Wys w 0 w.heap.size v l := by
  obtain ⟨g, h1, h2⟩ := Own.of_owned h
  exact h2.row (fun h0 => ⟨Nat.zero_le _, h2.lt h0⟩)
theorem clsCell_one (l : List Cls) (i : Nat) : (clsCell l i).oneCell' = true := by
  unfold clsCell
  repeat' (first | rfl | split)
def RowCls (w : World) (base : Nat) (T : TypeId) (u : Value) (l : List Cls) : Prop := w.ownsRow base T 8 u l.length (cellsOf (l.length * 8) (clsCell l))
theorem RowCls.ext {w w' : World} {base : Nat} {T : TypeId} {u : Value} {l : List Cls} (h : RowCls w base T u l) (hx : Ext w w') : RowCls w' base T u l := row_ext h hx
theorem RowCls.made (w : World) (T : TypeId) : RowCls (w.alloc (.cells #[] T)) w.heap.size T (.slice (some ⟨w.heap.size, 0, none⟩) 0 0) [] := by
  have := World.ownsRow_made (base := w.heap.size) (e := T) (size := 8) w #[] 0 (by simp) (Nat.zero_le _) rfl
  unfold RowCls
  simpa [cellsOf] using this
theorem clsCell_push (l : List Cls) (s : Cls) : cellsOf (l.length * 8) (clsCell l) ++ cellsOf (1 * 8) (clsCell [s]) = cellsOf ((l.length + 1) * 8) (clsCell (l ++ [s])) := by
  rw [cellsOf_append, show l.length * 8 + 1 * 8 = (l.length + 1) * 8 by omega]
  refine cellsOf_congr (fun i hi => ?_)
  have ha : ∀ j, j < l.length → clsAt (l ++ [s]) j = clsAt l j := fun j hj => by
    unfold clsAt
    rw [List.getD_eq_getElem?_getD, List.getD_eq_getElem?_getD, List.getElem?_append_left hj]
  have hb : clsAt (l ++ [s]) l.length = clsAt [s] 0 := by
    unfold clsAt
    rw [List.getD_eq_getElem?_getD, List.getD_eq_getElem?_getD, List.getElem?_append_right (Nat.le_refl _), Nat.sub_self]
  by_cases e : i < l.length * 8
  · rw [if_pos e]
    unfold clsCell
    rw [ha _ (by omega)]
  · rw [if_neg e]
    have h1 : (i - l.length * 8) / 8 = 0 := by omega
    have h2 : i / 8 = l.length := by omega
    have h3 : (i - l.length * 8) % 8 = i % 8 := by omega
    unfold clsCell
    rw [h1, h2, hb, h3]
theorem RowCls.push {w : World} {base : Nat} {T : TypeId} {u : Value} {l : List Cls} {s : Cls} (h : w.ownsRow base T 8 u (l.length + 1) (cellsOf (l.length * 8) (clsCell l) ++ cellsOf (1 * 8) (clsCell [s]))) : RowCls w base T u (l ++ [s]) := by
  unfold RowCls
  rw [clsCell_push] at h
  rw [List.length_append]
  exact h
theorem RowCls.rows {w : World} {base : Nat} {T : TypeId} {v : Value} {l : List Cls} (h : RowCls w base T v l) : Clss w 0 w.heap.size v l := by
  obtain ⟨g, h1, h2⟩ := Own.of_owned h
  exact h2.row (fun h0 => ⟨Nat.zero_le _, h2.lt h0⟩)
theorem witCell_one (l : List Wit) (i : Nat) : (witCell l i).oneCell' = true := by
  unfold witCell
  repeat' (first | rfl | split)
def RowWit (w : World) (base : Nat) (T : TypeId) (u : Value) (l : List Wit) : Prop := w.ownsRow base T 2 u l.length (cellsOf (l.length * 2) (witCell l))
theorem RowWit.ext {w w' : World} {base : Nat} {T : TypeId} {u : Value} {l : List Wit} (h : RowWit w base T u l) (hx : Ext w w') : RowWit w' base T u l := row_ext h hx
theorem RowWit.made (w : World) (T : TypeId) : RowWit (w.alloc (.cells #[] T)) w.heap.size T (.slice (some ⟨w.heap.size, 0, none⟩) 0 0) [] := by
  have := World.ownsRow_made (base := w.heap.size) (e := T) (size := 2) w #[] 0 (by simp) (Nat.zero_le _) rfl
  unfold RowWit
  simpa [cellsOf] using this
theorem witCell_push (l : List Wit) (s : Wit) : cellsOf (l.length * 2) (witCell l) ++ cellsOf (1 * 2) (witCell [s]) = cellsOf ((l.length + 1) * 2) (witCell (l ++ [s])) := by
  rw [cellsOf_append, show l.length * 2 + 1 * 2 = (l.length + 1) * 2 by omega]
  refine cellsOf_congr (fun i hi => ?_)
  have ha : ∀ j, j < l.length → witAt (l ++ [s]) j = witAt l j := fun j hj => by
    unfold witAt
    rw [List.getD_eq_getElem?_getD, List.getD_eq_getElem?_getD, List.getElem?_append_left hj]
  have hb : witAt (l ++ [s]) l.length = witAt [s] 0 := by
    unfold witAt
    rw [List.getD_eq_getElem?_getD, List.getD_eq_getElem?_getD, List.getElem?_append_right (Nat.le_refl _), Nat.sub_self]
  by_cases e : i < l.length * 2
  · rw [if_pos e]
    unfold witCell
    rw [ha _ (by omega)]
  · rw [if_neg e]
    have h1 : (i - l.length * 2) / 2 = 0 := by omega
    have h2 : i / 2 = l.length := by omega
    have h3 : (i - l.length * 2) % 2 = i % 2 := by omega
    unfold witCell
    rw [h1, h2, hb, h3]
theorem RowWit.push {w : World} {base : Nat} {T : TypeId} {u : Value} {l : List Wit} {s : Wit} (h : w.ownsRow base T 2 u (l.length + 1) (cellsOf (l.length * 2) (witCell l) ++ cellsOf (1 * 2) (witCell [s]))) : RowWit w base T u (l ++ [s]) := by
  unfold RowWit
  rw [witCell_push] at h
  rw [List.length_append]
  exact h
theorem RowWit.rows {w : World} {base : Nat} {T : TypeId} {v : Value} {l : List Wit} (h : RowWit w base T v l) : Wits w 0 w.heap.size v l := by
  obtain ⟨g, h1, h2⟩ := Own.of_owned h
  exact h2.row (fun h0 => ⟨Nat.zero_le _, h2.lt h0⟩)
theorem strCell_one (l : List ByteArray) (i : Nat) : (strCell l i).oneCell' = true := by
  unfold strCell
  repeat' (first | rfl | split)
def RowStr (w : World) (base : Nat) (T : TypeId) (u : Value) (l : List ByteArray) : Prop := w.ownsRow base T 1 u l.length (cellsOf (l.length * 1) (strCell l))
theorem RowStr.ext {w w' : World} {base : Nat} {T : TypeId} {u : Value} {l : List ByteArray} (h : RowStr w base T u l) (hx : Ext w w') : RowStr w' base T u l := row_ext h hx
theorem RowStr.made (w : World) (T : TypeId) : RowStr (w.alloc (.cells #[] T)) w.heap.size T (.slice (some ⟨w.heap.size, 0, none⟩) 0 0) [] := by
  have := World.ownsRow_made (base := w.heap.size) (e := T) (size := 1) w #[] 0 (by simp) (Nat.zero_le _) rfl
  unfold RowStr
  simpa [cellsOf] using this
theorem strCell_push (l : List ByteArray) (s : ByteArray) : cellsOf (l.length * 1) (strCell l) ++ cellsOf (1 * 1) (strCell [s]) = cellsOf ((l.length + 1) * 1) (strCell (l ++ [s])) := by
  rw [cellsOf_append, show l.length * 1 + 1 * 1 = (l.length + 1) * 1 by omega]
  refine cellsOf_congr (fun i hi => ?_)
  have ha : ∀ j, j < l.length → strAt (l ++ [s]) j = strAt l j := fun j hj => by
    unfold strAt
    rw [List.getD_eq_getElem?_getD, List.getD_eq_getElem?_getD, List.getElem?_append_left hj]
  have hb : strAt (l ++ [s]) l.length = strAt [s] 0 := by
    unfold strAt
    rw [List.getD_eq_getElem?_getD, List.getD_eq_getElem?_getD, List.getElem?_append_right (Nat.le_refl _), Nat.sub_self]
  by_cases e : i < l.length * 1
  · rw [if_pos e]
    unfold strCell
    rw [ha _ (by omega)]
  · rw [if_neg e]
    have h1 : (i - l.length * 1) / 1 = 0 := by omega
    have h2 : i / 1 = l.length := by omega
    have h3 : (i - l.length * 1) % 1 = i % 1 := by omega
    unfold strCell
    have h4 : i - l.length * 1 = 0 := by omega
    have h5 : i = l.length := by omega
    rw [h4, h5, hb]
theorem RowStr.push {w : World} {base : Nat} {T : TypeId} {u : Value} {l : List ByteArray} {s : ByteArray} (h : w.ownsRow base T 1 u (l.length + 1) (cellsOf (l.length * 1) (strCell l) ++ cellsOf (1 * 1) (strCell [s]))) : RowStr w base T u (l ++ [s]) := by
  unfold RowStr
  rw [strCell_push] at h
  rw [List.length_append]
  exact h
theorem RowStr.rows {w : World} {base : Nat} {T : TypeId} {v : Value} {l : List ByteArray} (h : RowStr w base T v l) : Strs w 0 w.heap.size v l := by
  obtain ⟨g, h1, h2⟩ := Own.of_owned h
  exact h2.row (fun h0 => ⟨Nat.zero_le _, h2.lt h0⟩)
end Go.Proofs.YtbddkmlfjghllaaGreatDoor
