/- Rows of marks of the call's own: cells, stores into them, one put in. (Printed by genAe.py.) -/
import Derived.Test.YtbddkmlfjghllaaGreatDoorT1Aa
import Derived.Test.YtbddkmlfjghllaaGreatDoorT1Js
namespace Go.Proofs.YtbddkmlfjghllaaGreatDoor
set_option linter.unusedVariables false
set_option linter.unusedSimpArgs false
open Go.RowKit

/-- a row of marks that has an element: its block, and its cells, which are its own -/
theorem RowNsp.cells {w : World} {base n c : Nat} {A : Option Addr} {T : TypeId} {l : List Nsp} (h : RowNsp w base T (.slice A n c) l) (h0 : 0 < l.length) :
    ∃ g, A = some ⟨g, 0, none⟩ ∧ base ≤ g ∧ g < w.heap.size ∧ ∀ i, i < l.length * 3 → w.cell? ⟨g, i, none⟩ = some (nspCell l i) ∧ w.frozen? ⟨g, i, none⟩ = false := by
  obtain ⟨hn, hr⟩ := h
  rcases hr with ⟨_, h1⟩ | ⟨g, cap, cur, e1, hg, hh, hx⟩
  · omega
  · injection e1 with e1 e2 e3
    refine ⟨g, e1, hg, (Array.getElem?_eq_some_iff.1 hh).1, fun i hi => ?_⟩
    subst e1
    have h' : RowNsp w base T (.slice (some ⟨g, 0, none⟩) n c) l := ⟨hn, .inr ⟨g, cap, cur, by rw [e2, e3], hg, hh, hx⟩⟩
    obtain ⟨rfl⟩ : n = l.length := by have := ownsRow_len h'; obtain ⟨_, _, e⟩ := this; injection e
    have k1 := World.ownsRow.cellAt h' i hi
    rw [cellsOf_at hi] at k1
    exact ⟨k1, World.ownsRow.frozenAt h' i⟩
theorem nspCell_app (l r : List Nsp) : cellsOf (l.length * 3) (nspCell l) ++ cellsOf (r.length * 3) (nspCell r) = cellsOf ((l ++ r).length * 3) (nspCell (l ++ r)) := by
  rw [cellsOf_append, show l.length * 3 + r.length * 3 = (l ++ r).length * 3 by rw [List.length_append]; omega]
  refine cellsOf_congr (fun i hi => ?_)
  have ha : ∀ j, j < l.length → nspAt (l ++ r) j = nspAt l j := fun j hj => by
    unfold nspAt
    rw [List.getD_eq_getElem?_getD, List.getD_eq_getElem?_getD, List.getElem?_append_left hj]
  have hb : ∀ j, l.length ≤ j → nspAt (l ++ r) j = nspAt r (j - l.length) := fun j hj => by
    unfold nspAt
    rw [List.getD_eq_getElem?_getD, List.getD_eq_getElem?_getD, List.getElem?_append_right hj]
  by_cases e : i < l.length * 3
  · rw [if_pos e]
    unfold nspCell
    rw [ha _ (by omega)]
  · rw [if_neg e]
    have h2 : i / 3 - l.length = (i - l.length * 3) / 3 := by omega
    have h3 : (i - l.length * 3) % 3 = i % 3 := by omega
    unfold nspCell
    rw [hb _ (by omega), h2, h3]
theorem nspCell_drop (m : List Nsp) (p : Nat) : cellsOf ((m.length - p) * 3) (fun k => nspCell m (p * 3 + k)) = cellsOf ((m.drop p).length * 3) (nspCell (m.drop p)) := by
  rw [List.length_drop]
  refine cellsOf_congr (fun i hi => ?_)
  have h1 : (p * 3 + i) % 3 = i % 3 := by omega
  have h2 : (p * 3 + i) / 3 = p + i / 3 := by omega
  have h3 : nspAt (m.drop p) (i / 3) = nspAt m (p + i / 3) := by
    unfold nspAt
    rw [List.getD_eq_getElem?_getD, List.getD_eq_getElem?_getD, List.getElem?_drop]
  show nspCell m (p * 3 + i) = nspCell (m.drop p) i
  unfold nspCell
  rw [h1, h2, h3]
theorem ins_row {w : World} {base : Nat} {T : TypeId} {u : Value} {m : List Nsp} {x : Nsp} {p : Nat} (hp : p ≤ m.length) (h : w.ownsRow base T 3 u (p + 1 + (m.length - p)) (cellsOf (p * 3) (nspCell (m.take p)) ++ cellsOf (1 * 3) (nspCell [x]) ++ cellsOf ((m.length - p) * 3) (fun k => nspCell m (p * 3 + k)))) :
    RowNsp w base T u (insP m x p) := by
  have ht : (m.take p).length = p := by rw [List.length_take]; omega
  have e1 := nspCell_app (m.take p) [x]
  rw [ht, List.length_singleton] at e1
  have e2 := nspCell_app (m.take p ++ [x]) (m.drop p)
  rw [e1, nspCell_drop, e2] at h
  have e3 : m.take p ++ [x] ++ m.drop p = insP m x p := by unfold insP; simp
  rw [e3] at h
  unfold RowNsp
  have e4 : p + 1 + (m.length - p) = (insP m x p).length := by rw [insP_len hp]; omega
  rw [e4] at h
  exact h
theorem set_cells {m : List Nsp} {p : Nat} (hp : p < m.length) (y : Int) : (cellsOf (m.length * 3) (nspCell m)).set (p * 3 + 2) (.int .i64 y) = cellsOf ((m.set p ⟨(nspAt m p).nm, (nspAt m p).fr, y⟩).length * 3) (nspCell (m.set p ⟨(nspAt m p).nm, (nspAt m p).fr, y⟩)) := by
  rw [List.length_set]
  refine List.ext_getElem? (fun i => ?_)
  rw [List.getElem?_set, cellsOf_len]
  by_cases hi : i < m.length * 3
  · rw [cellsOf_at hi, cellsOf_at hi]
    by_cases e : p * 3 + 2 = i
    · rw [if_pos e, if_pos (by omega)]
      congr 1
      unfold nspCell
      rw [if_neg (by omega), if_neg (by omega), nspAt_set, if_pos ⟨by omega, by omega⟩]
    · rw [if_neg e]
      congr 1
      unfold nspCell
      rw [nspAt_set]
      by_cases e2 : i / 3 = p ∧ i / 3 < m.length
      · rw [if_pos e2, e2.1]
        by_cases c0 : i % 3 = 0
        · rw [if_pos c0, if_pos c0]
        · rw [if_neg c0, if_neg c0]
          by_cases c1 : i % 3 = 1
          · rw [if_pos c1, if_pos c1]
          · exfalso; have := e2.1; omega
      · rw [if_neg e2]
  · rw [List.getElem?_eq_none (by rw [cellsOf_len]; omega), List.getElem?_eq_none (by rw [cellsOf_len]; omega), if_neg (show ¬ p * 3 + 2 = i by omega)]
theorem RowNsp.setTo {w : World} {base g c n : Nat} {T : TypeId} {m : List Nsp} {p : Nat} (h : RowNsp w base T (.slice (some ⟨g, 0, none⟩) n c) m) (hn : n = m.length) (hp : p < m.length) (y : Int) :
    RowNsp (w.setCell ⟨g, p * 3 + 2, none⟩ (.int .i64 y)) base T (.slice (some ⟨g, 0, none⟩) n c) (m.set p ⟨(nspAt m p).nm, (nspAt m p).fr, y⟩) := by
  subst hn
  have h1 := (World.ownsRow.stored h (p * 3 + 2) (.int .i64 y)).1
  unfold RowNsp
  rw [← set_cells hp y, List.length_set]
  exact h1
theorem RowNsp.shape {w : World} {base : Nat} {T : TypeId} {v : Value} {l : List Nsp} (h : RowNsp w base T v l) (h0 : 0 < l.length) : ∃ g c, v = .slice (some ⟨g, 0, none⟩) l.length c ∧ base ≤ g ∧ l.length ≤ c := by
  obtain ⟨hn, hr⟩ := h
  rcases hr with ⟨_, h1⟩ | ⟨g, cap, cur, rfl, hb, _, hle, _⟩
  · omega
  · exact ⟨g, cap, rfl, hb, hle⟩
theorem box_put {W W' : World} {v v' : Value} {b g0 g : Nat} {cs : List Value} (hp : Put b W v W' v') (hv : v.ownBlock = some g0) (hB : Boxed W g cs) (hne : g ≠ g0) : Boxed W' g cs :=
  hB.off hp.1 (fun h => hne (by have h3 := h.2.2; rw [hv] at h3; injection h3 with h3; exact h3.symm))
end Go.Proofs.YtbddkmlfjghllaaGreatDoor
