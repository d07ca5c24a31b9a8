/- Contracts: a list without one of its elements: slices.Delete, lessOne, l21Drop. -/
import Derived.Test.YtbddkmlfjghllaaGreatDoorT1T
import Derived.Test.YtbddkmlfjghllaaGreatDoorT1Bd
import Derived.Deep.RegionHeld3
import Derived.Laws.IdiomCopy
import Derived.Lib.SliceRun
namespace Go.Proofs.YtbddkmlfjghllaaGreatDoor
set_option linter.unusedVariables false
set_option linter.unusedSimpArgs false
open Go.RowKit
attribute [local go_sem] cell_onto

theorem Off.setCells {S : Nat → Prop} {a : World} {g : Nat} (hg : S g) : ∀ (vs : List Value) (o : Nat) (w : World), Off S a w → Off S a (w.setCells g o vs)
  | [], _, _, h => h
  | v :: r, o, w, h => Off.setCells hg r (o + 1) _ (h.setCell (p := ⟨g, o, none⟩) (.inl hg) v)
theorem inAt_erase (l : List Int) (i k : Nat) : inAt (l.eraseIdx i) k = if k < i then inAt l k else inAt l (k + 1) := by
  unfold inAt
  rw [List.getD_eq_getElem?_getD, List.getElem?_eraseIdx]
  split <;> rw [List.getD_eq_getElem?_getD]
theorem erase_len {l : List Int} {i : Nat} (hi : i < l.length) : (l.eraseIdx i).length = l.length - 1 := by rw [List.length_eraseIdx]; simp [hi]
theorem getElem_map_drop {l : List Int} {i t : Nat} (h : i + 1 + t < l.length) : ((l.drop (i + 1)).map (Value.int .i64))[t]? = some (intCell l (i + 1 + t)) := by
  rw [List.getElem?_map, List.getElem?_drop]
  unfold intCell inAt
  rw [List.getD_eq_getElem?_getD, List.getElem?_eq_getElem h]
  rfl
/-- what lies in the block behind the move and the clearing -/
theorem del_own {w : World} {g off c i : Nat} {l : List Int} {news : List Value} {z : Value} (h : Own w g 1 (.slice (some ⟨g, off, none⟩) l.length c) l.length (intCell l)) (hi : i < l.length) (hn : news = (l.drop (i + 1)).map (Value.int .i64)) :
    Own ((w.setCells g (off + i) news).setCells g (off + (l.length - 1)) (List.replicate 1 z)) g 1 (.slice (some ⟨g, off, none⟩) (l.length - 1) c) (l.length - 1) (intCell (l.eraseIdx i)) := by
  obtain ⟨hgw, hcells⟩ := h.cells (by omega)
  have hlen : news.length = l.length - (i + 1) := by rw [hn]; simp
  have hsz := (Off.setCells (S := fun k => k = g) (a := w) (g := g) rfl (List.replicate 1 z) (off + (l.length - 1)) _ (Off.setCells (S := fun k => k = g) (a := w) (g := g) rfl news (off + i) w (Off.refl _ _))).size
  obtain ⟨hm, A, c', hv, hc', _⟩ := h
  injection hv with e1 e2 e3
  subst e3
  refine ⟨by omega, _, _, rfl, by omega, fun h0 => ⟨by omega, off, rfl, fun j hj => ⟨?_, ?_⟩⟩⟩
  · rw [World.cell?_setCells_out g _ _ _ _ (fun _ _ => .inl (by show off + j < off + (l.length - 1); omega))]
    show _ = some (Value.int .i64 (inAt (l.eraseIdx i) j))
    rw [inAt_erase]
    by_cases e : j < i
    · rw [if_pos e, World.cell?_setCells_out g _ _ _ _ (fun _ _ => .inl (by show off + j < off + i; omega))]
      exact (hcells j (by omega)).1
    · rw [if_neg e]
      obtain ⟨t, rfl⟩ : ∃ t, j = i + t := ⟨j - i, by omega⟩
      have ht : t < news.length := by omega
      have := World.cell?_setCells_in g news (off + i) w (fun q hq => by
        rw [Nat.add_assoc, (hcells (i + q) (by omega)).1]; rfl) t ht
      rw [← Nat.add_assoc, this]
      have h2 := getElem_map_drop (l := l) (i := i) (t := t) (by omega)
      rw [← hn, List.getElem?_eq_getElem ht] at h2
      injection h2 with h2
      rw [h2]
      unfold intCell
      rw [show i + 1 + t = i + t + 1 by omega]
  · rw [World.frozen?_setCells, World.frozen?_setCells]
    exact (hcells j (by omega)).2

theorem zero_int64 (w : World) : (zeroValue 2).run Tryz.prog w = .ok (.int .i64 0) w := by kernel_rfl
end Go.Proofs.YtbddkmlfjghllaaGreatDoor
