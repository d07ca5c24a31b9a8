/- Memory: a table of rows that grow by append. No program in sight. -/
import Derived.Test.YtfajmlkiidnhlaaGreatQ3T
import Derived.Test.YtfajmlkiidnhlaaGreatQ3Mk
namespace Go.Proofs.YtfajmlkiidnhlaaGreat
set_option linter.unusedVariables false
set_option linter.unusedSimpArgs false
open Go.RowKit

structure TabF (T : TypeId) (w : World) (lo g0 N : Nat) (v : Value) (f : Nat → Value) (R : Nat → List Sp) : Prop where
  head : Own w g0 1 v N f
  at0 : lo ≤ g0
  rows : ∀ i, i < N → w.ownsRow lo T 2 (f i) (R i).length (cellsOf ((R i).length * 2) (spanCell (R i)))
  ne : ∀ i, i < N → ∀ g, (f i).ownBlock = some g → g ≠ g0
  dis : ∀ i j, i < N → j < N → i ≠ j → ∀ g, (f i).ownBlock = some g → (f j).ownBlock ≠ some g
/-- the blocks of a table -/
def Blks (g0 N : Nat) (f : Nat → Value) (k : Nat) : Prop := k = g0 ∨ ∃ i, i < N ∧ (f i).ownBlock = some k
section
variable {T : TypeId} {w w1 w2 : World} {lo g0 N : Nat} {v : Value} {f : Nat → Value} {R : Nat → List Sp}
theorem TabF.ext (h : TabF T w lo g0 N v f R) (hx : Ext w w1) : TabF T w1 lo g0 N v f R := ⟨h.head.ext hx, h.at0, fun i hi => row_ext (h.rows i hi) hx, h.ne, h.dis⟩
theorem TabF.off {S : Nat → Prop} (h : TabF T w lo g0 N v f R) (hx : Off S w w1) (hs : ∀ k, Blks g0 N f k → ¬ S k) : TabF T w1 lo g0 N v f R :=
  ⟨h.head.off hx (fun _ => hs _ (.inl rfl)), h.at0, fun i hi => ownsRow_off (h.rows i hi) hx (fun g hg => hs g (.inr ⟨i, hi, hg⟩)), h.ne, h.dis⟩
theorem TabF.congr {R' : Nat → List Sp} (h : TabF T w lo g0 N v f R) (hr : ∀ i, i < N → R' i = R i) : TabF T w lo g0 N v f R' :=
  ⟨h.head, h.at0, fun i hi => by rw [hr i hi]; exact h.rows i hi, h.ne, h.dis⟩
theorem TabF.blk (h : TabF T w lo g0 N v f R) (hN : 0 < N) {k : Nat} (hk : Blks g0 N f k) : lo ≤ k ∧ k < w.heap.size := by
  rcases hk with rfl | ⟨i, hi, hg⟩
  · exact ⟨h.at0, h.head.lt hN⟩
  · exact (h.rows i hi).lt k hg
theorem TabF.row (h : TabF T w lo g0 N v f R) {i : Nat} (hi : i < N) : Spans w 0 w.heap.size (f i) (R i) := by
  obtain ⟨g, _, ho⟩ := Own.of_owned (h.rows i hi)
  exact ho.row (fun h0 => ⟨Nat.zero_le _, ho.lt h0⟩)
/-- one more span in a row -/
theorem TabF.push {c off i : Nat} {v' : Value} {s : Sp} (h : TabF T w lo g0 N (.slice (some ⟨g0, off, none⟩) N c) f R) (hi : i < N) (hx : Ext w w1) (hp : Put lo w1 (f i) w2 v')
    (hr : w2.ownsRow lo T 2 v' ((R i).length + 1) (cellsOf ((R i).length * 2) (spanCell (R i)) ++ cellsOf (1 * 2) (spanCell [s]))) :
    TabF T (w2.setCell ⟨g0, off + i, none⟩ v') lo g0 N (.slice (some ⟨g0, off, none⟩) N c) (fun t => if t = i then v' else f t) (fun t => if t = i then R i ++ [s] else R t) ∧
      Off (Blks g0 N f) w (w2.setCell ⟨g0, off + i, none⟩ v') ∧ ∀ k, Blks g0 N (fun t => if t = i then v' else f t) k → Blks g0 N f k ∨ w.heap.size ≤ k := by
  have hN : 0 < N := by omega
  have hxs := hx.size
  have hg0 := h.head.lt hN
  have hps := hp.1.size
  have hv' : ∀ g, v'.ownBlock = some g → (f i).ownBlock = some g ∨ w.heap.size ≤ g := fun g hg => by
    rcases hp.2 g hg with e | e
    · exact .inl e.2.2
    · exact .inr (by omega)
  have hlt : ∀ j, j < N → ∀ g, (f j).ownBlock = some g → g < w.heap.size := fun j hj g hg => ((h.rows j hj).lt g hg).2
  refine ⟨⟨?_, h.at0, fun j hj => ?_, fun j hj g hg => ?_, fun a b ha hb hab g hga => ?_⟩, ?_, ?_⟩
  · exact ((h.head.ext hx).off hp.1 (fun _ hh => h.ne i hi g0 hh.2.2 rfl)).set i v' (by omega)
  · by_cases e : j = i
    · subst e
      simp only [eq_self, if_true]
      refine ownsRow_setCell_other ?_ (fun hh => ?_) v'
      · rw [← spanCells_push', List.length_append]
        exact hr
      · rcases hv' _ hh with e | e
        · exact h.ne j hi _ e rfl
        · exact absurd hg0 (by show ¬ (_ < _); simpa using e)
    · simp only [if_neg e]
      refine ownsRow_setCell_other (ownsRow_off (row_ext (h.rows j hj) hx) hp.1 (fun g hg hh => h.dis j i hj hi e g hg hh.2.2)) (fun hh => h.ne j hj _ hh rfl) v'
  · by_cases e : j = i
    · subst e
      simp only [eq_self, if_true] at hg
      rcases hv' g hg with e | e
      · exact h.ne j hi g e
      · omega
    · simp only [if_neg e] at hg
      exact h.ne j hj g hg
  · by_cases e1 : a = i
    · have e2 : ¬ b = i := by omega
      simp only [if_pos e1] at hga
      simp only [if_neg e2]
      intro hgb
      rcases hv' g hga with e | e
      · exact h.dis i b hi hb (by omega) g e hgb
      · have := hlt b hb g hgb; omega
    · simp only [if_neg e1] at hga
      by_cases e2 : b = i
      · simp only [if_pos e2]
        intro hgb
        rcases hv' g hgb with e | e
        · exact h.dis a i ha hi e1 g hga e
        · have := hlt a ha g hga; omega
      · simp only [if_neg e2]
        exact h.dis a b ha hb hab g hga
  · have h1 : Off (Blks g0 N f) w w2 := (Off.of_ext hx).trans (hp.1.mono (fun k hk => .inr ⟨i, hi, hk.2.2⟩))
    exact h1.setCell (p := ⟨g0, off + i, none⟩) (.inl (.inl rfl)) v'
  · rintro k (rfl | ⟨j, hj, hg⟩)
    · exact .inl (.inl rfl)
    · by_cases e : j = i
      · simp only [if_pos e] at hg
        rcases hv' k hg with e2 | e2
        · exact .inl (.inr ⟨i, hi, e2⟩)
        · exact .inr e2
      · simp only [if_neg e] at hg
        exact .inl (.inr ⟨j, hj, hg⟩)
/-- another row in a row's place -/
theorem TabF.put {c off i b : Nat} {v' : Value} {l : List Sp} (h : TabF T w lo g0 N (.slice (some ⟨g0, off, none⟩) N c) f R) (hi : i < N) (hx : Ext w w1) (hb : w.heap.size ≤ b) (hlo : lo ≤ b)
    (hr : w1.ownsRow b T 2 v' l.length (cellsOf (l.length * 2) (spanCell l))) :
    TabF T (w1.setCell ⟨g0, off + i, none⟩ v') lo g0 N (.slice (some ⟨g0, off, none⟩) N c) (fun t => if t = i then v' else f t) (fun t => if t = i then l else R t) := by
  have hN : 0 < N := by omega
  have hxs := hx.size
  have hg0 := h.head.lt hN
  have hv' : ∀ g, v'.ownBlock = some g → w.heap.size ≤ g := fun g hg => Nat.le_trans hb (hr.lt g hg).1
  have hlt : ∀ j, j < N → ∀ g, (f j).ownBlock = some g → g < w.heap.size := fun j hj g hg => ((h.rows j hj).lt g hg).2
  refine ⟨(h.head.ext hx).set i v' (by omega), h.at0, fun j hj => ?_, fun j hj g hg => ?_, fun a b ha hb hab g hga => ?_⟩
  · by_cases e : j = i
    · simp only [if_pos e]
      exact ownsRow_setCell_other (ownsRow_mono hr hlo) (fun hh => absurd hg0 (by have := hv' _ hh; show ¬ (_ < _); simpa using this)) v'
    · simp only [if_neg e]
      exact ownsRow_setCell_other (row_ext (h.rows j hj) hx) (fun hh => h.ne j hj _ hh rfl) v'
  · by_cases e : j = i
    · simp only [if_pos e] at hg
      have := hv' g hg; omega
    · simp only [if_neg e] at hg
      exact h.ne j hj g hg
  · by_cases e1 : a = i
    · have e2 : ¬ b = i := by omega
      simp only [if_pos e1] at hga
      simp only [if_neg e2]
      intro hgb
      have := hv' g hga; have := hlt b hb g hgb; omega
    · simp only [if_neg e1] at hga
      by_cases e2 : b = i
      · simp only [if_pos e2]
        intro hgb
        have := hv' g hgb; have := hlt a ha g hga; omega
      · simp only [if_neg e2]
        exact h.dis a b ha hb hab g hga
/-- a table as sets of the call's own -/
theorem TabF.sets {l : List (List Sp)} (h : TabF T w lo g0 N v f R) (hl : l.length = N) (hr : ∀ i, i < N → setAt l i = R i) : OwnSets w lo w.heap.size v l := by
  subst hl
  have hex : ∀ i, ∃ g, i < l.length → (0 < (R i).length → (f i).ownBlock = some g ∧ lo ≤ g) ∧ Own w g 2 (f i) (R i).length (spanCell (R i)) := fun i => by
    by_cases hi : i < l.length
    · obtain ⟨g, a, b⟩ := Own.of_owned (h.rows i hi)
      exact ⟨g, fun _ => ⟨a, b⟩⟩
    · exact ⟨0, fun hh => absurd hh hi⟩
  refine ⟨g0, f, fun i => (hex i).choose, h.head, fun h0 => ⟨h.at0, h.head.lt h0⟩, fun i hi => ?_, fun i j hi hj hij h0 h1 e => ?_⟩
  · obtain ⟨a, b⟩ := (hex i).choose_spec hi
    rw [hr i hi]
    exact ⟨b, fun h0 => ⟨(a h0).2, b.lt h0, h.ne i hi _ (a h0).1⟩⟩
  · rw [hr i hi] at h0
    rw [hr j hj] at h1
    have a := (((hex i).choose_spec hi).1 h0).1
    have b := (((hex j).choose_spec hj).1 h1).1
    have e' : (hex i).choose = (hex j).choose := e
    exact h.dis i j hi hj hij _ a (by rw [e']; exact b)
end
end Go.Proofs.YtfajmlkiidnhlaaGreat
