/- Texts merged (a claim holds at most sixty files): M, O, P. -/
import Derived.Test.YtbddkmlfjghllaaGreatDoorW1H
import Derived.Test.YtbddkmlfjghllaaGreatDoorW1E
/- Contracts: the program's DoSolve; EmptyVariables. -/
namespace Go.Proofs.YtbddkmlfjghllaaGreatDoor
set_option linter.unusedVariables false
set_option linter.unusedSimpArgs false
open Go.RowKit
attribute [local go_sem] cell_onto

theorem NewRow.nil (sz : Nat) (f : Nat → Value) (w : World) : NewRow sz 0 f w (.returned (.slice none 0 0)) w :=
  ⟨_, 0, rfl, Ext.refl _, fun h => absurd h (by omega), Nat.zero_le _, none, 0, rfl, Nat.le_refl _, fun h => absurd h (by omega)⟩


/-- what a function returns that gives a list in new memory, and a code -/
def NewInts2 (l : List Int) (e0 : Int) (w : World) (e : Ending) (w' : World) : Prop :=
  ∃ v g, e = .returned (.tuple #[v, .int .i64 e0]) ∧ Ext w w' ∧ (0 < l.length → w.heap.size ≤ g) ∧ Own w' g 1 v l.length (intCell l)
theorem NewInts2.nil (e0 : Int) {w w' : World} (h : Ext w w') : NewInts2 [] e0 w (.returned (.tuple #[.slice none 0 0, .int .i64 e0])) w' :=
  ⟨_, 0, rfl, h, fun h => absurd h (by simp), Nat.zero_le _, none, 0, rfl, Nat.le_refl _, fun h => absurd h (by simp)⟩
noncomputable def emptyV (n : Net) : List Int := bif B (NetOk n) then emptyL n else []
theorem emptyV_ok {n : Net} (h : NetOk n) : emptyV n = emptyL n := by unfold emptyV; rw [B_true h]; rfl
theorem emptyV_no {n : Net} (h : ¬ NetOk n) : emptyV n = [] := by unfold emptyV; rw [B_false h]; rfl
theorem emptyV_small (n : Net) (h : Small n) : (emptyV n).length ≤ 1048576 := by
  by_cases hk : NetOk n
  · rw [emptyV_ok hk]
    exact Nat.le_trans (notTo_len _ _) h.1
  · rw [emptyV_no hk]
    exact Nat.zero_le _


end Go.Proofs.YtbddkmlfjghllaaGreatDoor

/- The laws' own mark.. and held.. of slices of slices of spans, and of networks. -/
namespace Go.Proofs.YtbddkmlfjghllaaGreatDoor
set_option linter.unusedVariables false
set_option linter.unusedSimpArgs false
open Go.RowKit
attribute [local go_sem] cell_onto

/-- the cells of the first i sets -/
def preLen (l : List (List Sp)) : Nat → Nat
  | 0 => 0
  | i + 1 => preLen l i + (setAt l i).length * 2
theorem preLen_le (l : List (List Sp)) (h : ∀ i, i < l.length → (setAt l i).length ≤ 1048576) : ∀ i, i ≤ l.length → preLen l i ≤ i * 2097152
  | 0, _ => Nat.zero_le _
  | i + 1, hi => by
    have h1 := preLen_le l h i (by omega)
    have h2 := h i (by omega)
    unfold preLen
    omega
/-- sets whose cells hold consecutive numbers from k on -/
def MarkedSets (w : World) (lo hi : Nat) (v : Value) (l : List (List Sp)) (k : Int) : Prop :=
  ∃ f : Nat → Value, Row w lo hi 1 v l.length f ∧ ∀ i, i < l.length → Row w lo hi 2 (f i) (setAt l i).length (numCell (k + preLen l i))
def MarkedNet (w : World) (lo hi : Nat) (v : Value) (n : Net) (k : Int) : Prop :=
  ∃ s kk, v = .agg #[s, kk] ∧ MarkedSets w lo hi s n.sets k ∧ Row w lo hi 4 kk n.links.length (numCell (k + preLen n.sets n.sets.length))
/-- what mark.. leaves: cells in [lo, hi) turned, consecutive numbers stand in them (M), m is the next number -/
def MarkP (lo hi : Nat) (m : Int) (M : World → Prop) (w : World) (e : Ending) (w' : World) : Prop := e = .returned (.int .i64 m) ∧ Off (fun x => lo ≤ x ∧ x < hi) w w' ∧ M w'
/-- rows in memory of their own -/
def OwnInts (w : World) (lo hi : Nat) (v : Value) (l : List Int) : Prop := ∃ g, (0 < l.length → lo ≤ g ∧ g < hi) ∧ Own w g 1 v l.length (intCell l)
def OwnSpans (w : World) (lo hi : Nat) (v : Value) (l : List Sp) : Prop := ∃ g, (0 < l.length → lo ≤ g ∧ g < hi) ∧ Own w g 2 v l.length (spanCell l)
def MarkedInts (w : World) (lo hi : Nat) (v : Value) (l : List Int) (k : Int) : Prop := Row w lo hi 1 v l.length (numCell k)
def MarkedSpans (w : World) (lo hi : Nat) (v : Value) (l : List Sp) (k : Int) : Prop := Row w lo hi 2 v l.length (numCell k)
/-- a network's parts, read within [lo, hi) -/
def NetAt (w : World) (lo hi : Nat) (s k : Value) (n : Net) : Prop := Sets w lo hi s n.sets ∧ Links w lo hi k n.links
def netCells (n : Net) : Nat := preLen n.sets n.sets.length + n.links.length * 4
theorem netCells_le (n : Net) (h : Small n) : netCells n ≤ 2199027449856 := by
  have h1 := preLen_le n.sets h.2.2 _ (Nat.le_refl _)
  have h2 := h.1
  have h3 := h.2.1
  unfold netCells
  omega
section
variable {w w' : World} {lo hi lo' hi' : Nat} {v : Value} {k : Int}
theorem OwnInts.ext {l : List Int} (h : OwnInts w lo hi v l) (hx : Ext w w') (hh : hi ≤ w.heap.size) : OwnInts w' lo hi v l := by
  obtain ⟨g, h1, h2⟩ := h
  exact ⟨g, h1, h2.ext hx⟩
theorem OwnInts.off {S : Nat → Prop} {l : List Int} (h : OwnInts w lo hi v l) (hx : Off S w w') (hs : ∀ k, lo ≤ k → k < hi → ¬ S k) (hh : hi ≤ w.heap.size) : OwnInts w' lo hi v l := by
  obtain ⟨g, h1, h2⟩ := h
  exact ⟨g, h1, h2.off hx (fun hn => hs g (h1 hn).1 (h1 hn).2)⟩
theorem OwnInts.ints {l : List Int} (h : OwnInts w lo hi v l) : Ints w lo hi v l := by
  obtain ⟨g, h1, h2⟩ := h
  exact h2.row h1
theorem OwnInts.len {l : List Int} (h : OwnInts w lo hi v l) : ∃ A c, v = .slice A l.length c := by
  obtain ⟨g, h1, h2⟩ := h
  exact h2.len
theorem OwnSpans.ext {l : List Sp} (h : OwnSpans w lo hi v l) (hx : Ext w w') (hh : hi ≤ w.heap.size) : OwnSpans w' lo hi v l := by
  obtain ⟨g, h1, h2⟩ := h
  exact ⟨g, h1, h2.ext hx⟩
theorem OwnSpans.off {S : Nat → Prop} {l : List Sp} (h : OwnSpans w lo hi v l) (hx : Off S w w') (hs : ∀ k, lo ≤ k → k < hi → ¬ S k) (hh : hi ≤ w.heap.size) : OwnSpans w' lo hi v l := by
  obtain ⟨g, h1, h2⟩ := h
  exact ⟨g, h1, h2.off hx (fun hn => hs g (h1 hn).1 (h1 hn).2)⟩
theorem OwnSpans.spans {l : List Sp} (h : OwnSpans w lo hi v l) : Spans w lo hi v l := by
  obtain ⟨g, h1, h2⟩ := h
  exact h2.row h1
theorem OwnSpans.len {l : List Sp} (h : OwnSpans w lo hi v l) : ∃ A c, v = .slice A l.length c := by
  obtain ⟨g, h1, h2⟩ := h
  exact h2.len
theorem OwnNet.ext' {n : Net} (h : OwnNet w lo hi v n) (hx : Ext w w') (hh : hi ≤ w.heap.size) : OwnNet w' lo hi v n := h.ext hx
theorem OwnNet.off' {S : Nat → Prop} {n : Net} (h : OwnNet w lo hi v n) (hx : Off S w w') (hs : ∀ k, lo ≤ k → k < hi → ¬ S k) (hh : hi ≤ w.heap.size) : OwnNet w' lo hi v n := h.off hx hs
theorem NetAt.ext {s k : Value} {n : Net} (h : NetAt w lo hi s k n) (hx : Ext w w') (hh : hi ≤ w.heap.size) : NetAt w' lo hi s k n := ⟨h.1.ext hx hh, h.2.ext hx hh⟩
theorem NetAt.off {S : Nat → Prop} {s k : Value} {n : Net} (h : NetAt w lo hi s k n) (hx : Off S w w') (hs : ∀ k, lo ≤ k → k < hi → ¬ S k) (hh : hi ≤ w.heap.size) : NetAt w' lo hi s k n := ⟨h.1.off hx hs hh, Row.off h.2 hx hs hh⟩
theorem NetAt.up {s k : Value} {n : Net} (h : NetAt w lo hi s k n) (hh : hi ≤ w.heap.size) (hx : Ext w w') : NetIn w' s k n := NetIn.up ⟨h.1.mono (Nat.zero_le _) hh, h.2.mono (Nat.zero_le _) hh⟩ hx
theorem Ints.upAt {l : List Int} (h : Ints w lo hi v l) (hh : hi ≤ w.heap.size) (hx : Ext w w') : Ints w' 0 w'.heap.size v l := Ints.up (h.mono (Nat.zero_le _) hh) hx
theorem Spans.upAt {l : List Sp} (h : Spans w lo hi v l) (hh : hi ≤ w.heap.size) (hx : Ext w w') : Spans w' 0 w'.heap.size v l := Spans.up (h.mono (Nat.zero_le _) hh) hx
theorem OwnNet.at_ {s k : Value} {n : Net} (h : OwnNet w lo hi (.agg #[s, k]) n) : NetAt w lo hi s k n := by
  obtain ⟨s', k', e, h1, h2⟩ := h.net
  injection e with e
  injection e with e
  injection e with e1 e2
  injection e2 with e2 _
  subst e1 e2
  exact ⟨h1, h2⟩
theorem MarkedSets.ext {l : List (List Sp)} (h : MarkedSets w lo hi v l k) (hx : Ext w w') (hh : hi ≤ w.heap.size) : MarkedSets w' lo hi v l k := by
  obtain ⟨f, h1, h2⟩ := h
  exact ⟨f, h1.ext hx hh, fun i hi => (h2 i hi).ext hx hh⟩
theorem MarkedSets.off {S : Nat → Prop} {l : List (List Sp)} (h : MarkedSets w lo hi v l k) (hx : Off S w w') (hs : ∀ k, lo ≤ k → k < hi → ¬ S k) (hh : hi ≤ w.heap.size) : MarkedSets w' lo hi v l k := by
  obtain ⟨f, h1, h2⟩ := h
  exact ⟨f, h1.off hx hs hh, fun i hi => (h2 i hi).off hx hs hh⟩
theorem MarkedSets.mono {l : List (List Sp)} (h : MarkedSets w lo hi v l k) (h1 : lo' ≤ lo) (h2 : hi ≤ hi') : MarkedSets w lo' hi' v l k := by
  obtain ⟨f, h3, h4⟩ := h
  exact ⟨f, h3.mono h1 h2, fun i hi => (h4 i hi).mono h1 h2⟩
theorem MarkedNet.ext {n : Net} (h : MarkedNet w lo hi v n k) (hx : Ext w w') (hh : hi ≤ w.heap.size) : MarkedNet w' lo hi v n k := by
  obtain ⟨s, kk, e, h1, h2⟩ := h
  exact ⟨s, kk, e, h1.ext hx hh, h2.ext hx hh⟩
theorem MarkedNet.off {S : Nat → Prop} {n : Net} (h : MarkedNet w lo hi v n k) (hx : Off S w w') (hs : ∀ k, lo ≤ k → k < hi → ¬ S k) (hh : hi ≤ w.heap.size) : MarkedNet w' lo hi v n k := by
  obtain ⟨s, kk, e, h1, h2⟩ := h
  exact ⟨s, kk, e, h1.off hx hs hh, h2.off hx hs hh⟩
end





/-! ### mark.. and held.. of rows in memory of their own, said alike -/
end Go.Proofs.YtbddkmlfjghllaaGreatDoor

/- Contracts: the program's and the reference's BrokenLinks. -/
namespace Go.Proofs.YtbddkmlfjghllaaGreatDoor
set_option linter.unusedVariables false
set_option linter.unusedSimpArgs false
open Go.RowKit
attribute [local go_sem] cell_onto

noncomputable def brokenV (n : Net) (ds : List Int) : List Int := bif B (dayE n ds = 0) then brokenL n ds else []
theorem brokenV_ok {n : Net} {ds : List Int} (h : dayE n ds = 0) : brokenV n ds = brokenL n ds := by unfold brokenV; rw [B_true h]; rfl
theorem brokenV_no {n : Net} {ds : List Int} (h : ¬ dayE n ds = 0) : brokenV n ds = [] := by unfold brokenV; rw [B_false h]; rfl
theorem brokenV_small (n : Net) (ds : List Int) (h : Small n) : (brokenV n ds).length ≤ 1048576 := by
  by_cases hk : dayE n ds = 0
  · rw [brokenV_ok hk]
    exact Nat.le_trans (notTo_len _ _) h.2.1
  · rw [brokenV_no hk]
    exact Nat.zero_le _


end Go.Proofs.YtbddkmlfjghllaaGreatDoor
