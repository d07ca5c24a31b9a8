/- Texts merged (a claim holds at most sixty files): E, F, N, O. -/
import Derived.Test.YtfmnkojjkjkdeaaGreatDoorQ3A
/- The laws' own helpers for spans, links, numbers, networks: sz.. (a bound on the sizes), to.. (a copy in new memory), eq.. (equal data compare equal). -/
namespace Go.Proofs.YtfmnkojjkjkdeaaGreatDoor
set_option linter.unusedVariables false
set_option linter.unusedSimpArgs false
open Go.RowKit
attribute [local go_sem] cell_onto

/-- what sz.. returns: what is left; if anything is, P -/
def SzPost (left : Int) (p : Prop) (w : World) (e : Ending) (w' : World) : Prop := ∃ r : Int, e = .returned (.int .i64 r) ∧ Ext w w' ∧ -1 ≤ r ∧ r ≤ left ∧ (0 ≤ r → p)
/-- what to.. returns: a row in a new block -/
def NewRow (sz n : Nat) (f : Nat → Value) (w : World) (e : Ending) (w' : World) : Prop := ∃ v g, e = .returned v ∧ Ext w w' ∧ (0 < n → w.heap.size ≤ g) ∧ Own w' g sz v n f




/-- a network that the law's guard lets through -/
def Small (n : Net) : Prop := n.sets.length ≤ 1048576 ∧ n.links.length ≤ 1048576 ∧ ∀ i, i < n.sets.length → (setAt n.sets i).length ≤ 1048576


end Go.Proofs.YtfmnkojjkjkdeaaGreatDoor

/- The laws' own copies of slices (to..S) and comparisons (eq..). -/
namespace Go.Proofs.YtfmnkojjkjkdeaaGreatDoor
set_option linter.unusedVariables false
set_option linter.unusedSimpArgs false
open Go.RowKit
attribute [local go_sem] cell_onto




def NewSets (l : List (List Sp)) (w : World) (e : Ending) (w' : World) : Prop := ∃ v, e = .returned v ∧ Ext w w' ∧ OwnSets w' w.heap.size w'.heap.size v l
def NewNet (n : Net) (w : World) (e : Ending) (w' : World) : Prop := ∃ s k, e = .returned (.agg #[s, k]) ∧ Ext w w' ∧ OwnNet w' w.heap.size w'.heap.size (.agg #[s, k]) n







end Go.Proofs.YtfmnkojjkjkdeaaGreatDoor

/- The laws' own mark.. (writes consecutive numbers into all cells of a datum) and held.. (finds them there). -/
namespace Go.Proofs.YtfmnkojjkjkdeaaGreatDoor
set_option linter.unusedVariables false
set_option linter.unusedSimpArgs false
open Go.RowKit
attribute [local go_sem] cell_onto

def numCell (k : Int) (i : Nat) : Value := .int .i64 (k + i)
/-- what mark.. leaves of a row: its cells hold consecutive numbers; no other block has turned -/
def MarkPost (b sz : Nat) (v : Value) (n : Nat) (k : Int) (w : World) (e : Ending) (w' : World) : Prop := e = .returned (.int .i64 (k + n * sz)) ∧ Off (fun x => 0 < n ∧ x = b) w w' ∧ Own w' b sz v n (numCell k)






end Go.Proofs.YtfmnkojjkjkdeaaGreatDoor

/- The laws' own mark.. and held.. of slices of slices of spans, and of networks. -/
namespace Go.Proofs.YtfmnkojjkjkdeaaGreatDoor
set_option linter.unusedVariables false
set_option linter.unusedSimpArgs false
open Go.RowKit
attribute [local go_sem] cell_onto

/-- the cells of the first i sets -/
def preLen (l : List (List Sp)) : Nat → Nat
  | 0 => 0
  | i + 1 => preLen l i + (setAt l i).length * 2
theorem preLen_le (l : List (List Sp)) (h : ∀ i, i < l.length → (setAt l i).length ≤ 1048576) : ∀ i, i ≤ l.length → preLen l i ≤ i * 2097152
  | 0, _ => Nat.zero_le _
  | i + 1, hi => by
    have h1 := preLen_le l h i (by omega)
    have h2 := h i (by omega)
    unfold preLen
    omega
/-- sets whose cells hold consecutive numbers from k on -/
def MarkedSets (w : World) (lo hi : Nat) (v : Value) (l : List (List Sp)) (k : Int) : Prop :=
  ∃ f : Nat → Value, Row w lo hi 1 v l.length f ∧ ∀ i, i < l.length → Row w lo hi 2 (f i) (setAt l i).length (numCell (k + preLen l i))
def MarkedNet (w : World) (lo hi : Nat) (v : Value) (n : Net) (k : Int) : Prop :=
  ∃ s kk, v = .agg #[s, kk] ∧ MarkedSets w lo hi s n.sets k ∧ Row w lo hi 4 kk n.links.length (numCell (k + preLen n.sets n.sets.length))
/-- what mark.. leaves: cells in [lo, hi) turned, consecutive numbers stand in them (M), m is the next number -/
def MarkP (lo hi : Nat) (m : Int) (M : World → Prop) (w : World) (e : Ending) (w' : World) : Prop := e = .returned (.int .i64 m) ∧ Off (fun x => lo ≤ x ∧ x < hi) w w' ∧ M w'
/-- rows in memory of their own -/
def OwnInts (w : World) (lo hi : Nat) (v : Value) (l : List Int) : Prop := ∃ g, (0 < l.length → lo ≤ g ∧ g < hi) ∧ Own w g 1 v l.length (intCell l)
def OwnSpans (w : World) (lo hi : Nat) (v : Value) (l : List Sp) : Prop := ∃ g, (0 < l.length → lo ≤ g ∧ g < hi) ∧ Own w g 2 v l.length (spanCell l)
def MarkedInts (w : World) (lo hi : Nat) (v : Value) (l : List Int) (k : Int) : Prop := Row w lo hi 1 v l.length (numCell k)
def MarkedSpans (w : World) (lo hi : Nat) (v : Value) (l : List Sp) (k : Int) : Prop := Row w lo hi 2 v l.length (numCell k)
/-- a network's parts, read within [lo, hi) -/
def NetAt (w : World) (lo hi : Nat) (s k : Value) (n : Net) : Prop := Sets w lo hi s n.sets ∧ Links w lo hi k n.links
def netCells (n : Net) : Nat := preLen n.sets n.sets.length + n.links.length * 4
theorem netCells_le (n : Net) (h : Small n) : netCells n ≤ 2199027449856 := by
  have h1 := preLen_le n.sets h.2.2 _ (Nat.le_refl _)
  have h2 := h.1
  have h3 := h.2.1
  unfold netCells
  omega
section
variable {w w' : World} {lo hi lo' hi' : Nat} {v : Value} {k : Int}
theorem OwnInts.ext {l : List Int} (h : OwnInts w lo hi v l) (hx : Ext w w') (hh : hi ≤ w.heap.size) : OwnInts w' lo hi v l := by
  obtain ⟨g, h1, h2⟩ := h
  exact ⟨g, h1, h2.ext hx⟩
theorem OwnInts.off {S : Nat → Prop} {l : List Int} (h : OwnInts w lo hi v l) (hx : Off S w w') (hs : ∀ k, lo ≤ k → k < hi → ¬ S k) (hh : hi ≤ w.heap.size) : OwnInts w' lo hi v l := by
  obtain ⟨g, h1, h2⟩ := h
  exact ⟨g, h1, h2.off hx (fun hn => hs g (h1 hn).1 (h1 hn).2)⟩
theorem OwnInts.ints {l : List Int} (h : OwnInts w lo hi v l) : Ints w lo hi v l := by
  obtain ⟨g, h1, h2⟩ := h
  exact h2.row h1
theorem OwnInts.len {l : List Int} (h : OwnInts w lo hi v l) : ∃ A c, v = .slice A l.length c := by
  obtain ⟨g, h1, h2⟩ := h
  exact h2.len
theorem OwnSpans.ext {l : List Sp} (h : OwnSpans w lo hi v l) (hx : Ext w w') (hh : hi ≤ w.heap.size) : OwnSpans w' lo hi v l := by
  obtain ⟨g, h1, h2⟩ := h
  exact ⟨g, h1, h2.ext hx⟩
theorem OwnSpans.off {S : Nat → Prop} {l : List Sp} (h : OwnSpans w lo hi v l) (hx : Off S w w') (hs : ∀ k, lo ≤ k → k < hi → ¬ S k) (hh : hi ≤ w.heap.size) : OwnSpans w' lo hi v l := by
  obtain ⟨g, h1, h2⟩ := h
  exact ⟨g, h1, h2.off hx (fun hn => hs g (h1 hn).1 (h1 hn).2)⟩
theorem OwnSpans.spans {l : List Sp} (h : OwnSpans w lo hi v l) : Spans w lo hi v l := by
  obtain ⟨g, h1, h2⟩ := h
  exact h2.row h1
theorem OwnSpans.len {l : List Sp} (h : OwnSpans w lo hi v l) : ∃ A c, v = .slice A l.length c := by
  obtain ⟨g, h1, h2⟩ := h
  exact h2.len
theorem OwnNet.ext' {n : Net} (h : OwnNet w lo hi v n) (hx : Ext w w') (hh : hi ≤ w.heap.size) : OwnNet w' lo hi v n := h.ext hx
theorem OwnNet.off' {S : Nat → Prop} {n : Net} (h : OwnNet w lo hi v n) (hx : Off S w w') (hs : ∀ k, lo ≤ k → k < hi → ¬ S k) (hh : hi ≤ w.heap.size) : OwnNet w' lo hi v n := h.off hx hs
theorem NetAt.ext {s k : Value} {n : Net} (h : NetAt w lo hi s k n) (hx : Ext w w') (hh : hi ≤ w.heap.size) : NetAt w' lo hi s k n := ⟨h.1.ext hx hh, h.2.ext hx hh⟩
theorem NetAt.off {S : Nat → Prop} {s k : Value} {n : Net} (h : NetAt w lo hi s k n) (hx : Off S w w') (hs : ∀ k, lo ≤ k → k < hi → ¬ S k) (hh : hi ≤ w.heap.size) : NetAt w' lo hi s k n := ⟨h.1.off hx hs hh, Row.off h.2 hx hs hh⟩
theorem NetAt.up {s k : Value} {n : Net} (h : NetAt w lo hi s k n) (hh : hi ≤ w.heap.size) (hx : Ext w w') : NetIn w' s k n := NetIn.up ⟨h.1.mono (Nat.zero_le _) hh, h.2.mono (Nat.zero_le _) hh⟩ hx
theorem Ints.upAt {l : List Int} (h : Ints w lo hi v l) (hh : hi ≤ w.heap.size) (hx : Ext w w') : Ints w' 0 w'.heap.size v l := Ints.up (h.mono (Nat.zero_le _) hh) hx
theorem Spans.upAt {l : List Sp} (h : Spans w lo hi v l) (hh : hi ≤ w.heap.size) (hx : Ext w w') : Spans w' 0 w'.heap.size v l := Spans.up (h.mono (Nat.zero_le _) hh) hx
theorem OwnNet.at_ {s k : Value} {n : Net} (h : OwnNet w lo hi (.agg #[s, k]) n) : NetAt w lo hi s k n := by
  obtain ⟨s', k', e, h1, h2⟩ := h.net
  injection e with e
  injection e with e
  injection e with e1 e2
  injection e2 with e2 _
  subst e1 e2
  exact ⟨h1, h2⟩
theorem MarkedSets.ext {l : List (List Sp)} (h : MarkedSets w lo hi v l k) (hx : Ext w w') (hh : hi ≤ w.heap.size) : MarkedSets w' lo hi v l k := by
  obtain ⟨f, h1, h2⟩ := h
  exact ⟨f, h1.ext hx hh, fun i hi => (h2 i hi).ext hx hh⟩
theorem MarkedSets.off {S : Nat → Prop} {l : List (List Sp)} (h : MarkedSets w lo hi v l k) (hx : Off S w w') (hs : ∀ k, lo ≤ k → k < hi → ¬ S k) (hh : hi ≤ w.heap.size) : MarkedSets w' lo hi v l k := by
  obtain ⟨f, h1, h2⟩ := h
  exact ⟨f, h1.off hx hs hh, fun i hi => (h2 i hi).off hx hs hh⟩
theorem MarkedSets.mono {l : List (List Sp)} (h : MarkedSets w lo hi v l k) (h1 : lo' ≤ lo) (h2 : hi ≤ hi') : MarkedSets w lo' hi' v l k := by
  obtain ⟨f, h3, h4⟩ := h
  exact ⟨f, h3.mono h1 h2, fun i hi => (h4 i hi).mono h1 h2⟩
theorem MarkedNet.ext {n : Net} (h : MarkedNet w lo hi v n k) (hx : Ext w w') (hh : hi ≤ w.heap.size) : MarkedNet w' lo hi v n k := by
  obtain ⟨s, kk, e, h1, h2⟩ := h
  exact ⟨s, kk, e, h1.ext hx hh, h2.ext hx hh⟩
theorem MarkedNet.off {S : Nat → Prop} {n : Net} (h : MarkedNet w lo hi v n k) (hx : Off S w w') (hs : ∀ k, lo ≤ k → k < hi → ¬ S k) (hh : hi ≤ w.heap.size) : MarkedNet w' lo hi v n k := by
  obtain ⟨s, kk, e, h1, h2⟩ := h
  exact ⟨s, kk, e, h1.off hx hs hh, h2.off hx hs hh⟩
end





/-! ### mark.. and held.. of rows in memory of their own, said alike -/
end Go.Proofs.YtfmnkojjkjkdeaaGreatDoor
