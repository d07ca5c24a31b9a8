/- Texts merged (a claim holds at most sixty files): N, O, G. -/
import Derived.Test.YtfajmlkiidnhlaaQ3D
import Derived.Test.YtfajmlkiidnhlaaQ3Lib
/- The laws' own mark.. (writes consecutive numbers into all cells of a datum) and held.. (finds them there). -/
namespace Go.Proofs.Ytfajmlkiidnhlaa
set_option linter.unusedVariables false
set_option linter.unusedSimpArgs false
open Go.RowKit
attribute [local go_sem] cell_onto

def numCell (k : Int) (i : Nat) : Value := .int .i64 (k + i)
/-- what mark.. leaves of a row: its cells hold consecutive numbers; no other block has turned -/
def MarkPost (b sz : Nat) (v : Value) (n : Nat) (k : Int) (w : World) (e : Ending) (w' : World) : Prop := e = .returned (.int .i64 (k + n * sz)) ∧ Off (fun x => 0 < n ∧ x = b) w w' ∧ Own w' b sz v n (numCell k)

set_option maxHeartbeats 1000000 in
theorem laws_markSpanS (v : Value) (b n : Nat) (f0 : Nat → Value) (k : Int) (w : World) (h : Own w b 2 v n f0) (hn : n ≤ 1048576) (hk0 : 0 ≤ k) (hk : k ≤ 1125899906842624) :
    Calls Try.prog 79 #[v, .int .i64 k] w (MarkPost b 2 v n k w) := by
  obtain ⟨A, c, rfl⟩ := h.len
  have H := Lib.hid h
  clear h
  go_enter Try.func79, Try.ntmps79
  go_wp2_with fail
  go_loopg [1, 5] n (fun q t i wr => ∃ (j : Nat) (f : Nat → Value), j + q = n ∧ i = .int .i64 j ∧ t = .int .i64 (k + (j : Int) * 2) ∧ Off (fun x => 0 < n ∧ x = b) w wr ∧ Own wr b 2 (.slice A n c) n f ∧ ∀ i, i < j * 2 → f i = numCell k i)
  case atStart => exact ⟨0, f0, by omega, rfl, by simp, Off.refl _ _, H.out, fun i hi => absurd hi (by omega)⟩
  case round =>
    obtain ⟨j, f, hj, rfl, rfl, hx, hown, hok⟩ := hrel
    have Hok := Lib.hid hok
    clear hok
    by_cases hlt : j < n
    · obtain ⟨off, rfl, hb, hc⟩ := hown.at_ (by omega)
      have Hown := Lib.hid hown
      clear hown
      have c0 := hc (j * 2 + 0) (by omega)
      have c0a : wr.cell? ⟨b, off + j * 2, none⟩ = some (f (j * 2 + 0)) := by have := c0.1; simpa only [Nat.add_assoc, Nat.add_zero, Nat.mul_one] using this
      have c0b : wr.frozen? ⟨b, off + j * 2, none⟩ = false := by have := c0.2; simpa only [Nat.add_assoc, Nat.add_zero, Nat.mul_one] using this
      have c1 := hc (j * 2 + 1) (by omega)
      have c1a : wr.cell? ⟨b, off + j * 2 + 1, none⟩ = some (f (j * 2 + 1)) := by have := c1.1; simpa only [Nat.add_assoc, Nat.add_zero, Nat.mul_one] using this
      have c1b : wr.frozen? ⟨b, off + j * 2 + 1, none⟩ = false := by have := c1.2; simpa only [Nat.add_assoc, Nat.add_zero, Nat.mul_one] using this
      clear hc c0 c1
      go_wp2_with fail
      go_roundg (n - (j + 1))
      case measure => omega
      case rel =>
        refine ⟨j + 1, _, by omega, by go_num, ?_, ?_, (by have := (Own.set (Own.set Hown.out (j * 2) (.int .i64 (k + (j : Int) * 2)) (by omega)) (j * 2 + 1) (.int .i64 (k + (j : Int) * 2 + 1)) (by omega)); simpa only [Nat.add_assoc] using this), fun i hi => ?_⟩
        · congr 1; simp; omega
        · repeat (first | exact hx | refine Off.setCell ?_ (.inl ⟨by omega, rfl⟩) _)
        by_cases e1 : i = j * 2 + 1
        · rw [if_pos e1]; unfold numCell; congr 1; omega
        rw [if_neg e1]
        by_cases e0 : i = j * 2
        · rw [if_pos e0]; unfold numCell; congr 1; omega
        rw [if_neg e0]
        exact Hok.out i (by omega)
    · obtain rfl : j = n := by omega
      have Hown := Lib.hid hown
      clear hown
      go_wp2_with fail
      go_ret
      exact ⟨by first | rfl | simp, hx, Hown.out.congr Hok.out⟩

set_option maxHeartbeats 1000000 in
theorem laws_heldSpanS (v : Value) (lo hi n : Nat) (k : Int) (w : World) (h : Row w lo hi 2 v n (numCell k)) (hh : hi ≤ w.heap.size) (hn : n ≤ 1048576) (hk0 : 0 ≤ k) (hk : k ≤ 1125899906842624) :
    Calls Try.prog 80 #[v, .int .i64 k] w (RetX (.int .i64 (k + n * 2)) w) := by
  obtain ⟨_, A, c, rfl, hc0, hr⟩ := h
  have Hr := Lib.hid hr
  clear hr
  go_enter Try.func80, Try.ntmps80
  go_wp2_with fail
  go_loopg [1, 5] n (fun q t i wr => ∃ (j : Nat), j + q = n ∧ i = .int .i64 j ∧ t = .int .i64 (k + (j : Int) * 2) ∧ Ext w wr)
  case atStart => exact ⟨0, by omega, rfl, by simp, (by repeat (first | exact Ext.refl _ | assumption | refine Ext.alloc ?_ _ | refine Ext.drew ?_ | refine Ext.drewN ?_ _ | refine Ext.setCell ?_ (by first | (simp; done) | (simp; omega) | omega) _ | refine Ext.trans ?_ (by assumption)))⟩
  case round =>
    obtain ⟨j, hj, rfl, rfl, hx⟩ := hrel
    by_cases hlt : j < n
    · obtain ⟨b, off, rfl, _, hb', hc⟩ := Hr.out (by omega)
      have hb : b < w.heap.size := by omega
      have c0 : wr.cell? ⟨b, off + j * 2, none⟩ = some (.int .i64 (k + (j : Int) * 2)) := by have := (hx.cell (p := ⟨b, off + (j * 2 + 0), none⟩) hb).trans (hc (j * 2 + 0) (by omega)); (try simp only [Nat.add_zero, ← Nat.add_assoc] at this); rw [this]; unfold numCell; congr 2; (try simp); (try omega)
      have c1 : wr.cell? ⟨b, off + j * 2 + 1, none⟩ = some (.int .i64 (k + (j : Int) * 2 + 1)) := by have := (hx.cell (p := ⟨b, off + (j * 2 + 1), none⟩) hb).trans (hc (j * 2 + 1) (by omega)); (try simp only [Nat.add_zero, ← Nat.add_assoc] at this); rw [this]; unfold numCell; congr 2; (try simp); (try omega)
      clear hc
      go_wp2_with fail
      go_roundg (n - (j + 1))
      case measure => omega
      case rel => exact ⟨j + 1, by omega, by go_num, by congr 1; simp; omega, (by repeat (first | exact Ext.refl _ | assumption | refine Ext.alloc ?_ _ | refine Ext.drew ?_ | refine Ext.drewN ?_ _ | refine Ext.setCell ?_ (by first | (simp; done) | (simp; omega) | omega) _ | refine Ext.trans ?_ (by assumption)))⟩
    · obtain rfl : j = n := by omega
      go_wp2_with fail
      go_ret
      exact ⟨rfl, (by repeat (first | exact Ext.refl _ | assumption | refine Ext.alloc ?_ _ | refine Ext.drew ?_ | refine Ext.drewN ?_ _ | refine Ext.setCell ?_ (by first | (simp; done) | (simp; omega) | omega) _ | refine Ext.trans ?_ (by assumption)))⟩

set_option maxHeartbeats 1000000 in
theorem laws_markLinkS (v : Value) (b n : Nat) (f0 : Nat → Value) (k : Int) (w : World) (h : Own w b 4 v n f0) (hn : n ≤ 1048576) (hk0 : 0 ≤ k) (hk : k ≤ 1125899906842624) :
    Calls Try.prog 166 #[v, .int .i64 k] w (MarkPost b 4 v n k w) := by
  obtain ⟨A, c, rfl⟩ := h.len
  have H := Lib.hid h
  clear h
  go_enter Try.func166, Try.ntmps166
  go_wp2_with fail
  go_loopg [1, 5] n (fun q t i wr => ∃ (j : Nat) (f : Nat → Value), j + q = n ∧ i = .int .i64 j ∧ t = .int .i64 (k + (j : Int) * 4) ∧ Off (fun x => 0 < n ∧ x = b) w wr ∧ Own wr b 4 (.slice A n c) n f ∧ ∀ i, i < j * 4 → f i = numCell k i)
  case atStart => exact ⟨0, f0, by omega, rfl, by simp, Off.refl _ _, H.out, fun i hi => absurd hi (by omega)⟩
  case round =>
    obtain ⟨j, f, hj, rfl, rfl, hx, hown, hok⟩ := hrel
    have Hok := Lib.hid hok
    clear hok
    by_cases hlt : j < n
    · obtain ⟨off, rfl, hb, hc⟩ := hown.at_ (by omega)
      have Hown := Lib.hid hown
      clear hown
      have c0 := hc (j * 4 + 0) (by omega)
      have c0a : wr.cell? ⟨b, off + j * 4, none⟩ = some (f (j * 4 + 0)) := by have := c0.1; simpa only [Nat.add_assoc, Nat.add_zero, Nat.mul_one] using this
      have c0b : wr.frozen? ⟨b, off + j * 4, none⟩ = false := by have := c0.2; simpa only [Nat.add_assoc, Nat.add_zero, Nat.mul_one] using this
      have c1 := hc (j * 4 + 1) (by omega)
      have c1a : wr.cell? ⟨b, off + j * 4 + 1, none⟩ = some (f (j * 4 + 1)) := by have := c1.1; simpa only [Nat.add_assoc, Nat.add_zero, Nat.mul_one] using this
      have c1b : wr.frozen? ⟨b, off + j * 4 + 1, none⟩ = false := by have := c1.2; simpa only [Nat.add_assoc, Nat.add_zero, Nat.mul_one] using this
      have c2 := hc (j * 4 + 2) (by omega)
      have c2a : wr.cell? ⟨b, off + j * 4 + 2, none⟩ = some (f (j * 4 + 2)) := by have := c2.1; simpa only [Nat.add_assoc, Nat.add_zero, Nat.mul_one] using this
      have c2b : wr.frozen? ⟨b, off + j * 4 + 2, none⟩ = false := by have := c2.2; simpa only [Nat.add_assoc, Nat.add_zero, Nat.mul_one] using this
      have c3 := hc (j * 4 + 3) (by omega)
      have c3a : wr.cell? ⟨b, off + j * 4 + 3, none⟩ = some (f (j * 4 + 3)) := by have := c3.1; simpa only [Nat.add_assoc, Nat.add_zero, Nat.mul_one] using this
      have c3b : wr.frozen? ⟨b, off + j * 4 + 3, none⟩ = false := by have := c3.2; simpa only [Nat.add_assoc, Nat.add_zero, Nat.mul_one] using this
      clear hc c0 c1 c2 c3
      go_wp2_with fail
      go_roundg (n - (j + 1))
      case measure => omega
      case rel =>
        refine ⟨j + 1, _, by omega, by go_num, ?_, ?_, (by have := (Own.set (Own.set (Own.set (Own.set Hown.out (j * 4) (.int .i64 (k + (j : Int) * 4)) (by omega)) (j * 4 + 1) (.int .i64 (k + (j : Int) * 4 + 1)) (by omega)) (j * 4 + 2) (.int .i64 (k + (j : Int) * 4 + 1 + 1)) (by omega)) (j * 4 + 3) (.int .i64 (k + (j : Int) * 4 + 1 + 1 + 1)) (by omega)); simpa only [Nat.add_assoc] using this), fun i hi => ?_⟩
        · congr 1; simp; omega
        · repeat (first | exact hx | refine Off.setCell ?_ (.inl ⟨by omega, rfl⟩) _)
        by_cases e3 : i = j * 4 + 3
        · rw [if_pos e3]; unfold numCell; congr 1; omega
        rw [if_neg e3]
        by_cases e2 : i = j * 4 + 2
        · rw [if_pos e2]; unfold numCell; congr 1; omega
        rw [if_neg e2]
        by_cases e1 : i = j * 4 + 1
        · rw [if_pos e1]; unfold numCell; congr 1; omega
        rw [if_neg e1]
        by_cases e0 : i = j * 4
        · rw [if_pos e0]; unfold numCell; congr 1; omega
        rw [if_neg e0]
        exact Hok.out i (by omega)
    · obtain rfl : j = n := by omega
      have Hown := Lib.hid hown
      clear hown
      go_wp2_with fail
      go_ret
      exact ⟨by first | rfl | simp, hx, Hown.out.congr Hok.out⟩

set_option maxHeartbeats 1000000 in
theorem laws_heldLinkS (v : Value) (lo hi n : Nat) (k : Int) (w : World) (h : Row w lo hi 4 v n (numCell k)) (hh : hi ≤ w.heap.size) (hn : n ≤ 1048576) (hk0 : 0 ≤ k) (hk : k ≤ 1125899906842624) :
    Calls Try.prog 168 #[v, .int .i64 k] w (RetX (.int .i64 (k + n * 4)) w) := by
  obtain ⟨_, A, c, rfl, hc0, hr⟩ := h
  have Hr := Lib.hid hr
  clear hr
  go_enter Try.func168, Try.ntmps168
  go_wp2_with fail
  go_loopg [1, 5] n (fun q t i wr => ∃ (j : Nat), j + q = n ∧ i = .int .i64 j ∧ t = .int .i64 (k + (j : Int) * 4) ∧ Ext w wr)
  case atStart => exact ⟨0, by omega, rfl, by simp, (by repeat (first | exact Ext.refl _ | assumption | refine Ext.alloc ?_ _ | refine Ext.drew ?_ | refine Ext.drewN ?_ _ | refine Ext.setCell ?_ (by first | (simp; done) | (simp; omega) | omega) _ | refine Ext.trans ?_ (by assumption)))⟩
  case round =>
    obtain ⟨j, hj, rfl, rfl, hx⟩ := hrel
    by_cases hlt : j < n
    · obtain ⟨b, off, rfl, _, hb', hc⟩ := Hr.out (by omega)
      have hb : b < w.heap.size := by omega
      have c0 : wr.cell? ⟨b, off + j * 4, none⟩ = some (.int .i64 (k + (j : Int) * 4)) := by have := (hx.cell (p := ⟨b, off + (j * 4 + 0), none⟩) hb).trans (hc (j * 4 + 0) (by omega)); (try simp only [Nat.add_zero, ← Nat.add_assoc] at this); rw [this]; unfold numCell; congr 2; (try simp); (try omega)
      have c1 : wr.cell? ⟨b, off + j * 4 + 1, none⟩ = some (.int .i64 (k + (j : Int) * 4 + 1)) := by have := (hx.cell (p := ⟨b, off + (j * 4 + 1), none⟩) hb).trans (hc (j * 4 + 1) (by omega)); (try simp only [Nat.add_zero, ← Nat.add_assoc] at this); rw [this]; unfold numCell; congr 2; (try simp); (try omega)
      have c2 : wr.cell? ⟨b, off + j * 4 + 2, none⟩ = some (.int .i64 (k + (j : Int) * 4 + 2)) := by have := (hx.cell (p := ⟨b, off + (j * 4 + 2), none⟩) hb).trans (hc (j * 4 + 2) (by omega)); (try simp only [Nat.add_zero, ← Nat.add_assoc] at this); rw [this]; unfold numCell; congr 2; (try simp); (try omega)
      have c3 : wr.cell? ⟨b, off + j * 4 + 3, none⟩ = some (.int .i64 (k + (j : Int) * 4 + 3)) := by have := (hx.cell (p := ⟨b, off + (j * 4 + 3), none⟩) hb).trans (hc (j * 4 + 3) (by omega)); (try simp only [Nat.add_zero, ← Nat.add_assoc] at this); rw [this]; unfold numCell; congr 2; (try simp); (try omega)
      clear hc
      go_wp2_with fail
      go_roundg (n - (j + 1))
      case measure => omega
      case rel => exact ⟨j + 1, by omega, by go_num, by congr 1; simp; omega, (by repeat (first | exact Ext.refl _ | assumption | refine Ext.alloc ?_ _ | refine Ext.drew ?_ | refine Ext.drewN ?_ _ | refine Ext.setCell ?_ (by first | (simp; done) | (simp; omega) | omega) _ | refine Ext.trans ?_ (by assumption)))⟩
    · obtain rfl : j = n := by omega
      go_wp2_with fail
      go_ret
      exact ⟨rfl, (by repeat (first | exact Ext.refl _ | assumption | refine Ext.alloc ?_ _ | refine Ext.drew ?_ | refine Ext.drewN ?_ _ | refine Ext.setCell ?_ (by first | (simp; done) | (simp; omega) | omega) _ | refine Ext.trans ?_ (by assumption)))⟩


end Go.Proofs.Ytfajmlkiidnhlaa

/- The laws' own mark.. and held.. of slices of slices of spans, and of networks. -/
namespace Go.Proofs.Ytfajmlkiidnhlaa
set_option linter.unusedVariables false
set_option linter.unusedSimpArgs false
open Go.RowKit
attribute [local go_sem] cell_onto

/-- the cells of the first i sets -/
def preLen (l : List (List Sp)) : Nat → Nat
  | 0 => 0
  | i + 1 => preLen l i + (setAt l i).length * 2
theorem preLen_le (l : List (List Sp)) (h : ∀ i, i < l.length → (setAt l i).length ≤ 1048576) : ∀ i, i ≤ l.length → preLen l i ≤ i * 2097152
  | 0, _ => Nat.zero_le _
  | i + 1, hi => by
    have h1 := preLen_le l h i (by omega)
    have h2 := h i (by omega)
    unfold preLen
    omega
/-- sets whose cells hold consecutive numbers from k on -/
def MarkedSets (w : World) (lo hi : Nat) (v : Value) (l : List (List Sp)) (k : Int) : Prop :=
  ∃ f : Nat → Value, Row w lo hi 1 v l.length f ∧ ∀ i, i < l.length → Row w lo hi 2 (f i) (setAt l i).length (numCell (k + preLen l i))
def MarkedNet (w : World) (lo hi : Nat) (v : Value) (n : Net) (k : Int) : Prop :=
  ∃ s kk, v = .agg #[s, kk] ∧ MarkedSets w lo hi s n.sets k ∧ Row w lo hi 4 kk n.links.length (numCell (k + preLen n.sets n.sets.length))
/-- what mark.. leaves: cells in [lo, hi) turned, consecutive numbers stand in them (M), m is the next number -/
def MarkP (lo hi : Nat) (m : Int) (M : World → Prop) (w : World) (e : Ending) (w' : World) : Prop := e = .returned (.int .i64 m) ∧ Off (fun x => lo ≤ x ∧ x < hi) w w' ∧ M w'
/-- rows in memory of their own -/
def OwnInts (w : World) (lo hi : Nat) (v : Value) (l : List Int) : Prop := ∃ g, (0 < l.length → lo ≤ g ∧ g < hi) ∧ Own w g 1 v l.length (intCell l)
def OwnSpans (w : World) (lo hi : Nat) (v : Value) (l : List Sp) : Prop := ∃ g, (0 < l.length → lo ≤ g ∧ g < hi) ∧ Own w g 2 v l.length (spanCell l)
def MarkedInts (w : World) (lo hi : Nat) (v : Value) (l : List Int) (k : Int) : Prop := Row w lo hi 1 v l.length (numCell k)
def MarkedSpans (w : World) (lo hi : Nat) (v : Value) (l : List Sp) (k : Int) : Prop := Row w lo hi 2 v l.length (numCell k)
/-- a network's parts, read within [lo, hi) -/
def NetAt (w : World) (lo hi : Nat) (s k : Value) (n : Net) : Prop := Sets w lo hi s n.sets ∧ Links w lo hi k n.links
def netCells (n : Net) : Nat := preLen n.sets n.sets.length + n.links.length * 4
theorem netCells_le (n : Net) (h : Small n) : netCells n ≤ 2199027449856 := by
  have h1 := preLen_le n.sets h.2.2 _ (Nat.le_refl _)
  have h2 := h.1
  have h3 := h.2.1
  unfold netCells
  omega
section
variable {w w' : World} {lo hi lo' hi' : Nat} {v : Value} {k : Int}
theorem OwnInts.ext {l : List Int} (h : OwnInts w lo hi v l) (hx : Ext w w') (hh : hi ≤ w.heap.size) : OwnInts w' lo hi v l := by
  obtain ⟨g, h1, h2⟩ := h
  exact ⟨g, h1, h2.ext hx⟩
theorem OwnInts.off {S : Nat → Prop} {l : List Int} (h : OwnInts w lo hi v l) (hx : Off S w w') (hs : ∀ k, lo ≤ k → k < hi → ¬ S k) (hh : hi ≤ w.heap.size) : OwnInts w' lo hi v l := by
  obtain ⟨g, h1, h2⟩ := h
  exact ⟨g, h1, h2.off hx (fun hn => hs g (h1 hn).1 (h1 hn).2)⟩
theorem OwnInts.ints {l : List Int} (h : OwnInts w lo hi v l) : Ints w lo hi v l := by
  obtain ⟨g, h1, h2⟩ := h
  exact h2.row h1
theorem OwnInts.len {l : List Int} (h : OwnInts w lo hi v l) : ∃ A c, v = .slice A l.length c := by
  obtain ⟨g, h1, h2⟩ := h
  exact h2.len
theorem OwnSpans.ext {l : List Sp} (h : OwnSpans w lo hi v l) (hx : Ext w w') (hh : hi ≤ w.heap.size) : OwnSpans w' lo hi v l := by
  obtain ⟨g, h1, h2⟩ := h
  exact ⟨g, h1, h2.ext hx⟩
theorem OwnSpans.off {S : Nat → Prop} {l : List Sp} (h : OwnSpans w lo hi v l) (hx : Off S w w') (hs : ∀ k, lo ≤ k → k < hi → ¬ S k) (hh : hi ≤ w.heap.size) : OwnSpans w' lo hi v l := by
  obtain ⟨g, h1, h2⟩ := h
  exact ⟨g, h1, h2.off hx (fun hn => hs g (h1 hn).1 (h1 hn).2)⟩
theorem OwnSpans.spans {l : List Sp} (h : OwnSpans w lo hi v l) : Spans w lo hi v l := by
  obtain ⟨g, h1, h2⟩ := h
  exact h2.row h1
theorem OwnSpans.len {l : List Sp} (h : OwnSpans w lo hi v l) : ∃ A c, v = .slice A l.length c := by
  obtain ⟨g, h1, h2⟩ := h
  exact h2.len
theorem OwnNet.ext' {n : Net} (h : OwnNet w lo hi v n) (hx : Ext w w') (hh : hi ≤ w.heap.size) : OwnNet w' lo hi v n := h.ext hx
theorem OwnNet.off' {S : Nat → Prop} {n : Net} (h : OwnNet w lo hi v n) (hx : Off S w w') (hs : ∀ k, lo ≤ k → k < hi → ¬ S k) (hh : hi ≤ w.heap.size) : OwnNet w' lo hi v n := h.off hx hs
theorem NetAt.ext {s k : Value} {n : Net} (h : NetAt w lo hi s k n) (hx : Ext w w') (hh : hi ≤ w.heap.size) : NetAt w' lo hi s k n := ⟨h.1.ext hx hh, h.2.ext hx hh⟩
theorem NetAt.off {S : Nat → Prop} {s k : Value} {n : Net} (h : NetAt w lo hi s k n) (hx : Off S w w') (hs : ∀ k, lo ≤ k → k < hi → ¬ S k) (hh : hi ≤ w.heap.size) : NetAt w' lo hi s k n := ⟨h.1.off hx hs hh, Row.off h.2 hx hs hh⟩
theorem NetAt.up {s k : Value} {n : Net} (h : NetAt w lo hi s k n) (hh : hi ≤ w.heap.size) (hx : Ext w w') : NetIn w' s k n := NetIn.up ⟨h.1.mono (Nat.zero_le _) hh, h.2.mono (Nat.zero_le _) hh⟩ hx
theorem Ints.upAt {l : List Int} (h : Ints w lo hi v l) (hh : hi ≤ w.heap.size) (hx : Ext w w') : Ints w' 0 w'.heap.size v l := Ints.up (h.mono (Nat.zero_le _) hh) hx
theorem Spans.upAt {l : List Sp} (h : Spans w lo hi v l) (hh : hi ≤ w.heap.size) (hx : Ext w w') : Spans w' 0 w'.heap.size v l := Spans.up (h.mono (Nat.zero_le _) hh) hx
theorem OwnNet.at_ {s k : Value} {n : Net} (h : OwnNet w lo hi (.agg #[s, k]) n) : NetAt w lo hi s k n := by
  obtain ⟨s', k', e, h1, h2⟩ := h.net
  injection e with e
  injection e with e
  injection e with e1 e2
  injection e2 with e2 _
  subst e1 e2
  exact ⟨h1, h2⟩
theorem MarkedSets.ext {l : List (List Sp)} (h : MarkedSets w lo hi v l k) (hx : Ext w w') (hh : hi ≤ w.heap.size) : MarkedSets w' lo hi v l k := by
  obtain ⟨f, h1, h2⟩ := h
  exact ⟨f, h1.ext hx hh, fun i hi => (h2 i hi).ext hx hh⟩
theorem MarkedSets.off {S : Nat → Prop} {l : List (List Sp)} (h : MarkedSets w lo hi v l k) (hx : Off S w w') (hs : ∀ k, lo ≤ k → k < hi → ¬ S k) (hh : hi ≤ w.heap.size) : MarkedSets w' lo hi v l k := by
  obtain ⟨f, h1, h2⟩ := h
  exact ⟨f, h1.off hx hs hh, fun i hi => (h2 i hi).off hx hs hh⟩
theorem MarkedSets.mono {l : List (List Sp)} (h : MarkedSets w lo hi v l k) (h1 : lo' ≤ lo) (h2 : hi ≤ hi') : MarkedSets w lo' hi' v l k := by
  obtain ⟨f, h3, h4⟩ := h
  exact ⟨f, h3.mono h1 h2, fun i hi => (h4 i hi).mono h1 h2⟩
theorem MarkedNet.ext {n : Net} (h : MarkedNet w lo hi v n k) (hx : Ext w w') (hh : hi ≤ w.heap.size) : MarkedNet w' lo hi v n k := by
  obtain ⟨s, kk, e, h1, h2⟩ := h
  exact ⟨s, kk, e, h1.ext hx hh, h2.ext hx hh⟩
theorem MarkedNet.off {S : Nat → Prop} {n : Net} (h : MarkedNet w lo hi v n k) (hx : Off S w w') (hs : ∀ k, lo ≤ k → k < hi → ¬ S k) (hh : hi ≤ w.heap.size) : MarkedNet w' lo hi v n k := by
  obtain ⟨s, kk, e, h1, h2⟩ := h
  exact ⟨s, kk, e, h1.off hx hs hh, h2.off hx hs hh⟩
end

set_option maxHeartbeats 1000000 in
theorem laws_markSpanSS (v : Value) (lo hi : Nat) (l : List (List Sp)) (k : Int) (w : World) (h : OwnSets w lo hi v l) (hn : l.length ≤ 1048576) (hsi : ∀ i, i < l.length → (setAt l i).length ≤ 1048576)
    (hk0 : 0 ≤ k) (hk : k ≤ 562949953421312) :
    Calls Try.prog 165 #[v, .int .i64 k] w (MarkP lo hi (k + preLen l l.length) (fun w' => MarkedSets w' lo hi v l k) w) := by
  obtain ⟨A, c, rfl⟩ := h.len
  obtain ⟨g0, f, g, h1, h2, h3, h4⟩ := h
  have H1 := Lib.hid h1
  have H3 := Lib.hid h3
  have H4 := Lib.hid h4
  have Hsi := Lib.hid hsi
  have Hpl := Lib.hid (preLen_le l hsi)
  clear h1 h3 h4 hsi
  go_enter Try.func165, Try.ntmps165
  go_wp2_with fail
  go_loopg [1, 5] l.length (fun q t i wr => ∃ (j : Nat), j + q = l.length ∧ i = .int .i64 j ∧ t = .int .i64 (k + preLen l j) ∧ Off (fun x => lo ≤ x ∧ x < hi) w wr ∧ Own wr g0 1 (.slice A l.length c) l.length f ∧
    ∀ i, i < l.length → Own wr (g i) 2 (f i) (setAt l i).length (if i < j then numCell (k + preLen l i) else spanCell (setAt l i)))
  case atStart => exact ⟨0, by omega, rfl, by simp [preLen], Off.refl _ _, H1.out, fun i hi => (H3.out i hi).1⟩
  case round =>
    obtain ⟨j, hj, rfl, rfl, hx, hown, hok⟩ := hrel
    have Hok := Lib.hid hok
    clear hok
    by_cases hlt : j < l.length
    · obtain ⟨off, rfl, hb, hc⟩ := hown.at_ (by omega)
      have c0 := (hc j (by omega)).1
      have Hown := Lib.hid hown
      clear hown hc
      have hp1 := Hpl.out j (by omega)
      have hp2 := Hpl.out (j + 1) (by omega)
      have hs := Hsi.out j hlt
      go_wp2_with fail
      refine Calls.mono (laws_markSpanS _ (g j) _ _ _ _ (Hok.out j hlt) hs (by omega) (by omega)) ?_
      rintro e w1 ⟨rfl, hx1, hm1⟩
      have Hm1 := Lib.hid hm1
      clear hm1
      have hgj : 0 < (setAt l j).length → lo ≤ g j ∧ g j < hi ∧ g j ≠ g0 := (H3.out j hlt).2
      have Hx := Lib.hid (hx.trans (hx1.mono (fun x hx => by have := hgj hx.1; have := hx.2; omega)))
      have Hx1 := Lib.hid hx1
      clear hx hx1
      go_wp2_with fail
      go_roundg (l.length - (j + 1))
      case measure => omega
      case rel =>
        refine ⟨j + 1, by omega, by go_num, ?_, Hx.out, Hown.out.off Hx1.out (fun _ hh => (hgj hh.1).2.2 hh.2.symm), fun i hi => ?_⟩
        · congr 1; simp only [preLen]; omega
        · by_cases e : i = j
          · subst e
            rw [if_pos (by omega)]
            exact Hm1.out
          · have hi2 := (Hok.out i hi).off Hx1.out (fun h0 hh => H4.out i j hi hlt e h0 hh.1 hh.2)
            by_cases hij : i < j
            · rw [if_pos hij] at hi2
              rw [if_pos (by omega)]
              exact hi2
            · rw [if_neg hij] at hi2
              rw [if_neg (by omega)]
              exact hi2
    · obtain rfl : j = l.length := by omega
      have Hown := Lib.hid hown
      clear hown
      go_wp2_with fail
      go_ret
      refine ⟨rfl, hx, f, Hown.out.row h2, fun i hi => ?_⟩
      have h5 := Hok.out i hi
      rw [if_pos hi] at h5
      exact h5.row (fun h0 => ⟨((H3.out i hi).2 h0).1, ((H3.out i hi).2 h0).2.1⟩)

set_option maxHeartbeats 1000000 in
theorem laws_heldSpanSS (v : Value) (lo hi : Nat) (l : List (List Sp)) (k : Int) (w : World) (h : MarkedSets w lo hi v l k) (hh : hi ≤ w.heap.size) (hn : l.length ≤ 1048576) (hsi : ∀ i, i < l.length → (setAt l i).length ≤ 1048576)
    (hk0 : 0 ≤ k) (hk : k ≤ 562949953421312) :
    Calls Try.prog 167 #[v, .int .i64 k] w (RetX (.int .i64 (k + preLen l l.length)) w) := by
  obtain ⟨f, ⟨_, A, c, rfl, hc0, hr⟩, h2⟩ := h
  have Hr := Lib.hid hr
  have H2 := Lib.hid h2
  have Hsi := Lib.hid hsi
  have Hpl := Lib.hid (preLen_le l hsi)
  clear hr h2 hsi
  go_enter Try.func167, Try.ntmps167
  go_wp2_with fail
  go_loopg [1, 5] l.length (fun q t i wr => ∃ (j : Nat), j + q = l.length ∧ i = .int .i64 j ∧ t = .int .i64 (k + preLen l j) ∧ Ext w wr)
  case atStart => exact ⟨0, by omega, rfl, by simp [preLen], (by repeat (first | exact Ext.refl _ | assumption | refine Ext.alloc ?_ _ | refine Ext.drew ?_ | refine Ext.drewN ?_ _ | refine Ext.setCell ?_ (by first | (simp; done) | (simp; omega) | omega) _ | refine Ext.trans ?_ (by assumption)))⟩
  case round =>
    obtain ⟨j, hj, rfl, rfl, hx⟩ := hrel
    by_cases hlt : j < l.length
    · obtain ⟨b, off, rfl, _, hb', hc⟩ := Hr.out (by omega)
      have hb : b < w.heap.size := by omega
      have c0 : wr.cell? ⟨b, off + j, none⟩ = some (f j) := (hx.cell (p := ⟨b, off + j, none⟩) hb).trans (hc j (by omega))
      clear hc
      have hp1 := Hpl.out j (by omega)
      have hp2 := Hpl.out (j + 1) (by omega)
      have hs := Hsi.out j hlt
      have hsz := hx.size
      have hnn : decide (k + (preLen l j : Int) + ((setAt l j).length : Int) * 2 < 0) = false := decide_eq_false (by omega)
      go_wp2_with fail
      refine Calls.mono (laws_heldSpanS _ lo hi _ _ _ ((H2.out j hlt).ext hx hh) (by omega) hs (by omega) (by omega)) ?_
      rintro e w1 ⟨rfl, hx1⟩
      go_wp2_with fail
      go_roundg (l.length - (j + 1))
      case measure => omega
      case rel => exact ⟨j + 1, by omega, by go_num, by congr 1; simp only [preLen]; omega, (by repeat (first | exact Ext.refl _ | assumption | refine Ext.alloc ?_ _ | refine Ext.drew ?_ | refine Ext.drewN ?_ _ | refine Ext.setCell ?_ (by first | (simp; done) | (simp; omega) | omega) _ | refine Ext.trans ?_ (by assumption)))⟩
    · obtain rfl : j = l.length := by omega
      go_wp2_with fail
      go_ret
      exact ⟨rfl, (by repeat (first | exact Ext.refl _ | assumption | refine Ext.alloc ?_ _ | refine Ext.drew ?_ | refine Ext.drewN ?_ _ | refine Ext.setCell ?_ (by first | (simp; done) | (simp; omega) | omega) _ | refine Ext.trans ?_ (by assumption)))⟩

set_option maxHeartbeats 1000000 in
theorem laws_markNetwork (s kk : Value) (lo hi : Nat) (n : Net) (k : Int) (w : World) (h : OwnNet w lo hi (.agg #[s, kk]) n) (hh : hi ≤ w.heap.size) (hsm : Small n) (hk0 : 0 ≤ k) (hk : k ≤ 562949953421312) :
    Calls Try.prog 78 #[.agg #[s, kk], .int .i64 k] w (MarkP lo hi (k + netCells n) (fun w' => MarkedNet w' lo hi (.agg #[s, kk]) n k) w) := by
  obtain ⟨s', kk', a, b, gk, e, h1, h2, h3, h4, h5⟩ := h
  injection e with e
  injection e with e
  injection e with e1 e2
  injection e2 with e2 _
  subst e1 e2
  obtain ⟨A, c, rfl⟩ := h3.len
  obtain ⟨A2, c2, rfl⟩ := h4.len
  have H3 := Lib.hid h3
  have H4 := Lib.hid h4
  clear h3 h4
  obtain ⟨hsm1, hsm2, hsm3⟩ := hsm
  have hpl := preLen_le n.sets hsm3 _ (Nat.le_refl _)
  have Hsm3 := Lib.hid hsm3
  clear hsm3
  go_enter Try.func78, Try.ntmps78
  go_wp2_with fail
  refine Calls.mono (laws_markSpanSS _ a b n.sets _ _ (H3.out.ext (by repeat (first | exact Ext.refl _ | assumption | refine Ext.alloc ?_ _ | refine Ext.drew ?_ | refine Ext.drewN ?_ _ | refine Ext.setCell ?_ (by first | (simp; done) | (simp; omega) | omega) _ | refine Ext.trans ?_ (by assumption)))) hsm1 Hsm3.out (by omega) (by omega)) ?_
  rintro e w1 ⟨rfl, hx1, hm1⟩
  have hxb := (Ext.refl w).alloc (.cells #[.slice A n.sets.length c, .slice A2 n.links.length c2] 27)
  have hbx := ((Boxed.new w [.slice A n.sets.length c, .slice A2 n.links.length c2] 27)).off hx1 (fun hh => by have := hh.2; omega)
  have hbx1 := hbx.at1
  have Hm1 := Lib.hid hm1
  have Hx1 := Lib.hid hx1
  clear hbx hm1 hx1
  go_wp2_with fail
  refine Calls.mono (laws_markLinkS _ gk _ _ _ _ ((H4.out.ext hxb).off Hx1.out (fun h0 hh => (h5 h0).2.2 hh)) hsm2 (by omega) (by omega)) ?_
  rintro e w2 ⟨rfl, hx2, hm2⟩
  go_wp2_with fail
  go_ret
  refine ⟨ret_int (by unfold netCells; omega), ?_, _, _, rfl, ?_, hm2.row (fun h0 => ⟨(h5 h0).1, (h5 h0).2.1⟩)⟩
  · exact ((Off.of_ext hxb).trans (Hx1.out.mono (fun x hx => by omega))).trans (hx2.mono (fun x hx => by have := h5 hx.1; have := hx.2; omega))
  · have hsz := Hx1.out.size
    have hsz2 := hxb.size
    exact (Hm1.out.off hx2 (fun x h6 h7 h8 => (h5 h8.1).2.2 (by have := h8.2; omega)) (by omega)).mono h1 h2

set_option maxHeartbeats 1000000 in
theorem laws_heldNetwork (s kk : Value) (lo hi : Nat) (n : Net) (k : Int) (w : World) (h : MarkedNet w lo hi (.agg #[s, kk]) n k) (hh : hi ≤ w.heap.size) (hsm : Small n) (hk0 : 0 ≤ k) (hk : k ≤ 562949953421312) :
    Calls Try.prog 83 #[.agg #[s, kk], .int .i64 k] w (RetX (.int .i64 (k + netCells n)) w) := by
  obtain ⟨s', kk', e, h3, h4⟩ := h
  injection e with e
  injection e with e
  injection e with e1 e2
  injection e2 with e2 _
  subst e1 e2
  have H3 := Lib.hid h3
  have H4 := Lib.hid h4
  clear h3 h4
  obtain ⟨hsm1, hsm2, hsm3⟩ := hsm
  have hpl := preLen_le n.sets hsm3 _ (Nat.le_refl _)
  have Hsm3 := Lib.hid hsm3
  clear hsm3
  have hn1 : decide (k + (preLen n.sets n.sets.length : Int) < 0) = false := decide_eq_false (by omega)
  have hn2 : decide (k + (preLen n.sets n.sets.length : Int) + (n.links.length : Int) * 4 < 0) = false := decide_eq_false (by omega)
  go_enter Try.func83, Try.ntmps83
  go_wp2_with fail
  refine Calls.mono (laws_heldSpanSS _ lo hi n.sets _ _ (H3.out.ext (by repeat (first | exact Ext.refl _ | assumption | refine Ext.alloc ?_ _ | refine Ext.drew ?_ | refine Ext.drewN ?_ _ | refine Ext.setCell ?_ (by first | (simp; done) | (simp; omega) | omega) _ | refine Ext.trans ?_ (by assumption))) hh) (Nat.le_trans hh (Ext.size (by repeat (first | exact Ext.refl _ | assumption | refine Ext.alloc ?_ _ | refine Ext.drew ?_ | refine Ext.drewN ?_ _ | refine Ext.setCell ?_ (by first | (simp; done) | (simp; omega) | omega) _ | refine Ext.trans ?_ (by assumption))))) hsm1 Hsm3.out (by omega) (by omega)) ?_
  rintro e w1 ⟨rfl, hx1⟩
  have ba := (show Boxed w1 w.heap.size [s, kk] from (Boxed.new w [s, kk] 27).ext hx1); have ba0 := ba.at0; have ba1 := ba.at1; have bag := ba.1; have Hba := Lib.hid ba; clear ba
  have hE : Ext w w1 := (by repeat (first | exact Ext.refl _ | assumption | refine Ext.alloc ?_ _ | refine Ext.drew ?_ | refine Ext.drewN ?_ _ | refine Ext.setCell ?_ (by first | (simp; done) | (simp; omega) | omega) _ | refine Ext.trans ?_ (by assumption)))
  go_wp2_with fail
  refine Calls.mono (laws_heldLinkS _ lo hi _ _ _ (H4.out.ext (by repeat (first | exact Ext.refl _ | assumption | refine Ext.alloc ?_ _ | refine Ext.drew ?_ | refine Ext.drewN ?_ _ | refine Ext.setCell ?_ (by first | (simp; done) | (simp; omega) | omega) _ | refine Ext.trans ?_ (by assumption))) hh) (Nat.le_trans hh (Ext.size (by repeat (first | exact Ext.refl _ | assumption | refine Ext.alloc ?_ _ | refine Ext.drew ?_ | refine Ext.drewN ?_ _ | refine Ext.setCell ?_ (by first | (simp; done) | (simp; omega) | omega) _ | refine Ext.trans ?_ (by assumption))))) hsm2 (by omega) (by omega)) ?_
  rintro e w2 ⟨rfl, hx2⟩
  go_wp2_with fail
  go_ret
  exact ⟨ret_int (by unfold netCells; omega), (by repeat (first | exact Ext.refl _ | assumption | refine Ext.alloc ?_ _ | refine Ext.drew ?_ | refine Ext.drewN ?_ _ | refine Ext.setCell ?_ (by first | (simp; done) | (simp; omega) | omega) _ | refine Ext.trans ?_ (by assumption)))⟩

/-! ### mark.. and held.. of rows in memory of their own, said alike -/
theorem markSpans (v : Value) (lo hi : Nat) (l : List Sp) (k : Int) (w : World) (h : OwnSpans w lo hi v l) (hn : l.length ≤ 1048576) (hk0 : 0 ≤ k) (hk : k ≤ 562949953421312) :
    Calls Try.prog 79 #[v, .int .i64 k] w (MarkP lo hi (k + l.length * 2) (fun w' => MarkedSpans w' lo hi v l k) w) := by
  obtain ⟨g, h1, h2⟩ := h
  refine Calls.mono (laws_markSpanS v g _ _ k w h2 hn hk0 (by omega)) ?_
  rintro e w1 ⟨rfl, hx1, hm1⟩
  exact ⟨rfl, hx1.mono (fun x hx => by have := h1 hx.1; have := hx.2; omega), hm1.row h1⟩
end Go.Proofs.Ytfajmlkiidnhlaa

/- Contracts: counts of statements, of days, of choices. -/
namespace Go.Proofs.Ytfajmlkiidnhlaa
set_option linter.unusedVariables false
set_option linter.unusedSimpArgs false
open Go.RowKit
attribute [local go_sem] cell_onto

set_option maxHeartbeats 400000 in
theorem impl_statementsOf (s k : Value) (n : Net) (w : World) (h : NetIn w s k n) (hok : n.sets.length ≤ 1048576 ∧ n.links.length ≤ 1048576) :
    Calls Try.prog 124 #[.agg #[s, k]] w (RetX (.int .i64 ((n.sets.length : Int) + n.links.length)) w) := by
  obtain ⟨A, c, rfl, hn, hc⟩ := h.1.len
  obtain ⟨A', c', rfl, hn', hc'⟩ := h.2.len
  obtain ⟨h1, h2⟩ := hok
  clear h
  go_enter Try.func124, Try.ntmps124
  go_wp2_with fail
  go_ret
  exact ⟨rfl, (by repeat (first | exact Ext.refl _ | assumption | refine Ext.alloc ?_ _ | refine Ext.drew ?_ | refine Ext.drewN ?_ _ | refine Ext.setCell ?_ (by first | (simp; done) | (simp; omega) | omega) _ | refine Ext.trans ?_ (by assumption)))⟩
set_option maxHeartbeats 400000 in
theorem spec_l21Count (s k : Value) (n : Net) (w : World) (h : NetIn w s k n) (hok : n.sets.length ≤ 1048576 ∧ n.links.length ≤ 1048576) :
    Calls Try.prog 136 #[.agg #[s, k]] w (RetX (.int .i64 ((n.sets.length : Int) + n.links.length)) w) := by
  obtain ⟨A, c, rfl, hn, hc⟩ := h.1.len
  obtain ⟨A', c', rfl, hn', hc'⟩ := h.2.len
  obtain ⟨h1, h2⟩ := hok
  clear h
  go_enter Try.func136, Try.ntmps136
  go_wp2_with fail
  go_ret
  exact ⟨rfl, (by repeat (first | exact Ext.refl _ | assumption | refine Ext.alloc ?_ _ | refine Ext.drew ?_ | refine Ext.drewN ?_ _ | refine Ext.setCell ?_ (by first | (simp; done) | (simp; omega) | omega) _ | refine Ext.trans ?_ (by assumption)))⟩
set_option maxHeartbeats 400000 in
theorem impl_CountStatements (s k : Value) (n : Net) (w : World) (h : NetIn w s k n) :
    Calls Try.prog 42 #[.agg #[s, k]] w (RetX (.tuple #[.int .i64 (stmV n), .int .i64 (netE n)]) w) := by
  have H := Lib.hid h
  clear h
  go_enter Try.func42, Try.ntmps42
  go_wp2_with fail
  refine Calls.mono (impl_IsNetwork s k n _ (H.out.up (by repeat (first | exact Ext.refl _ | assumption | refine Ext.alloc ?_ _ | refine Ext.drew ?_ | refine Ext.drewN ?_ _ | refine Ext.setCell ?_ (by first | (simp; done) | (simp; omega) | omega) _ | refine Ext.trans ?_ (by assumption))))) ?_
  rintro e w1 ⟨rfl, hx1⟩
  have hb := (Boxed.new w [s, k] 27).ext hx1; have hb0 := hb.at0; have hb1 := hb.at1; have hbg := hb.1; have Hhb := Lib.hid hb; clear hb
  have hx : Ext w w1 := (by repeat (first | exact Ext.refl _ | assumption | refine Ext.alloc ?_ _ | refine Ext.drew ?_ | refine Ext.drewN ?_ _ | refine Ext.setCell ?_ (by first | (simp; done) | (simp; omega) | omega) _ | refine Ext.trans ?_ (by assumption)))
  clear hx1
  by_cases hok : NetOk n
  · have Hok := Lib.hid hok
    clear hok
    rw [B_true Hok.out]
    go_wp2_with fail
    refine Calls.mono (impl_statementsOf s k n _ (H.out.up hx) ⟨by have := Hok.out.1; omega, by have := Hok.out.2.1; omega⟩) ?_
    rintro e w2 ⟨rfl, hx2⟩
    go_wp2_with fail
    go_ret2
    exact ⟨by rw [stmV_ok Hok.out, netE_ok Hok.out]; rfl, (by repeat (first | exact Ext.refl _ | assumption | refine Ext.alloc ?_ _ | refine Ext.drew ?_ | refine Ext.drewN ?_ _ | refine Ext.setCell ?_ (by first | (simp; done) | (simp; omega) | omega) _ | refine Ext.trans ?_ (by assumption)))⟩
  · have Hok := Lib.hid hok
    clear hok
    rw [B_false Hok.out]
    go_wp2_with fail
    go_ret2
    exact ⟨by rw [stmV_no Hok.out, netE_no Hok.out]; rfl, (by repeat (first | exact Ext.refl _ | assumption | refine Ext.alloc ?_ _ | refine Ext.drew ?_ | refine Ext.drewN ?_ _ | refine Ext.setCell ?_ (by first | (simp; done) | (simp; omega) | omega) _ | refine Ext.trans ?_ (by assumption)))⟩
set_option maxHeartbeats 400000 in
theorem spec_CountStatements (s k : Value) (n : Net) (w : World) (h : NetIn w s k n) :
    Calls Try.prog 43 #[.agg #[s, k]] w (RetX (.tuple #[.int .i64 (stmV n), .int .i64 (netE n)]) w) := by
  have H := Lib.hid h
  clear h
  go_enter Try.func43, Try.ntmps43
  go_wp2_with fail
  refine Calls.mono (spec_IsNetwork s k n _ (H.out.up (by repeat (first | exact Ext.refl _ | assumption | refine Ext.alloc ?_ _ | refine Ext.drew ?_ | refine Ext.drewN ?_ _ | refine Ext.setCell ?_ (by first | (simp; done) | (simp; omega) | omega) _ | refine Ext.trans ?_ (by assumption))))) ?_
  rintro e w1 ⟨rfl, hx1⟩
  have hb := (Boxed.new w [s, k] 27).ext hx1; have hb0 := hb.at0; have hb1 := hb.at1; have hbg := hb.1; have Hhb := Lib.hid hb; clear hb
  have hx : Ext w w1 := (by repeat (first | exact Ext.refl _ | assumption | refine Ext.alloc ?_ _ | refine Ext.drew ?_ | refine Ext.drewN ?_ _ | refine Ext.setCell ?_ (by first | (simp; done) | (simp; omega) | omega) _ | refine Ext.trans ?_ (by assumption)))
  clear hx1
  by_cases hok : NetOk n
  · have Hok := Lib.hid hok
    clear hok
    rw [B_true Hok.out]
    go_wp2_with fail
    refine Calls.mono (spec_l21Count s k n _ (H.out.up hx) ⟨by have := Hok.out.1; omega, by have := Hok.out.2.1; omega⟩) ?_
    rintro e w2 ⟨rfl, hx2⟩
    go_wp2_with fail
    go_ret2
    exact ⟨by rw [stmV_ok Hok.out, netE_ok Hok.out]; rfl, (by repeat (first | exact Ext.refl _ | assumption | refine Ext.alloc ?_ _ | refine Ext.drew ?_ | refine Ext.drewN ?_ _ | refine Ext.setCell ?_ (by first | (simp; done) | (simp; omega) | omega) _ | refine Ext.trans ?_ (by assumption)))⟩
  · have Hok := Lib.hid hok
    clear hok
    rw [B_false Hok.out]
    go_wp2_with fail
    go_ret2
    exact ⟨by rw [stmV_no Hok.out, netE_no Hok.out]; rfl, (by repeat (first | exact Ext.refl _ | assumption | refine Ext.alloc ?_ _ | refine Ext.drew ?_ | refine Ext.drewN ?_ _ | refine Ext.setCell ?_ (by first | (simp; done) | (simp; omega) | omega) _ | refine Ext.trans ?_ (by assumption)))⟩

set_option maxHeartbeats 1000000 in
theorem impl_countDays (v : Value) (l : List Sp) (w : World) (h : Spans w 0 w.heap.size v l) (hok : SetOk l) : Calls Try.prog 150 #[v] w (RetX (.int .i64 (days l)) w) := by
  obtain ⟨A, c, rfl, hn, hc⟩ := h.len
  have H := Lib.hid h
  have Hok := Lib.hid hok
  have h300 := hok.1
  clear h hok
  go_enter Try.func150, Try.ntmps150
  go_wp2_with fail
  go_loopg [3, 8] l.length (fun k t i wr => ∃ j : Nat, j + k = l.length ∧ i = .int .i64 j ∧ t = .int .i64 (daysTo l j) ∧ Ext w wr)
  case atStart => exact ⟨0, by omega, rfl, rfl, (by repeat (first | exact Ext.refl _ | assumption | refine Ext.alloc ?_ _ | refine Ext.drew ?_ | refine Ext.drewN ?_ _ | refine Ext.setCell ?_ (by first | (simp; done) | (simp; omega) | omega) _ | refine Ext.trans ?_ (by assumption)))⟩
  case round =>
    obtain ⟨j, hj, rfl, rfl, hx⟩ := hrel
    have hbd := daysTo_bd Hok.out j (by omega)
    by_cases hlt : j < l.length
    · obtain ⟨b, off, rfl, _, hb, h1, h2⟩ := (H.out.ext hx (Nat.le_refl _)).at_ hlt
      have hbr : b < wr.heap.size := Nat.lt_of_lt_of_le hb hx.size
      have hsp := (Hok.out.2 j hlt).1
      unfold SpOk DayOk at hsp
      obtain ⟨⟨a1, a2⟩, ⟨a3, a4⟩, a5⟩ := hsp
      go_wp2_with fail
      go_roundg (l.length - (j + 1))
      case measure => omega
      case rel => exact ⟨j + 1, by omega, by go_num, by simp only [daysTo], (by repeat (first | exact Ext.refl _ | assumption | refine Ext.alloc ?_ _ | refine Ext.drew ?_ | refine Ext.drewN ?_ _ | refine Ext.setCell ?_ (by first | (simp; done) | (simp; omega) | omega) _ | refine Ext.trans ?_ (by assumption)))⟩
    · obtain rfl : j = l.length := by omega
      go_wp2_with fail
      go_ret
      exact ⟨rfl, (by repeat (first | exact Ext.refl _ | assumption | refine Ext.alloc ?_ _ | refine Ext.drew ?_ | refine Ext.drewN ?_ _ | refine Ext.setCell ?_ (by first | (simp; done) | (simp; omega) | omega) _ | refine Ext.trans ?_ (by assumption)))⟩
set_option maxHeartbeats 1000000 in
theorem spec_l02Count (v : Value) (l : List Sp) (w : World) (h : Spans w 0 w.heap.size v l) (hok : SetOk l) : Calls Try.prog 205 #[v] w (RetX (.int .i64 (days l)) w) := by
  obtain ⟨A, c, rfl, hn, hc⟩ := h.len
  have H := Lib.hid h
  have Hok := Lib.hid hok
  have h300 := hok.1
  clear h hok
  go_enter Try.func205, Try.ntmps205
  go_wp2_with fail
  go_loopg [3, 4] l.length (fun k t i wr => ∃ j : Nat, j + k = l.length ∧ i = .int .i64 j ∧ t = .int .i64 (daysTo l j) ∧ Ext w wr)
  case atStart => exact ⟨0, by omega, rfl, rfl, (by repeat (first | exact Ext.refl _ | assumption | refine Ext.alloc ?_ _ | refine Ext.drew ?_ | refine Ext.drewN ?_ _ | refine Ext.setCell ?_ (by first | (simp; done) | (simp; omega) | omega) _ | refine Ext.trans ?_ (by assumption)))⟩
  case round =>
    obtain ⟨j, hj, rfl, rfl, hx⟩ := hrel
    have hbd := daysTo_bd Hok.out j (by omega)
    by_cases hlt : j < l.length
    · obtain ⟨b, off, rfl, _, hb, h1, h2⟩ := (H.out.ext hx (Nat.le_refl _)).at_ hlt
      have hbr : b < wr.heap.size := Nat.lt_of_lt_of_le hb hx.size
      have hsp := (Hok.out.2 j hlt).1
      unfold SpOk DayOk at hsp
      obtain ⟨⟨a1, a2⟩, ⟨a3, a4⟩, a5⟩ := hsp
      go_wp2_with fail
      (refine wp_region_onto prog_mixed (by kernel_rfl) ?_; (repeat (go_big_quiet_step ((fail)))); refine onto_end ?_; intro w1 hx1)
      go_wp2_with fail
      go_roundg (l.length - (j + 1))
      case measure => omega
      case rel => exact ⟨j + 1, by omega, by go_num, by simp only [daysTo]; congr 1; omega, (by repeat (first | exact Ext.refl _ | assumption | refine Ext.alloc ?_ _ | refine Ext.drew ?_ | refine Ext.drewN ?_ _ | refine Ext.setCell ?_ (by first | (simp; done) | (simp; omega) | omega) _ | refine Ext.trans ?_ (by assumption)))⟩
    · obtain rfl : j = l.length := by omega
      go_wp2_with fail
      go_ret
      exact ⟨rfl, (by repeat (first | exact Ext.refl _ | assumption | refine Ext.alloc ?_ _ | refine Ext.drew ?_ | refine Ext.drewN ?_ _ | refine Ext.setCell ?_ (by first | (simp; done) | (simp; omega) | omega) _ | refine Ext.trans ?_ (by assumption)))⟩
end Go.Proofs.Ytfajmlkiidnhlaa
