/- The laws' own mark.. (writes consecutive numbers into all cells of a datum) and held.. (finds them there). -/
import Derived.Test.YtfmnkojjkjkdeaaDoorF
namespace Go.Proofs.YtfmnkojjkjkdeaaDoor
set_option linter.unusedVariables false
set_option linter.unusedSimpArgs false
open Go.RowKit
attribute [local go_sem] cell_onto

def numCell (k : Int) (i : Nat) : Value := .int .i64 (k + i)
/-- what mark.. leaves of a row: its cells hold consecutive numbers; no other block has turned -/
def MarkPost (b sz : Nat) (v : Value) (n : Nat) (k : Int) (w : World) (e : Ending) (w' : World) : Prop := e = .returned (.int .i64 (k + n * sz)) ∧ Off (fun x => 0 < n ∧ x = b) w w' ∧ Own w' b sz v n (numCell k)

set_option maxHeartbeats 1000000 in
theorem laws_markSpanS (v : Value) (b n : Nat) (f0 : Nat → Value) (k : Int) (w : World) (h : Own w b 2 v n f0) (hn : n ≤ 1048576) (hk0 : 0 ≤ k) (hk : k ≤ 1125899906842624) :
    Calls Tryd.prog 18 #[v, .int .i64 k] w (MarkPost b 2 v n k w) := by
  obtain ⟨A, c, rfl⟩ := h.len
  have H := Lib.hid h
  clear h
  go_enter Tryd.func18, Tryd.ntmps18
  go_wp2_with fail
  go_loopg [1, 5] n (fun q t i wr => ∃ (j : Nat) (f : Nat → Value), j + q = n ∧ i = .int .i64 j ∧ t = .int .i64 (k + (j : Int) * 2) ∧ Off (fun x => 0 < n ∧ x = b) w wr ∧ Own wr b 2 (.slice A n c) n f ∧ ∀ i, i < j * 2 → f i = numCell k i)
  case atStart => exact ⟨0, f0, by omega, rfl, by simp, Off.refl _ _, H.out, fun i hi => absurd hi (by omega)⟩
  case round =>
    obtain ⟨j, f, hj, rfl, rfl, hx, hown, hok⟩ := hrel
    have Hok := Lib.hid hok
    clear hok
    by_cases hlt : j < n
    · obtain ⟨off, rfl, hb, hc⟩ := hown.at_ (by omega)
      have Hown := Lib.hid hown
      clear hown
      have c0 := hc (j * 2 + 0) (by omega)
      have c0a : wr.cell? ⟨b, off + j * 2, none⟩ = some (f (j * 2 + 0)) := by have := c0.1; simpa only [Nat.add_assoc, Nat.add_zero, Nat.mul_one] using this
      have c0b : wr.frozen? ⟨b, off + j * 2, none⟩ = false := by have := c0.2; simpa only [Nat.add_assoc, Nat.add_zero, Nat.mul_one] using this
      have c1 := hc (j * 2 + 1) (by omega)
      have c1a : wr.cell? ⟨b, off + j * 2 + 1, none⟩ = some (f (j * 2 + 1)) := by have := c1.1; simpa only [Nat.add_assoc, Nat.add_zero, Nat.mul_one] using this
      have c1b : wr.frozen? ⟨b, off + j * 2 + 1, none⟩ = false := by have := c1.2; simpa only [Nat.add_assoc, Nat.add_zero, Nat.mul_one] using this
      clear hc c0 c1
      go_wp2_with fail
      go_roundg (n - (j + 1))
      case measure => omega
      case rel =>
        refine ⟨j + 1, _, by omega, by go_num, ?_, ?_, (by have := (Own.set (Own.set Hown.out (j * 2) (.int .i64 (k + (j : Int) * 2)) (by omega)) (j * 2 + 1) (.int .i64 (k + (j : Int) * 2 + 1)) (by omega)); simpa only [Nat.add_assoc] using this), fun i hi => ?_⟩
        · congr 1; simp; omega
        · repeat (first | exact hx | refine Off.setCell ?_ (.inl ⟨by omega, rfl⟩) _)
        by_cases e1 : i = j * 2 + 1
        · rw [if_pos e1]; unfold numCell; congr 1; omega
        rw [if_neg e1]
        by_cases e0 : i = j * 2
        · rw [if_pos e0]; unfold numCell; congr 1; omega
        rw [if_neg e0]
        exact Hok.out i (by omega)
    · obtain rfl : j = n := by omega
      have Hown := Lib.hid hown
      clear hown
      go_wp2_with fail
      go_ret
      exact ⟨by first | rfl | simp, hx, Hown.out.congr Hok.out⟩

set_option maxHeartbeats 1000000 in
theorem laws_heldSpanS (v : Value) (lo hi n : Nat) (k : Int) (w : World) (h : Row w lo hi 2 v n (numCell k)) (hh : hi ≤ w.heap.size) (hn : n ≤ 1048576) (hk0 : 0 ≤ k) (hk : k ≤ 1125899906842624) :
    Calls Tryd.prog 19 #[v, .int .i64 k] w (RetX (.int .i64 (k + n * 2)) w) := by
  obtain ⟨_, A, c, rfl, hc0, hr⟩ := h
  have Hr := Lib.hid hr
  clear hr
  go_enter Tryd.func19, Tryd.ntmps19
  go_wp2_with fail
  go_loopg [1, 5] n (fun q t i wr => ∃ (j : Nat), j + q = n ∧ i = .int .i64 j ∧ t = .int .i64 (k + (j : Int) * 2) ∧ Ext w wr)
  case atStart => exact ⟨0, by omega, rfl, by simp, (by repeat (first | exact Ext.refl _ | assumption | refine Ext.alloc ?_ _ | refine Ext.drew ?_ | refine Ext.drewN ?_ _ | refine Ext.setCell ?_ (by first | (simp; done) | (simp; omega) | omega) _ | refine Ext.trans ?_ (by assumption)))⟩
  case round =>
    obtain ⟨j, hj, rfl, rfl, hx⟩ := hrel
    by_cases hlt : j < n
    · obtain ⟨b, off, rfl, _, hb', hc⟩ := Hr.out (by omega)
      have hb : b < w.heap.size := by omega
      have c0 : wr.cell? ⟨b, off + j * 2, none⟩ = some (.int .i64 (k + (j : Int) * 2)) := by have := (hx.cell (p := ⟨b, off + (j * 2 + 0), none⟩) hb).trans (hc (j * 2 + 0) (by omega)); (try simp only [Nat.add_zero, ← Nat.add_assoc] at this); rw [this]; unfold numCell; congr 2; (try simp); (try omega)
      have c1 : wr.cell? ⟨b, off + j * 2 + 1, none⟩ = some (.int .i64 (k + (j : Int) * 2 + 1)) := by have := (hx.cell (p := ⟨b, off + (j * 2 + 1), none⟩) hb).trans (hc (j * 2 + 1) (by omega)); (try simp only [Nat.add_zero, ← Nat.add_assoc] at this); rw [this]; unfold numCell; congr 2; (try simp); (try omega)
      clear hc
      go_wp2_with fail
      go_roundg (n - (j + 1))
      case measure => omega
      case rel => exact ⟨j + 1, by omega, by go_num, by congr 1; simp; omega, (by repeat (first | exact Ext.refl _ | assumption | refine Ext.alloc ?_ _ | refine Ext.drew ?_ | refine Ext.drewN ?_ _ | refine Ext.setCell ?_ (by first | (simp; done) | (simp; omega) | omega) _ | refine Ext.trans ?_ (by assumption)))⟩
    · obtain rfl : j = n := by omega
      go_wp2_with fail
      go_ret
      exact ⟨rfl, (by repeat (first | exact Ext.refl _ | assumption | refine Ext.alloc ?_ _ | refine Ext.drew ?_ | refine Ext.drewN ?_ _ | refine Ext.setCell ?_ (by first | (simp; done) | (simp; omega) | omega) _ | refine Ext.trans ?_ (by assumption)))⟩




end Go.Proofs.YtfmnkojjkjkdeaaDoor
