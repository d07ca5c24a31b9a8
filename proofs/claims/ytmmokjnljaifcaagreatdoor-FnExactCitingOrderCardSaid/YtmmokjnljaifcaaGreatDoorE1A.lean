/- Texts merged (a claim holds at most sixty files): A, B, C, D, E, F, N, O. -/
import Derived.Test.YtmmokjnljaifcaaGreatDoorProg
import Derived.Test.YtmmokjnljaifcaaGreatDoorE1Lib
/- Contracts of the functions that only read: ranges, days, sets, links, networks. -/
namespace Go.Proofs.YtmmokjnljaifcaaGreatDoor
set_option linter.unusedVariables false
set_option linter.unusedSimpArgs false
open Go.RowKit
attribute [local go_sem] cell_onto

theorem prog_mixed : Tryz.prog.follows .mixedOrders = true := by kernel_rfl

set_option maxHeartbeats 400000 in
theorem impl_within (n lo hi : Int) (w : World) : Calls Tryz.prog 119 #[.int .i64 n, .int .i64 lo, .int .i64 hi] w (RetS (.bool (B (lo ≤ n ∧ n ≤ hi))) w) := by
  go_enter Tryz.func119, Tryz.ntmps119
  go_wp2
  all_goals (go_ret; refine ⟨ret_bool (B_eq ?_), rfl⟩; simp; omega)
set_option maxHeartbeats 400000 in
theorem spec_l01In (n lo hi : Int) (w : World) : Calls Tryz.prog 122 #[.int .i64 n, .int .i64 lo, .int .i64 hi] w (RetS (.bool (B (lo ≤ n ∧ n ≤ hi))) w) := by
  go_enter Tryz.func122, Tryz.ntmps122
  go_wp2
  all_goals (go_ret; refine ⟨ret_bool (B_eq ?_), rfl⟩; simp; omega)
set_option maxHeartbeats 400000 in
theorem impl_isDay (n : Int) (w : World) : Calls Tryz.prog 134 #[.int .i64 n] w (RetS (.bool (B (DayOk n))) w) := by
  go_enter Tryz.func134, Tryz.ntmps134
  go_wp2_with (go_at_call 119; refine (impl_within _ _ _ _).mono ?_; rintro e w' ⟨rfl, rfl⟩)
  go_ret
  exact ⟨rfl, rfl⟩
set_option maxHeartbeats 400000 in
theorem spec_l01Day (n : Int) (w : World) : Calls Tryz.prog 169 #[.int .i64 n] w (RetS (.bool (B (DayOk n))) w) := by
  go_enter Tryz.func169, Tryz.ntmps169
  go_wp2_with (go_at_call 122; refine (spec_l01In _ _ _ _).mono ?_; rintro e w' ⟨rfl, rfl⟩)
  go_ret
  exact ⟨rfl, rfl⟩

set_option maxHeartbeats 400000 in
theorem spec_l02Span (a b : Int) (w : World) : Calls Tryz.prog 255 #[.agg #[.int .i64 a, .int .i64 b]] w (RetX (.bool (B (SpOk ⟨a, b⟩))) w) := by
  go_enter Tryz.func255, Tryz.ntmps255
  go_wp2_with (go_at_call 169; refine (spec_l01Day _ _).mono ?_; rintro e w' ⟨rfl, rfl⟩)
  all_goals (go_ret; refine ⟨ret_bool (B_eq ?_), (by repeat (first | exact Ext.refl _ | assumption | refine Ext.alloc ?_ _ | refine Ext.drew ?_ | refine Ext.drewN ?_ _ | refine Ext.setCell ?_ (by first | (simp; done) | (simp; omega) | omega) _ | refine Ext.trans ?_ (by assumption)))⟩; (try simp only [Bool.and_eq_true, Bool.or_eq_true, B_iff, B_not, Bool.not_eq_true, Bool.not_eq_false', Bool.not_eq_true', Bool.not_not, decide_eq_true_eq, decide_eq_false_iff_not, Bool.true_eq_false, Bool.false_eq_true, iff_true, iff_false, true_iff, false_iff, beq_iff_eq, bne_iff_ne, ne_eq] at *); (try unfold SpOk DayOk at *); (try dsimp only at *); omega)

end Go.Proofs.YtmmokjnljaifcaaGreatDoor

/- slices.IndexFunc and ContainsFunc over spans, sets, links, numbers: by the contract of the function value. -/
namespace Go.Proofs.YtmmokjnljaifcaaGreatDoor
set_option linter.unusedVariables false
set_option linter.unusedSimpArgs false
open Go.RowKit
attribute [local go_sem] cell_onto

/-- what IndexFunc returns: the first index of which p holds, or -1 -/
def RetIdx (n : Nat) (p : Nat → Prop) (w : World) (e : Ending) (w' : World) : Prop :=
  ∃ r : Int, e = .returned (.int .i64 r) ∧ Ext w w' ∧ ((r = -1 ∧ ∀ i, i < n → ¬ p i) ∨ (0 ≤ r ∧ ∃ i, i < n ∧ p i))
/-- what ContainsFunc asks -/
def Some_ (n : Nat) (p : Nat → Prop) : Prop := ∃ i, i < n ∧ p i

end Go.Proofs.YtmmokjnljaifcaaGreatDoor

/- The program's IsSet and IsNetwork; the reference's IsNetwork. -/
namespace Go.Proofs.YtmmokjnljaifcaaGreatDoor
set_option linter.unusedVariables false
set_option linter.unusedSimpArgs false
open Go.RowKit
attribute [local go_sem] cell_onto

theorem impl_isDay_b {n : Int} {b : Bool} (hb : B (DayOk n) = b) (w : World) : Calls Tryz.prog 134 #[.int .i64 n] w (RetS (.bool b) w) := by
  subst hb; exact impl_isDay n w

end Go.Proofs.YtmmokjnljaifcaaGreatDoor

/- IsNetwork, the program's and the reference's. -/
namespace Go.Proofs.YtmmokjnljaifcaaGreatDoor
set_option linter.unusedVariables false
set_option linter.unusedSimpArgs false
open Go.RowKit
attribute [local go_sem] cell_onto

end Go.Proofs.YtmmokjnljaifcaaGreatDoor

/- The laws' own helpers for spans, links, numbers, networks: sz.. (a bound on the sizes), to.. (a copy in new memory), eq.. (equal data compare equal). -/
namespace Go.Proofs.YtmmokjnljaifcaaGreatDoor
set_option linter.unusedVariables false
set_option linter.unusedSimpArgs false
open Go.RowKit
attribute [local go_sem] cell_onto

/-- what sz.. returns: what is left; if anything is, P -/
def SzPost (left : Int) (p : Prop) (w : World) (e : Ending) (w' : World) : Prop := ∃ r : Int, e = .returned (.int .i64 r) ∧ Ext w w' ∧ -1 ≤ r ∧ r ≤ left ∧ (0 ≤ r → p)
/-- what to.. returns: a row in a new block -/
def NewRow (sz n : Nat) (f : Nat → Value) (w : World) (e : Ending) (w' : World) : Prop := ∃ v g, e = .returned v ∧ Ext w w' ∧ (0 < n → w.heap.size ≤ g) ∧ Own w' g sz v n f




end Go.Proofs.YtmmokjnljaifcaaGreatDoor

/- The laws' own copies of slices (to..S) and comparisons (eq..). -/
namespace Go.Proofs.YtmmokjnljaifcaaGreatDoor
set_option linter.unusedVariables false
set_option linter.unusedSimpArgs false
open Go.RowKit
attribute [local go_sem] cell_onto




set_option maxHeartbeats 1000000 in
theorem laws_eqInt64S (v v' : Value) (l : List Int) (w : World) (h : Ints w 0 w.heap.size v l) (h' : Ints w 0 w.heap.size v' l) :
    Calls Tryz.prog 33 #[v, v'] w (RetX (.bool true) w) := by
  obtain ⟨A, c, rfl, hn, hc⟩ := h.len
  obtain ⟨A', c', rfl, _, hc'⟩ := h'.len
  have H := Lib.hid h
  have H' := Lib.hid h'
  clear h h'
  go_enter Tryz.func33, Tryz.ntmps33
  go_wp2_with fail
  go_loopg [5] l.length (fun k i wr => ∃ j : Nat, j + k = l.length ∧ i = .int .i64 j ∧ Ext w wr)
  case atStart => exact ⟨0, by omega, rfl, (by repeat (first | exact Ext.refl _ | assumption | refine Ext.alloc ?_ _ | refine Ext.drew ?_ | refine Ext.drewN ?_ _ | refine Ext.setCell ?_ (by first | (simp; done) | (simp; omega) | omega) _ | refine Ext.trans ?_ (by assumption)))⟩
  case round =>
    obtain ⟨j, hj, rfl, hx⟩ := hrel
    by_cases hlt : j < l.length
    · obtain ⟨b, off, rfl, _, hb, h1⟩ := (H.out.ext hx (Nat.le_refl _)).at_ hlt
      obtain ⟨b', off', rfl, _, hb', h1'⟩ := (H'.out.ext hx (Nat.le_refl _)).at_ hlt
      have hbr : b < wr.heap.size := Nat.lt_of_lt_of_le hb hx.size
      have hbr' : b' < wr.heap.size := Nat.lt_of_lt_of_le hb' hx.size
      go_wp2_with fail
      (refine wp_region_onto prog_mixed (by kernel_rfl) ?_; (repeat (go_big_quiet_step ((fail)))); refine onto_end ?_; intro w1 hx1)
      go_wp2_with fail
      go_roundg (l.length - (j + 1))
      case measure => omega
      case rel => exact ⟨j + 1, by omega, by go_num, (by repeat (first | exact Ext.refl _ | assumption | refine Ext.alloc ?_ _ | refine Ext.drew ?_ | refine Ext.drewN ?_ _ | refine Ext.setCell ?_ (by first | (simp; done) | (simp; omega) | omega) _ | refine Ext.trans ?_ (by assumption)))⟩
    · obtain rfl : j = l.length := by omega
      go_wp2_with fail
      go_ret
      exact ⟨rfl, (by repeat (first | exact Ext.refl _ | assumption | refine Ext.alloc ?_ _ | refine Ext.drew ?_ | refine Ext.drewN ?_ _ | refine Ext.setCell ?_ (by first | (simp; done) | (simp; omega) | omega) _ | refine Ext.trans ?_ (by assumption)))⟩

end Go.Proofs.YtmmokjnljaifcaaGreatDoor

/- The laws' own mark.. (writes consecutive numbers into all cells of a datum) and held.. (finds them there). -/
namespace Go.Proofs.YtmmokjnljaifcaaGreatDoor
set_option linter.unusedVariables false
set_option linter.unusedSimpArgs false
open Go.RowKit
attribute [local go_sem] cell_onto

def numCell (k : Int) (i : Nat) : Value := .int .i64 (k + i)
/-- what mark.. leaves of a row: its cells hold consecutive numbers; no other block has turned -/
def MarkPost (b sz : Nat) (v : Value) (n : Nat) (k : Int) (w : World) (e : Ending) (w' : World) : Prop := e = .returned (.int .i64 (k + n * sz)) ∧ Off (fun x => 0 < n ∧ x = b) w w' ∧ Own w' b sz v n (numCell k)

set_option maxHeartbeats 1000000 in
theorem laws_markInt64S (v : Value) (b n : Nat) (f0 : Nat → Value) (k : Int) (w : World) (h : Own w b 1 v n f0) (hn : n ≤ 1048576) (hk0 : 0 ≤ k) (hk : k ≤ 1125899906842624) :
    Calls Tryz.prog 36 #[v, .int .i64 k] w (MarkPost b 1 v n k w) := by
  obtain ⟨A, c, rfl⟩ := h.len
  have H := Lib.hid h
  clear h
  go_enter Tryz.func36, Tryz.ntmps36
  go_wp2_with fail
  go_loopg [1, 5] n (fun q t i wr => ∃ (j : Nat) (f : Nat → Value), j + q = n ∧ i = .int .i64 j ∧ t = .int .i64 (k + (j : Int)) ∧ Off (fun x => 0 < n ∧ x = b) w wr ∧ Own wr b 1 (.slice A n c) n f ∧ ∀ i, i < j * 1 → f i = numCell k i)
  case atStart => exact ⟨0, f0, by omega, rfl, by simp, Off.refl _ _, H.out, fun i hi => absurd hi (by omega)⟩
  case round =>
    obtain ⟨j, f, hj, rfl, rfl, hx, hown, hok⟩ := hrel
    have Hok := Lib.hid hok
    clear hok
    by_cases hlt : j < n
    · obtain ⟨off, rfl, hb, hc⟩ := hown.at_ (by omega)
      have Hown := Lib.hid hown
      clear hown
      have c0 := hc j (by omega)
      have c0a : wr.cell? ⟨b, off + j, none⟩ = some (f j) := by have := c0.1; simpa only [Nat.add_assoc, Nat.add_zero, Nat.mul_one] using this
      have c0b : wr.frozen? ⟨b, off + j, none⟩ = false := by have := c0.2; simpa only [Nat.add_assoc, Nat.add_zero, Nat.mul_one] using this
      clear hc c0
      go_wp2_with fail
      go_roundg (n - (j + 1))
      case measure => omega
      case rel =>
        refine ⟨j + 1, _, by omega, by go_num, ?_, ?_, (by have := (Own.set Hown.out (j) (.int .i64 (k + (j : Int))) (by omega)); simpa only [Nat.add_assoc] using this), fun i hi => ?_⟩
        · congr 1; simp; omega
        · repeat (first | exact hx | refine Off.setCell ?_ (.inl ⟨by omega, rfl⟩) _)
        by_cases e0 : i = j
        · rw [if_pos e0]; unfold numCell; congr 1; omega
        rw [if_neg e0]
        exact Hok.out i (by omega)
    · obtain rfl : j = n := by omega
      have Hown := Lib.hid hown
      clear hown
      go_wp2_with fail
      go_ret
      exact ⟨by first | rfl | simp, hx, Hown.out.congr Hok.out⟩

set_option maxHeartbeats 1000000 in
theorem laws_heldInt64S (v : Value) (lo hi n : Nat) (k : Int) (w : World) (h : Row w lo hi 1 v n (numCell k)) (hh : hi ≤ w.heap.size) (hn : n ≤ 1048576) (hk0 : 0 ≤ k) (hk : k ≤ 1125899906842624) :
    Calls Tryz.prog 37 #[v, .int .i64 k] w (RetX (.int .i64 (k + n)) w) := by
  obtain ⟨_, A, c, rfl, hc0, hr⟩ := h
  have Hr := Lib.hid hr
  clear hr
  go_enter Tryz.func37, Tryz.ntmps37
  go_wp2_with fail
  go_loopg [1, 5] n (fun q t i wr => ∃ (j : Nat), j + q = n ∧ i = .int .i64 j ∧ t = .int .i64 (k + (j : Int)) ∧ Ext w wr)
  case atStart => exact ⟨0, by omega, rfl, by simp, (by repeat (first | exact Ext.refl _ | assumption | refine Ext.alloc ?_ _ | refine Ext.drew ?_ | refine Ext.drewN ?_ _ | refine Ext.setCell ?_ (by first | (simp; done) | (simp; omega) | omega) _ | refine Ext.trans ?_ (by assumption)))⟩
  case round =>
    obtain ⟨j, hj, rfl, rfl, hx⟩ := hrel
    by_cases hlt : j < n
    · obtain ⟨b, off, rfl, _, hb', hc⟩ := Hr.out (by omega)
      have hb : b < w.heap.size := by omega
      have c0 : wr.cell? ⟨b, off + j, none⟩ = some (.int .i64 (k + (j : Int))) := by have := (hx.cell (p := ⟨b, off + j, none⟩) hb).trans (hc j (by omega)); (try simp only [Nat.add_zero, ← Nat.add_assoc] at this); rw [this]; unfold numCell; congr 2; (try simp); (try omega)
      clear hc
      go_wp2_with fail
      go_roundg (n - (j + 1))
      case measure => omega
      case rel => exact ⟨j + 1, by omega, by go_num, by congr 1; simp; omega, (by repeat (first | exact Ext.refl _ | assumption | refine Ext.alloc ?_ _ | refine Ext.drew ?_ | refine Ext.drewN ?_ _ | refine Ext.setCell ?_ (by first | (simp; done) | (simp; omega) | omega) _ | refine Ext.trans ?_ (by assumption)))⟩
    · obtain rfl : j = n := by omega
      go_wp2_with fail
      go_ret
      exact ⟨rfl, (by repeat (first | exact Ext.refl _ | assumption | refine Ext.alloc ?_ _ | refine Ext.drew ?_ | refine Ext.drewN ?_ _ | refine Ext.setCell ?_ (by first | (simp; done) | (simp; omega) | omega) _ | refine Ext.trans ?_ (by assumption)))⟩
end Go.Proofs.YtmmokjnljaifcaaGreatDoor

/- The laws' own mark.. and held.. of slices of slices of spans, and of networks. -/
namespace Go.Proofs.YtmmokjnljaifcaaGreatDoor
set_option linter.unusedVariables false
set_option linter.unusedSimpArgs false
open Go.RowKit
attribute [local go_sem] cell_onto

/-- what mark.. leaves: cells in [lo, hi) turned, consecutive numbers stand in them (M), m is the next number -/
def MarkP (lo hi : Nat) (m : Int) (M : World → Prop) (w : World) (e : Ending) (w' : World) : Prop := e = .returned (.int .i64 m) ∧ Off (fun x => lo ≤ x ∧ x < hi) w w' ∧ M w'
/-- rows in memory of their own -/
def OwnInts (w : World) (lo hi : Nat) (v : Value) (l : List Int) : Prop := ∃ g, (0 < l.length → lo ≤ g ∧ g < hi) ∧ Own w g 1 v l.length (intCell l)
def MarkedInts (w : World) (lo hi : Nat) (v : Value) (l : List Int) (k : Int) : Prop := Row w lo hi 1 v l.length (numCell k)
section
variable {w w' : World} {lo hi lo' hi' : Nat} {v : Value} {k : Int}
theorem OwnInts.ext {l : List Int} (h : OwnInts w lo hi v l) (hx : Ext w w') (hh : hi ≤ w.heap.size) : OwnInts w' lo hi v l := by
  obtain ⟨g, h1, h2⟩ := h
  exact ⟨g, h1, h2.ext hx⟩
theorem OwnInts.off {S : Nat → Prop} {l : List Int} (h : OwnInts w lo hi v l) (hx : Off S w w') (hs : ∀ k, lo ≤ k → k < hi → ¬ S k) (hh : hi ≤ w.heap.size) : OwnInts w' lo hi v l := by
  obtain ⟨g, h1, h2⟩ := h
  exact ⟨g, h1, h2.off hx (fun hn => hs g (h1 hn).1 (h1 hn).2)⟩
theorem OwnInts.ints {l : List Int} (h : OwnInts w lo hi v l) : Ints w lo hi v l := by
  obtain ⟨g, h1, h2⟩ := h
  exact h2.row h1
theorem OwnInts.len {l : List Int} (h : OwnInts w lo hi v l) : ∃ A c, v = .slice A l.length c := by
  obtain ⟨g, h1, h2⟩ := h
  exact h2.len
theorem Ints.upAt {l : List Int} (h : Ints w lo hi v l) (hh : hi ≤ w.heap.size) (hx : Ext w w') : Ints w' 0 w'.heap.size v l := Ints.up (h.mono (Nat.zero_le _) hh) hx
theorem Spans.upAt {l : List Sp} (h : Spans w lo hi v l) (hh : hi ≤ w.heap.size) (hx : Ext w w') : Spans w' 0 w'.heap.size v l := Spans.up (h.mono (Nat.zero_le _) hh) hx
end

/-! ### mark.. and held.. of rows in memory of their own, said alike -/
theorem markInts (v : Value) (lo hi : Nat) (l : List Int) (k : Int) (w : World) (h : OwnInts w lo hi v l) (hn : l.length ≤ 1048576) (hk0 : 0 ≤ k) (hk : k ≤ 562949953421312) :
    Calls Tryz.prog 36 #[v, .int .i64 k] w (MarkP lo hi (k + l.length) (fun w' => MarkedInts w' lo hi v l k) w) := by
  obtain ⟨g, h1, h2⟩ := h
  refine Calls.mono (laws_markInt64S v g _ _ k w h2 hn hk0 (by omega)) ?_
  rintro e w1 ⟨rfl, hx1, hm1⟩
  exact ⟨by simp, hx1.mono (fun x hx => by have := h1 hx.1; have := hx.2; omega), hm1.row h1⟩
end Go.Proofs.YtmmokjnljaifcaaGreatDoor
