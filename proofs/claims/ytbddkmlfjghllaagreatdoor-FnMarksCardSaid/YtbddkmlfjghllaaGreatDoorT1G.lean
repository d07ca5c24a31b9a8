/- Texts merged (a claim holds at most sixty files): G, H, I, J, K, M, P. -/
import Derived.Test.YtbddkmlfjghllaaGreatDoorT1A
import Derived.Test.YtbddkmlfjghllaaGreatDoorT1Lib
/- Contracts: counts of statements, of days, of choices. -/
namespace Go.Proofs.YtbddkmlfjghllaaGreatDoor
set_option linter.unusedVariables false
set_option linter.unusedSimpArgs false
open Go.RowKit
attribute [local go_sem] cell_onto


end Go.Proofs.YtbddkmlfjghllaaGreatDoor

/- Contracts: lost days, choices. -/
namespace Go.Proofs.YtbddkmlfjghllaaGreatDoor
set_option linter.unusedVariables false
set_option linter.unusedSimpArgs false
open Go.RowKit
attribute [local go_sem] cell_onto

end Go.Proofs.YtbddkmlfjghllaaGreatDoor

/- Contracts: the number of choices; days in sets; days for a network. -/
namespace Go.Proofs.YtbddkmlfjghllaaGreatDoor
set_option linter.unusedVariables false
set_option linter.unusedSimpArgs false
open Go.RowKit
attribute [local go_sem] cell_onto

def SetsFit (l : List (List Sp)) : Prop := ∀ i, i < l.length → (setAt l i).length ≤ 300
theorem SetsFit.of {n : Net} (h : NetOk n) : SetsFit n.sets := fun i hi => (h.2.2.1 i hi).1
theorem prod_fit {m : Int} (hm0 : 0 ≤ m) (hm : m ≤ 4096) {l : List (List Sp)} (hf : SetsFit l) {j : Nat} (hj : j < l.length) (h : ∀ i, i < j → (setAt l i).length ≠ 0) :
    0 ≤ prodTo m l j * ((setAt l j).length : Int) ∧ prodTo m l j * ((setAt l j).length : Int) ≤ 1229100 ∧ 1 ≤ prodTo m l j ∧ prodTo m l j ≤ 4097 := by
  have h1 := prodTo_bd hm0 j h
  have h2 : ((setAt l j).length : Int) ≤ 300 := by have := hf j hj; omega
  refine ⟨Int.mul_nonneg (by omega) (by omega), ?_, by omega, by omega⟩
  have := Int.mul_le_mul (a := prodTo m l j) (b := ((setAt l j).length : Int)) (c := 4097) (d := 300) (by omega) h2 (by omega) (by omega)
  omega

end Go.Proofs.YtbddkmlfjghllaaGreatDoor

/- Contracts: days in sets; days for a network; links that are broken; DoSolve. -/
namespace Go.Proofs.YtbddkmlfjghllaaGreatDoor
set_option linter.unusedVariables false
set_option linter.unusedSimpArgs false
open Go.RowKit
attribute [local go_sem] cell_onto

theorem impl_within_b {n lo hi : Int} {b : Bool} (hb : B (lo ≤ n ∧ n ≤ hi) = b) (w : World) : Calls Tryz.prog 44 #[.int .i64 n, .int .i64 lo, .int .i64 hi] w (RetS (.bool b) w) := by
  subst hb; exact impl_within n lo hi w
theorem spec_l01In_b {n lo hi : Int} {b : Bool} (hb : B (lo ≤ n ∧ n ≤ hi) = b) (w : World) : Calls Tryz.prog 51 #[.int .i64 n, .int .i64 lo, .int .i64 hi] w (RetS (.bool b) w) := by
  subst hb; exact spec_l01In n lo hi w
def DayIn (l : List Sp) (d : Int) (i : Nat) : Prop := (spAt l i).fr ≤ d ∧ d ≤ (spAt l i).to
theorem hasDay_iff {l : List Sp} {d : Int} : HasDay l d ↔ Some_ l.length (DayIn l d) := Iff.rfl

set_option maxHeartbeats 400000 in
theorem impl_hasDay_1 (a b d : Int) (g : Nat) (w : World) (h : w.cell? ⟨g, 0, none⟩ = some (.int .i64 d)) (hg : g < w.heap.size) :
    Calls Tryz.prog 99 #[.agg #[.int .i64 a, .int .i64 b], .pointer (some ⟨g, 0, none⟩)] w (RetX (.bool (B (a ≤ d ∧ d ≤ b))) w) := by
  go_enter Tryz.func99, Tryz.ntmps99
  go_wp2_with (go_at_call 44; refine (impl_within _ _ _ _).mono ?_; rintro e w1 ⟨rfl, rfl⟩)
  go_ret
  exact ⟨rfl, (by repeat (first | exact Ext.refl _ | assumption | refine Ext.alloc ?_ _ | refine Ext.drew ?_ | refine Ext.drewN ?_ _ | refine Ext.setCell ?_ (by first | (simp; done) | (simp; omega) | omega) _ | refine Ext.trans ?_ (by assumption)))⟩
set_option maxHeartbeats 400000 in
theorem impl_hasDay (v : Value) (l : List Sp) (d : Int) (w : World) (h : Spans w 0 w.heap.size v l) : Calls Tryz.prog 58 #[v, .int .i64 d] w (RetX (.bool (B (HasDay l d))) w) := by
  have H := Lib.hid h
  clear h
  go_enter Tryz.func58, Tryz.ntmps58
  go_wp2_with fail
  have hb := Boxed.new w [.int .i64 d] 2
  refine Calls.mono (containsFunc_spans v l 99 #[.pointer (some ⟨w.heap.size, 0, none⟩)] (DayIn l d) _ (H.out.up (by repeat (first | exact Ext.refl _ | assumption | refine Ext.alloc ?_ _ | refine Ext.drew ?_ | refine Ext.drewN ?_ _ | refine Ext.setCell ?_ (by first | (simp; done) | (simp; omega) | omega) _ | refine Ext.trans ?_ (by assumption)))) Tryz.call99
    (fun i w' _ hx => impl_hasDay_1 _ _ d _ w' (hb.ext hx).at0 (hb.ext hx).1)) ?_
  rintro e w1 ⟨rfl, hx1⟩
  clear hb
  go_wp2_with fail
  go_ret
  exact ⟨rfl, (by repeat (first | exact Ext.refl _ | assumption | refine Ext.alloc ?_ _ | refine Ext.drew ?_ | refine Ext.drewN ?_ _ | refine Ext.setCell ?_ (by first | (simp; done) | (simp; omega) | omega) _ | refine Ext.trans ?_ (by assumption)))⟩
theorem daysOk_iff {l : List Int} : ¬ Some_ l.length (fun i => ¬ DayOk (inAt l i)) ↔ DaysOk l := by
  unfold Some_ DaysOk
  constructor
  · intro h i hi
    exact Classical.byContradiction fun hn => h ⟨i, hi, hn⟩
  · rintro h ⟨i, hi, hn⟩
    exact hn (h i hi)
end Go.Proofs.YtbddkmlfjghllaaGreatDoor

/- Contracts: links that are broken; DoSolve; EmptyVariables. -/
namespace Go.Proofs.YtbddkmlfjghllaaGreatDoor
set_option linter.unusedVariables false
set_option linter.unusedSimpArgs false
open Go.RowKit
attribute [local go_sem] cell_onto

/-- a link's two days, in memory -/
theorem link_days {w : World} {A : Option Addr} {c m : Nat} {ds : List Int} {n : Nat} {l : Lk} (h : Ints w 0 w.heap.size (.slice A m c) ds) (hl : LkOk l n) (hn : ds.length = n) (hd : DaysOk ds) :
    ∃ b off, A = some ⟨b, off, none⟩ ∧ b < w.heap.size ∧ w.cell? ⟨b, off + l.af.toNat, none⟩ = some (.int .i64 (inAt ds l.af.toNat)) ∧ w.cell? ⟨b, off + l.be.toNat, none⟩ = some (.int .i64 (inAt ds l.be.toNat)) ∧
      DayOk (inAt ds l.af.toNat) ∧ DayOk (inAt ds l.be.toNat) := by
  obtain ⟨⟨a1, a2⟩, ⟨b1, b2⟩, _⟩ := hl
  obtain ⟨b, off, e, _, hb, h1⟩ := h.at_ (i := l.af.toNat) (by omega)
  obtain ⟨b', off', e', _, _, h2⟩ := h.at_ (i := l.be.toNat) (by omega)
  rw [e] at e'
  injection e' with e'
  injection e' with e1 e2
  subst e1 e2
  exact ⟨b, off, e, hb, h1, h2, hd _ (by omega), hd _ (by omega)⟩

end Go.Proofs.YtbddkmlfjghllaaGreatDoor

/- Contracts: the program's DoSolve; EmptyVariables. -/
namespace Go.Proofs.YtbddkmlfjghllaaGreatDoor
set_option linter.unusedVariables false
set_option linter.unusedSimpArgs false
open Go.RowKit
attribute [local go_sem] cell_onto

theorem NewRow.nil (sz : Nat) (f : Nat → Value) (w : World) : NewRow sz 0 f w (.returned (.slice none 0 0)) w :=
  ⟨_, 0, rfl, Ext.refl _, fun h => absurd h (by omega), Nat.zero_le _, none, 0, rfl, Nat.le_refl _, fun h => absurd h (by omega)⟩


/-- what a function returns that gives a list in new memory, and a code -/
def NewInts2 (l : List Int) (e0 : Int) (w : World) (e : Ending) (w' : World) : Prop :=
  ∃ v g, e = .returned (.tuple #[v, .int .i64 e0]) ∧ Ext w w' ∧ (0 < l.length → w.heap.size ≤ g) ∧ Own w' g 1 v l.length (intCell l)
theorem NewInts2.nil (e0 : Int) {w w' : World} (h : Ext w w') : NewInts2 [] e0 w (.returned (.tuple #[.slice none 0 0, .int .i64 e0])) w' :=
  ⟨_, 0, rfl, h, fun h => absurd h (by simp), Nat.zero_le _, none, 0, rfl, Nat.le_refl _, fun h => absurd h (by simp)⟩
noncomputable def emptyV (n : Net) : List Int := bif B (NetOk n) then emptyL n else []
theorem emptyV_ok {n : Net} (h : NetOk n) : emptyV n = emptyL n := by unfold emptyV; rw [B_true h]; rfl
theorem emptyV_no {n : Net} (h : ¬ NetOk n) : emptyV n = [] := by unfold emptyV; rw [B_false h]; rfl
theorem emptyV_small (n : Net) (h : Small n) : (emptyV n).length ≤ 1048576 := by
  by_cases hk : NetOk n
  · rw [emptyV_ok hk]
    exact Nat.le_trans (notTo_len _ _) h.1
  · rw [emptyV_no hk]
    exact Nat.zero_le _


end Go.Proofs.YtbddkmlfjghllaaGreatDoor

/- Contracts: the program's and the reference's BrokenLinks. -/
namespace Go.Proofs.YtbddkmlfjghllaaGreatDoor
set_option linter.unusedVariables false
set_option linter.unusedSimpArgs false
open Go.RowKit
attribute [local go_sem] cell_onto

noncomputable def brokenV (n : Net) (ds : List Int) : List Int := bif B (dayE n ds = 0) then brokenL n ds else []
theorem brokenV_ok {n : Net} {ds : List Int} (h : dayE n ds = 0) : brokenV n ds = brokenL n ds := by unfold brokenV; rw [B_true h]; rfl
theorem brokenV_no {n : Net} {ds : List Int} (h : ¬ dayE n ds = 0) : brokenV n ds = [] := by unfold brokenV; rw [B_false h]; rfl
theorem brokenV_small (n : Net) (ds : List Int) (h : Small n) : (brokenV n ds).length ≤ 1048576 := by
  by_cases hk : dayE n ds = 0
  · rw [brokenV_ok hk]
    exact Nat.le_trans (notTo_len _ _) h.2.1
  · rw [brokenV_no hk]
    exact Nat.zero_le _


end Go.Proofs.YtbddkmlfjghllaaGreatDoor
