/- Texts merged (a claim holds at most sixty files): K, M, P. -/
import Derived.Test.YtfmnkojjkjkdeaaDoorR1G
import Derived.Test.YtfmnkojjkjkdeaaDoorR1E
/- Contracts: links that are broken; DoSolve; EmptyVariables. -/
namespace Go.Proofs.YtfmnkojjkjkdeaaDoor
set_option linter.unusedVariables false
set_option linter.unusedSimpArgs false
open Go.RowKit
attribute [local go_sem] cell_onto

/-- a link's two days, in memory -/
theorem link_days {w : World} {A : Option Addr} {c m : Nat} {ds : List Int} {n : Nat} {l : Lk} (h : Ints w 0 w.heap.size (.slice A m c) ds) (hl : LkOk l n) (hn : ds.length = n) (hd : DaysOk ds) :
    ∃ b off, A = some ⟨b, off, none⟩ ∧ b < w.heap.size ∧ w.cell? ⟨b, off + l.af.toNat, none⟩ = some (.int .i64 (inAt ds l.af.toNat)) ∧ w.cell? ⟨b, off + l.be.toNat, none⟩ = some (.int .i64 (inAt ds l.be.toNat)) ∧
      DayOk (inAt ds l.af.toNat) ∧ DayOk (inAt ds l.be.toNat) := by
  obtain ⟨⟨a1, a2⟩, ⟨b1, b2⟩, _⟩ := hl
  obtain ⟨b, off, e, _, hb, h1⟩ := h.at_ (i := l.af.toNat) (by omega)
  obtain ⟨b', off', e', _, _, h2⟩ := h.at_ (i := l.be.toNat) (by omega)
  rw [e] at e'
  injection e' with e'
  injection e' with e1 e2
  subst e1 e2
  exact ⟨b, off, e, hb, h1, h2, hd _ (by omega), hd _ (by omega)⟩

end Go.Proofs.YtfmnkojjkjkdeaaDoor

/- Contracts: the program's DoSolve; EmptyVariables. -/
namespace Go.Proofs.YtfmnkojjkjkdeaaDoor
set_option linter.unusedVariables false
set_option linter.unusedSimpArgs false
open Go.RowKit
attribute [local go_sem] cell_onto

theorem NewRow.nil (sz : Nat) (f : Nat → Value) (w : World) : NewRow sz 0 f w (.returned (.slice none 0 0)) w :=
  ⟨_, 0, rfl, Ext.refl _, fun h => absurd h (by omega), Nat.zero_le _, none, 0, rfl, Nat.le_refl _, fun h => absurd h (by omega)⟩


/-- what a function returns that gives a list in new memory, and a code -/
def NewInts2 (l : List Int) (e0 : Int) (w : World) (e : Ending) (w' : World) : Prop :=
  ∃ v g, e = .returned (.tuple #[v, .int .i64 e0]) ∧ Ext w w' ∧ (0 < l.length → w.heap.size ≤ g) ∧ Own w' g 1 v l.length (intCell l)
theorem NewInts2.nil (e0 : Int) {w w' : World} (h : Ext w w') : NewInts2 [] e0 w (.returned (.tuple #[.slice none 0 0, .int .i64 e0])) w' :=
  ⟨_, 0, rfl, h, fun h => absurd h (by simp), Nat.zero_le _, none, 0, rfl, Nat.le_refl _, fun h => absurd h (by simp)⟩
noncomputable def emptyV (n : Net) : List Int := bif B (NetOk n) then emptyL n else []
theorem emptyV_ok {n : Net} (h : NetOk n) : emptyV n = emptyL n := by unfold emptyV; rw [B_true h]; rfl
theorem emptyV_no {n : Net} (h : ¬ NetOk n) : emptyV n = [] := by unfold emptyV; rw [B_false h]; rfl
theorem emptyV_small (n : Net) (h : Small n) : (emptyV n).length ≤ 1048576 := by
  by_cases hk : NetOk n
  · rw [emptyV_ok hk]
    exact Nat.le_trans (notTo_len _ _) h.1
  · rw [emptyV_no hk]
    exact Nat.zero_le _


end Go.Proofs.YtfmnkojjkjkdeaaDoor

/- Contracts: the program's and the reference's BrokenLinks. -/
namespace Go.Proofs.YtfmnkojjkjkdeaaDoor
set_option linter.unusedVariables false
set_option linter.unusedSimpArgs false
open Go.RowKit
attribute [local go_sem] cell_onto

noncomputable def brokenV (n : Net) (ds : List Int) : List Int := bif B (dayE n ds = 0) then brokenL n ds else []
theorem brokenV_ok {n : Net} {ds : List Int} (h : dayE n ds = 0) : brokenV n ds = brokenL n ds := by unfold brokenV; rw [B_true h]; rfl
theorem brokenV_no {n : Net} {ds : List Int} (h : ¬ dayE n ds = 0) : brokenV n ds = [] := by unfold brokenV; rw [B_false h]; rfl
theorem brokenV_small (n : Net) (ds : List Int) (h : Small n) : (brokenV n ds).length ≤ 1048576 := by
  by_cases hk : dayE n ds = 0
  · rw [brokenV_ok hk]
    exact Nat.le_trans (notTo_len _ _) h.2.1
  · rw [brokenV_no hk]
    exact Nat.zero_le _


end Go.Proofs.YtfmnkojjkjkdeaaDoor
