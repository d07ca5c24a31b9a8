/- Contracts: AddLink. -/
import Derived.Test.YtfajmlkiidnhlaaQ4T
namespace Go.Proofs.Ytfajmlkiidnhlaa
set_option linter.unusedVariables false
set_option linter.unusedSimpArgs false
open Go.RowKit
attribute [local go_sem] cell_onto

theorem NetOk.small {n : Net} (h : NetOk n) : Small n := ⟨by have := h.1; omega, by have := h.2.1; omega, fun i hi => by have := (h.2.2.1 i hi).1; omega⟩
theorem link_cells (a b c d : Int) : ∀ i, i < 4 → [Value.int .i64 a, .int .i64 b, .int .i64 c, .int .i64 d][i]? = some (linkCell [⟨a, b, c, d⟩] i)
  | 0, _ => rfl
  | 1, _ => rfl
  | 2, _ => rfl
  | 3, _ => rfl
  | i + 4, h => absurd h (by omega)
noncomputable def addE (n : Net) (l : Lk) : Int := bif B (NetOk n) then (bif B (LkOk l n.sets.length) then (bif B (n.links.length = 20) then 3 else 0) else 2) else 1
noncomputable def addV (n : Net) (l : Lk) : Net := bif B (addE n l = 0) then ⟨n.sets, n.links ++ [l]⟩ else noNet
theorem addV_no {n : Net} {l : Lk} {c : Int} (h : addE n l = c) (h0 : c ≠ 0) : addV n l = noNet := by unfold addV; rw [B_false (by omega)]; rfl
theorem add_net {n : Net} {l : Lk} (h : ¬ NetOk n) : addV n l = noNet ∧ addE n l = 1 := by
  have e : addE n l = 1 := by unfold addE; rw [B_false h]; rfl
  exact ⟨addV_no e (by omega), e⟩
theorem add_link {n : Net} {l : Lk} (h : NetOk n) (h2 : ¬ LkOk l n.sets.length) : addV n l = noNet ∧ addE n l = 2 := by
  have e : addE n l = 2 := by unfold addE; rw [B_true h, B_false h2]; rfl
  exact ⟨addV_no e (by omega), e⟩
theorem add_many {n : Net} {l : Lk} (h : NetOk n) (h2 : LkOk l n.sets.length) (h3 : n.links.length = 20) : addV n l = noNet ∧ addE n l = 3 := by
  have e : addE n l = 3 := by unfold addE; rw [B_true h, B_true h2, B_true h3]; rfl
  exact ⟨addV_no e (by omega), e⟩
theorem add_ok {n : Net} {l : Lk} (h : NetOk n) (h2 : LkOk l n.sets.length) (h3 : ¬ n.links.length = 20) : addV n l = ⟨n.sets, n.links ++ [l]⟩ ∧ addE n l = 0 := by
  have e : addE n l = 0 := by unfold addE; rw [B_true h, B_true h2, B_false h3]; rfl
  exact ⟨by unfold addV; rw [B_true e]; rfl, e⟩
theorem addV_small (n : Net) (l : Lk) : Small (addV n l) := by
  have hn : Small noNet := ⟨by simp [noNet], by simp [noNet], fun i hi => absurd hi (by simp [noNet])⟩
  by_cases h : addE n l = 0
  · have hok : NetOk n := Classical.byContradiction (fun hh => by rw [(add_net hh).2] at h; omega)
    unfold addV
    rw [B_true h]
    have h1 := hok.small
    exact ⟨h1.1, by have := hok.2.1; simp; omega, h1.2.2⟩
  · unfold addV
    rw [B_false h]
    exact hn


end Go.Proofs.Ytfajmlkiidnhlaa
