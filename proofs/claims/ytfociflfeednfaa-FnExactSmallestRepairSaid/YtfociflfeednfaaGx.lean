/- Contracts: GiveUp. -/
import Derived.Test.YtfociflfeednfaaGw
namespace Go.Proofs.Ytfociflfeednfaa
set_option linter.unusedVariables false
set_option linter.unusedSimpArgs false
open Go.RowKit
attribute [local go_sem] cell_onto

noncomputable def gvV (n : Net) (l : List Int) : Net := bif B (stmE n l = 0) then giveN (fun i => HasI l i) n else noNet
theorem gvV_no {n : Net} {l : List Int} {c : Int} (h : stmE n l = c) (h0 : c ≠ 0) : gvV n l = noNet := by unfold gvV; rw [B_false (by omega)]; rfl
theorem gvV_ok {n : Net} {l : List Int} (h : stmE n l = 0) : gvV n l = giveN (fun i => HasI l i) n := by unfold gvV; rw [B_true h]; rfl
theorem gvV_small (n : Net) (l : List Int) : Small (gvV n l) := by
  have hn : Small noNet := ⟨by simp [noNet], by simp [noNet], fun i hi => absurd hi (by simp [noNet])⟩
  by_cases h : stmE n l = 0
  · have hok : NetOk n := Classical.byContradiction (fun hh => by rw [stm_net hh] at h; omega)
    have h1 : NetOk (giveN (fun i => HasI l i) n) := giveN_ok hok
    rw [gvV_ok h]
    exact ⟨by have := h1.1; omega, by have := h1.2.1; omega, fun i hi => by have := (h1.2.2.1 i hi).1; omega⟩
  · unfold gvV
    rw [B_false h]
    exact hn
theorem OwnNet.lower {w : World} {lo lo' hi : Nat} {v : Value} {n : Net} (h : OwnNet w lo hi v n) (hl : lo' ≤ lo) : OwnNet w lo' hi v n := by
  obtain ⟨s, k, a, b, gk, e, h1, h2, h3, h4, h5⟩ := h
  exact ⟨s, k, a, b, gk, e, by omega, h2, h3, h4, fun hn => by have := h5 hn; omega⟩
/-- a network made by a callee, put into the result's box -/
theorem NewNet2.put {m : Net} {c : Int} {w w2 w3 : World} {r : Nat} {s k : Value} (hx : Ext w w2) (hr : w.heap.size ≤ r) (hr2 : r < w2.heap.size) (hx3 : Ext w2 w3) (ho : OwnNet w3 w2.heap.size w3.heap.size (.agg #[s, k]) m) :
    NewNet2 m c w (.returned (.tuple #[.agg #[s, k], .int .i64 c])) ((w3.setCell ⟨r, 0, none⟩ s).setCell ⟨r, 1, none⟩ k) := by
  have hO : Off (fun x => x = r) w3 ((w3.setCell ⟨r, 0, none⟩ s).setCell ⟨r, 1, none⟩ k) := Off.setCell (S := fun x => x = r) (p := ⟨r, 1, none⟩) (Off.setCell (S := fun x => x = r) (p := ⟨r, 0, none⟩) (Off.refl _ _) (.inl rfl) _) (.inl rfl) _
  have hz : ((w3.setCell ⟨r, 0, none⟩ s).setCell ⟨r, 1, none⟩ k).heap.size = w3.heap.size := by simp [World.setCell]
  refine ⟨s, k, rfl, (hx.trans hx3).off hO (fun x hx hh => by omega), ?_⟩
  rw [hz]
  exact (ho.off hO (fun x h1 h2 hh => by omega)).lower hx.size


end Go.Proofs.Ytfociflfeednfaa
