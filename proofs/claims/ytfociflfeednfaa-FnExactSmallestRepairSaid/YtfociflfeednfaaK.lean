/- Contracts: links that are broken; DoSolve; EmptyVariables. -/
import Derived.Test.YtfociflfeednfaaJ
namespace Go.Proofs.Ytfociflfeednfaa
set_option linter.unusedVariables false
set_option linter.unusedSimpArgs false
open Go.RowKit
attribute [local go_sem] cell_onto

/-- a link's two days, in memory -/
theorem link_days {w : World} {A : Option Addr} {c m : Nat} {ds : List Int} {n : Nat} {l : Lk} (h : Ints w 0 w.heap.size (.slice A m c) ds) (hl : LkOk l n) (hn : ds.length = n) (hd : DaysOk ds) :
    ∃ b off, A = some ⟨b, off, none⟩ ∧ b < w.heap.size ∧ w.cell? ⟨b, off + l.af.toNat, none⟩ = some (.int .i64 (inAt ds l.af.toNat)) ∧ w.cell? ⟨b, off + l.be.toNat, none⟩ = some (.int .i64 (inAt ds l.be.toNat)) ∧
      DayOk (inAt ds l.af.toNat) ∧ DayOk (inAt ds l.be.toNat) := by
  obtain ⟨⟨a1, a2⟩, ⟨b1, b2⟩, _⟩ := hl
  obtain ⟨b, off, e, _, hb, h1⟩ := h.at_ (i := l.af.toNat) (by omega)
  obtain ⟨b', off', e', _, _, h2⟩ := h.at_ (i := l.be.toNat) (by omega)
  rw [e] at e'
  injection e' with e'
  injection e' with e1 e2
  subst e1 e2
  exact ⟨b, off, e, hb, h1, h2, hd _ (by omega), hd _ (by omega)⟩

end Go.Proofs.Ytfociflfeednfaa
