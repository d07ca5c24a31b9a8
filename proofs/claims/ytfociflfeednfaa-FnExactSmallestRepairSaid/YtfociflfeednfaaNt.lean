/- Networks whose choices may be tried: plain bounds. -/
import Derived.Test.YtfociflfeednfaaCh
import Derived.Test.YtfociflfeednfaaI
namespace Go.Proofs.Ytfociflfeednfaa
set_option linter.unusedVariables false
set_option linter.unusedSimpArgs false

/-- a network whose choices may be tried -/
structure NetFit (n : Net) : Prop where
  s8 : n.sets.length ≤ 8
  k21 : n.links.length ≤ 21
  lks : LksOk n.links n.sets.length
  sps : ∀ i, i < n.sets.length → ∀ x, x ∈ setAt n.sets i → SpOk x
  fit : SetsFit n.sets
theorem NetFit.of {n : Net} (h : NetOk n) : NetFit n :=
  ⟨h.1, by have := h.2.1; omega, h.2.2.2, fun i hi x hx => by
    obtain ⟨k, hk, e⟩ := mem_spAt hx
    rw [← e]
    exact ((h.2.2.1 i hi).2 k hk).1, SetsFit.of h⟩
theorem NetFit.ch {n : Net} (h : NetFit n) {c : List Sp} (hc : IsCh n.sets c) : c.length = n.sets.length ∧ c.length ≤ 8 ∧ LksOk n.links c.length ∧ SpsOk c := by
  have hl := hc.len
  refine ⟨hl, by have := h.s8; omega, by rw [hl]; exact h.lks, fun i hi => h.sps i (by omega) _ (hc.mem i hi)⟩

end Go.Proofs.Ytfociflfeednfaa
