/- Plain: a list of whole numbers without its first. -/
import Derived.Test.YtfajmlkiidnhlaaQ3Lib
namespace Go.Proofs.Ytfajmlkiidnhlaa
set_option linter.unusedVariables false
set_option linter.unusedSimpArgs false
open Go.RowKit

theorem inAt_tail (l : List Int) (i : Nat) : inAt l.tail i = inAt l (i + 1) := by
  unfold inAt
  cases l <;> simp [List.getD]
theorem Ints.cap_le {w : World} {lo hi : Nat} {A : Option Addr} {n c : Nat} {l : List Int} (h : Ints w lo hi (.slice A n c) l) : l.length ≤ c := by
  obtain ⟨hm, A', c', e, hc, hr⟩ := h
  injection e with e1 e2 e3
  omega
theorem Ints.tail {w : World} {lo hi : Nat} {A : Option Addr} {n c b off : Nat} {l : List Int} (h : Ints w lo hi (.slice A n c) l) (hA : A = some ⟨b, off, none⟩) (h0 : 0 < l.length) : Ints w lo hi (.slice (some ⟨b, off + 1, none⟩) (l.length - 1) (c - 1)) l.tail := by
  subst hA
  obtain ⟨hm, A', c', e, hc, hr⟩ := h
  injection e with e1 e2 e3
  subst e3
  obtain ⟨b', off', e4, h1, h2, h3⟩ := hr h0
  rw [← e1] at e4
  injection e4 with e4
  injection e4 with e5 e6
  subst e5 e6
  have hl : l.tail.length = l.length - 1 := by simp
  unfold Ints
  rw [hl]
  refine ⟨by omega, _, _, rfl, by omega, fun _ => ⟨b, off + 1, rfl, h1, h2, fun i hi => ?_⟩⟩
  have := h3 (i + 1) (by omega)
  rw [show off + (i + 1) = off + 1 + i by omega] at this
  rw [this]
  unfold intCell
  rw [inAt_tail]
/-- .. as Go cuts it: where nothing is left of the room the place stays -/
theorem Ints.tail2 {w : World} {lo hi : Nat} {A : Option Addr} {n c b off : Nat} {l : List Int} (h : Ints w lo hi (.slice A n c) l) (hA : A = some ⟨b, off, none⟩) (h0 : 0 < l.length) :
    Ints w lo hi (.slice (if c = 1 then some ⟨b, off, none⟩ else some ⟨b, off + 1, none⟩) (l.length - 1) (c - 1)) l.tail := by
  by_cases hc : c = 1
  · rw [if_pos hc]
    have h1 := h.cap_le
    have hl : l.tail.length = l.length - 1 := by simp
    unfold Ints
    rw [hl]
    exact ⟨by have := h.1; omega, _, _, rfl, by omega, fun hh => by omega⟩
  · rw [if_neg hc]
    exact h.tail hA h0
end Go.Proofs.Ytfajmlkiidnhlaa
