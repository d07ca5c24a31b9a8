/- Texts merged (a claim holds at most sixty files): Nt, Na. -/
import Derived.Test.YtfmnkojjkjkdeaaGreatDoorQ3Up
import Derived.Test.YtfmnkojjkjkdeaaGreatDoorQ3G
import Derived.Test.YtfmnkojjkjkdeaaGreatDoorQ3In
import Derived.Test.YtfmnkojjkjkdeaaGreatDoorQ3E
/- Networks whose choices may be tried: plain bounds. -/
namespace Go.Proofs.YtfmnkojjkjkdeaaGreatDoor
set_option linter.unusedVariables false
set_option linter.unusedSimpArgs false

/-- a network whose choices may be tried -/
structure NetFit (n : Net) : Prop where
  s8 : n.sets.length ≤ 8
  k21 : n.links.length ≤ 21
  lks : LksOk n.links n.sets.length
  sps : ∀ i, i < n.sets.length → ∀ x, x ∈ setAt n.sets i → SpOk x
  fit : SetsFit n.sets
theorem NetFit.of {n : Net} (h : NetOk n) : NetFit n :=
  ⟨h.1, by have := h.2.1; omega, h.2.2.2, fun i hi x hx => by
    obtain ⟨k, hk, e⟩ := mem_spAt hx
    rw [← e]
    exact ((h.2.2.1 i hi).2 k hk).1, SetsFit.of h⟩
theorem NetFit.ch {n : Net} (h : NetFit n) {c : List Sp} (hc : IsCh n.sets c) : c.length = n.sets.length ∧ c.length ≤ 8 ∧ LksOk n.links c.length ∧ SpsOk c := by
  have hl := hc.len
  refine ⟨hl, by have := h.s8; omega, by rw [hl]; exact h.lks, fun i hi => h.sps i (by omega) _ (hc.mem i hi)⟩

end Go.Proofs.YtfmnkojjkjkdeaaGreatDoor

/- Plain: networks narrowed round by round; the answers of IsNarrow, NarrowLink, NarrowRound, NarrowAll. -/
namespace Go.Proofs.YtfmnkojjkjkdeaaGreatDoor
set_option linter.unusedVariables false
set_option linter.unusedSimpArgs false

def Fix (n : Net) : Prop := (narR n).sets = n.sets
def itR (n : Net) : Nat → Net
  | 0 => n
  | k + 1 => narR (itR n k)
theorem itR_ok {n : Net} (h : NetD n) : ∀ k, NetD (itR n k) ∧ Sub (itR n k) n
  | 0 => ⟨h, Sub.refl n⟩
  | k + 1 => by
    obtain ⟨h1, h2⟩ := itR_ok h k
    obtain ⟨h3, h4⟩ := narR_ok h1
    exact ⟨h3, h4.trans h2⟩
/-- the rounds before k go on -/
def Goes (n : Net) (k : Nat) : Prop := ∀ j, j < k → ¬ Fix (itR n j) ∧ Lim (itR n (j + 1))
def Stops (n : Net) (k : Nat) : Prop := k ≤ 200 ∧ Goes n k ∧ Fix (itR n k)
theorem Goes.zero (n : Net) : Goes n 0 := fun j hj => absurd hj (by omega)
theorem Goes.step {n : Net} {k : Nat} (h : Goes n k) (h1 : ¬ Fix (itR n k)) (h2 : Lim (itR n (k + 1))) : Goes n (k + 1) := by
  intro j hj
  by_cases e : j = k
  · subst e; exact ⟨h1, h2⟩
  · exact h j (by omega)
theorem Stops.uniq {n : Net} {k l : Nat} (h : Stops n k) (g : Stops n l) : k = l := by
  rcases Nat.lt_trichotomy k l with e | e | e
  · exact absurd h.2.2 (g.2.1 k e).1
  · exact e
  · exact absurd g.2.2 (h.2.1 l e).1
open Classical in
noncomputable def naK (n : Net) : Nat := if h : ∃ k, Stops n k then h.choose else 0
noncomputable def naV (n : Net) : Net := bif B (NetOk n ∧ ∃ k, Stops n k) then itR n (naK n) else ⟨[], []⟩
noncomputable def naC (n : Net) : Int := bif B (NetOk n ∧ ∃ k, Stops n k) then naK n else 0
noncomputable def naE (n : Net) : Int := bif B (NetOk n) then (bif B (∃ k, Stops n k) then 0 else 3) else 1
theorem naK_eq {n : Net} {k : Nat} (h : Stops n k) : naK n = k := by
  have he : ∃ k, Stops n k := ⟨k, h⟩
  unfold naK
  rw [dif_pos he]
  exact he.choose_spec.uniq h
theorem na_yes {n : Net} {k : Nat} (ho : NetOk n) (h : Stops n k) : naV n = itR n k ∧ naC n = k ∧ naE n = 0 := by
  have he : ∃ k, Stops n k := ⟨k, h⟩
  unfold naV naC naE
  rw [B_true (show NetOk n ∧ _ from ⟨ho, he⟩), B_true ho, B_true he, naK_eq h]
  exact ⟨rfl, rfl, rfl⟩
theorem na_no {n : Net} (ho : NetOk n) (h : ¬ ∃ k, Stops n k) : naV n = ⟨[], []⟩ ∧ naC n = 0 ∧ naE n = 3 := by
  unfold naV naC naE
  rw [B_false (fun hh : NetOk n ∧ _ => h hh.2), B_true ho, B_false h]
  exact ⟨rfl, rfl, rfl⟩
theorem na_inv {n : Net} (ho : ¬ NetOk n) : naV n = ⟨[], []⟩ ∧ naC n = 0 ∧ naE n = 1 := by
  unfold naV naC naE
  rw [B_false (fun hh : NetOk n ∧ _ => ho hh.1), B_false ho]
  exact ⟨rfl, rfl, rfl⟩
theorem Goes.wide {n : Net} {k : Nat} (h : Goes n k) (h1 : ¬ Fix (itR n k)) (h2 : ¬ Lim (itR n (k + 1))) : ¬ ∃ k, Stops n k := by
  rintro ⟨l, hl⟩
  rcases Nat.lt_trichotomy l k with e | e | e
  · exact (h l e).1 hl.2.2
  · subst e; exact h1 hl.2.2
  · exact h2 (hl.2.1 k e).2
theorem Goes.end_ {n : Net} (h : Goes n 201) : ¬ ∃ k, Stops n k := by
  rintro ⟨l, hl⟩
  exact (h l (by have := hl.1; omega)).1 hl.2.2
theorem small_nil : Small ⟨[], []⟩ := ⟨Nat.zero_le _, Nat.zero_le _, fun i hi => absurd hi (Nat.not_lt_zero i)⟩
theorem NetD.small' {n : Net} (h : NetD n) : Small n := ⟨by have := h.ns; omega, by have := h.nl; omega, fun i hi => by have := (h.sets i hi).len; omega⟩
theorem naV_small (n : Net) : Small (naV n) := by
  by_cases h : NetOk n
  · by_cases h2 : ∃ k, Stops n k
    · obtain ⟨k, hk⟩ := h2
      rw [(na_yes h hk).1]
      exact (itR_ok h.d k).1.small'
    · rw [(na_no h h2).1]; exact small_nil
  · rw [(na_inv h).1]; exact small_nil

/-- IsNarrow's answer -/
noncomputable def isnV (n : Net) : Bool := B (NetOk n ∧ Fix n)
noncomputable def isnE (n : Net) : Int := bif B (NetOk n) then 0 else 1
theorem isn_ok {n : Net} (h : NetOk n) : isnV n = B (Fix n) ∧ isnE n = 0 := by
  unfold isnV isnE
  rw [B_true h, B_congr (show (NetOk n ∧ Fix n) ↔ Fix n from ⟨fun x => x.2, fun x => ⟨h, x⟩⟩)]
  exact ⟨rfl, rfl⟩
theorem isn_no {n : Net} (h : ¬ NetOk n) : isnV n = false ∧ isnE n = 1 := by
  unfold isnV isnE
  rw [B_false h, B_false (fun x : NetOk n ∧ Fix n => h x.1)]
  exact ⟨rfl, rfl⟩
/-- NarrowRound's answer -/
noncomputable def nrV (n : Net) : Net := bif B (NetOk n) then limV (narR n) else ⟨[], []⟩
noncomputable def nrE (n : Net) : Int := bif B (NetOk n) then limE (narR n) else 1
theorem nr_ok {n : Net} (h : NetOk n) : nrV n = limV (narR n) ∧ nrE n = limE (narR n) := by
  unfold nrV nrE
  rw [B_true h]
  exact ⟨rfl, rfl⟩
theorem nr_no {n : Net} (h : ¬ NetOk n) : nrV n = ⟨[], []⟩ ∧ nrE n = 1 := by
  unfold nrV nrE
  rw [B_false h]
  exact ⟨rfl, rfl⟩
theorem limV_small {n : Net} (h : NetD n) : Small (limV n) := by
  by_cases h2 : Lim n
  · rw [(lim_yes h2).2]; exact h.small'
  · rw [(lim_no h2).2]; exact small_nil
theorem nrV_small (n : Net) : Small (nrV n) := by
  by_cases h : NetOk n
  · rw [(nr_ok h).1]; exact limV_small (narR_ok h.d).1
  · rw [(nr_no h).1]; exact small_nil
end Go.Proofs.YtfmnkojjkjkdeaaGreatDoor
