/- How a code reads: from the reading to a row of bytes. -/
import Derived.Test.YtbddkmlfjghllaaGreatDoorT1Open
import Derived.Test.YtbddkmlfjghllaaGreatDoorT1Post
import Derived.Test.YtbddkmlfjghllaaGreatDoorT1S
import Derived.OpenShut
namespace Go.Proofs.YtbddkmlfjghllaaGreatDoor
set_option linter.unusedVariables false
set_option linter.unusedSimpArgs false
open Go.RowKit Go.ChangeShapes Go.WideShapes Go.Deep Go.Joins

section
variable {H : Type} {enc : TypeId × Value → H} {P : Program} {w : World} {base : Nat} {spare : Nat → Bool} {held : Bool}
/-- a slice of bytes -/
theorem open_bytes8 {t e : TypeId} {fuel : Nat} {cs : List Value} {x : DataW H × List MemPlace} (ht : P.underlying t = some (.slice e)) (he : P.underlying e = some (.int .u8)) (hC : P.cellsOf e = 1) (h : DataW.trod enc P w base spare held fuel t cs = some x) :
    ∃ v n, cs = [v] ∧ Byts w v n := by
  rcases open_slice ht h with ⟨h0, _⟩ | ⟨a, len, cap, m, n, D, Pl, hcs, hb, hl, hm, hmm, hx, hi⟩
  · exact ⟨_, 0, h0, fun _ => 0, ⟨Nat.zero_le _, none, 0, rfl, Nat.le_refl _, fun hn => absurd hn (by omega)⟩, fun i hi => absurd hi (by omega)⟩
  · have hlm : len ≤ m := by rw [hmm]; split <;> omega
    have hone : ∀ i, i < len → ∃ z : Int, w.cell? (a.add i) = some (.int .u8 z) ∧ 0 ≤ z ∧ z ≤ 255 := by
      intro i hil
      obtain ⟨cs', hc, ht'⟩ := hi i (by omega)
      obtain ⟨_, hcl, hat⟩ := World.cells?_some hc
      obtain ⟨z, rfl, _, hw⟩ := DataW.trod_int he ht'
      refine ⟨z, ?_, bounds_u8 hw⟩
      have := hat 0 (by rw [hC]; omega)
      rw [Go.Deep.add_add, hC] at this
      simpa using this
    obtain ⟨F, hF⟩ := choose_lt (p := fun i (z : Int) => w.cell? (a.add i) = some (.int .u8 z) ∧ 0 ≤ z ∧ z ≤ 255) hone
    refine ⟨_, len, hcs, F, ⟨by omega, some a, cap, rfl, hl, fun h0 => ?_⟩, fun i hi => (hF i hi).2⟩
    have hz0 := (hF 0 h0).1
    have ha0 : a.add 0 = a := by simp [Addr.add]
    rw [ha0] at hz0
    have hsp := spot_of_cell hz0
    have hlt := World.block_lt_of_cell? w a hz0
    have hae : a = ⟨a.block, a.off, none⟩ := by rw [← hsp]
    refine ⟨a.block, a.off, by rw [← hae], Nat.zero_le _, hlt, fun i hil => ?_⟩
    have := (hF i (by omega)).1
    rw [hae, Addr.add_lit] at this
    exact this
end
set_option maxRecDepth 100000 in
theorem open_bytes_arg {H : Type} {enc : TypeId × Value → H} {w : World} {base b0 : Nat} {spare : Nat → Bool} {held : Bool} {r : Reach} {v : Value} {d : DataW H} {p : List MemPlace}
    (hv : Value.okWide Tryz.prog w r b0 22 v) (h : DataW.Trod enc Tryz.prog w base spare held 22 v d p) : ∃ n, Byts w v n := by
  obtain ⟨A, n, c, rfl⟩ := okWide_slice Tryz.underlying22 hv
  obtain ⟨fuel, hf⟩ := h
  obtain ⟨v, l, e, hl⟩ := open_bytes8 (t := 22) (e := 5) Tryz.underlying22 Tryz.underlying5 (by kernel_rfl) hf
  simp [Value.cells] at e
  subst e
  exact ⟨l, hl⟩
end Go.Proofs.YtbddkmlfjghllaaGreatDoor
