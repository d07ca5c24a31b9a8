/- laws.World, by value, opened. (Printed by genOw.py.) -/
import Derived.Test.YtbddkmlfjghllaaGreatDoorW1Jo
import Derived.Test.YtbddkmlfjghllaaGreatDoorW1Kn
namespace Go.Proofs.YtbddkmlfjghllaaGreatDoor
set_option linter.unusedVariables false
set_option linter.unusedSimpArgs false
open Go.RowKit Go.ChangeShapes Go.WideShapes Go.Deep Go.Joins
section
variable {P : Program} {H : Type} {enc : TypeId × Value → H} {w : World} {base : Nat} {spare : Nat → Bool} {held : Bool}
theorem trod_part {t : TypeId} {fs : Array Field} {fuel : Nat} {cs : List Value} {x : DataW H × List MemPlace} (ht : P.underlying t = some (.struct fs)) (h : DataW.trod enc P w base spare held fuel t cs = some x) (i : Nat) (f : Field) (hf : fs[i]? = some f) (n : Nat) (hn : P.cellsOf f.type = n) :
    ∃ m y, DataW.trod enc P w base spare held m f.type ((cs.drop f.offset).take n) = some y := by
  obtain ⟨xs, m, _, _, _, hlen, hF⟩ := DataW.trod_struct ht h
  have hi : i < fs.size := by
    rcases Nat.lt_or_ge i fs.size with h | h
    · exact h
    · rw [Array.getElem?_eq_none h] at hf; cases hf
  have := hF i f hf
  rw [hn, List.getElem?_eq_getElem (by omega)] at this
  exact ⟨m, _, this⟩
end
set_option maxRecDepth 100000 in
theorem open_world_arg {H : Type} {enc : TypeId × Value → H} {w : World} {base b0 : Nat} {spare : Nat → Bool} {held : Bool} {r : Reach} {v : Value} {d : DataW H} {p : List MemPlace}
    (hv : Value.okWide Tryz.prog w r b0 57 v) (h : DataW.Trod enc Tryz.prog w base spare held 57 v d p) :
    ∃ v0 v3 v4 v5 v6 v7 v8 v9 W, v = .agg #[v0, .int .i64 W.ch.fr, .int .i64 W.ch.to, v3, v4, v5, v6, v7, v8, v9] ∧ WrlAt w 0 w.heap.size v0 v3 v4 v5 v6 v7 v8 v9 W ∧ WMx W := by
  obtain ⟨cs, rfl, hcs⟩ := okWide_struct Tryz.underlying57 hv
  have hcs' : cs.size = 10 := hcs.trans (by kernel_rfl)
  obtain ⟨c0, c1, c2, c3, c4, c5, c6, c7, c8, c9, rfl⟩ : ∃ c0 c1 c2 c3 c4 c5 c6 c7 c8 c9, cs = #[c0, c1, c2, c3, c4, c5, c6, c7, c8, c9] := by
    rcases cs with ⟨l⟩
    match l, hcs' with
    | [c0, c1, c2, c3, c4, c5, c6, c7, c8, c9], _ => exact ⟨c0, c1, c2, c3, c4, c5, c6, c7, c8, c9, rfl⟩
  obtain ⟨fuel, hf⟩ := h
  have hf' : DataW.trod enc Tryz.prog w base spare held fuel 57 [c0, c1, c2, c3, c4, c5, c6, c7, c8, c9] = some (d, p) := hf
  obtain ⟨n0, y0, h0⟩ := trod_part Tryz.underlying57 hf' 0 _ rfl 3 (by kernel_rfl)
  obtain ⟨n1, y1, h1⟩ := trod_part Tryz.underlying57 hf' 1 _ rfl 2 (by kernel_rfl)
  obtain ⟨n2, y2, h2⟩ := trod_part Tryz.underlying57 hf' 2 _ rfl 2 (by kernel_rfl)
  obtain ⟨n3, y3, h3⟩ := trod_part Tryz.underlying57 hf' 3 _ rfl 1 (by kernel_rfl)
  obtain ⟨n4, y4, h4⟩ := trod_part Tryz.underlying57 hf' 4 _ rfl 1 (by kernel_rfl)
  obtain ⟨n5, y5, h5⟩ := trod_part Tryz.underlying57 hf' 5 _ rfl 1 (by kernel_rfl)
  have h0' : DataW.trod enc Tryz.prog w base spare held n0 46 [c0, c1, c2] = some y0 := h0
  have h1' : DataW.trod enc Tryz.prog w base spare held n1 50 [c3, c4] = some y1 := h1
  have h2' : DataW.trod enc Tryz.prog w base spare held n2 53 [c5, c6] = some y2 := h2
  have h3' : DataW.trod enc Tryz.prog w base spare held n3 54 [c7] = some y3 := h3
  have h4' : DataW.trod enc Tryz.prog w base spare held n4 55 [c8] = some y4 := h4
  have h5' : DataW.trod enc Tryz.prog w base spare held n5 55 [c9] = some y5 := h5
  obtain ⟨m0, z0, k0⟩ := trod_part Tryz.underlying46 h0' 0 _ rfl 1 (by kernel_rfl)
  obtain ⟨m1, z1, k1⟩ := trod_part Tryz.underlying46 h0' 1 _ rfl 1 (by kernel_rfl)
  obtain ⟨m2, z2, k2⟩ := trod_part Tryz.underlying46 h0' 2 _ rfl 1 (by kernel_rfl)
  obtain ⟨m3, z3, k3⟩ := trod_part Tryz.underlying50 h1' 0 _ rfl 1 (by kernel_rfl)
  obtain ⟨m4, z4, k4⟩ := trod_part Tryz.underlying50 h1' 1 _ rfl 1 (by kernel_rfl)
  obtain ⟨m5, z5, k5⟩ := trod_part Tryz.underlying53 h2' 0 _ rfl 1 (by kernel_rfl)
  obtain ⟨m6, z6, k6⟩ := trod_part Tryz.underlying53 h2' 1 _ rfl 1 (by kernel_rfl)
  obtain ⟨v0, l0, e0, g0, s0⟩ := open_ReignS (show DataW.trod enc Tryz.prog w base spare held m0 44 [c0] = some z0 from k0)
  obtain ⟨x1, e1, _, _⟩ := DataW.trod_int Tryz.underlying2 (show DataW.trod enc Tryz.prog w base spare held m1 2 [c1] = some z1 from k1)
  obtain ⟨x2, e2, _, _⟩ := DataW.trod_int Tryz.underlying2 (show DataW.trod enc Tryz.prog w base spare held m2 2 [c2] = some z2 from k2)
  obtain ⟨v3, l3, e3, g3, s3⟩ := open_PersonS (show DataW.trod enc Tryz.prog w base spare held m3 47 [c3] = some z3 from k3)
  obtain ⟨v4, l4, e4, g4, s4⟩ := open_TermS (show DataW.trod enc Tryz.prog w base spare held m4 48 [c4] = some z4 from k4)
  obtain ⟨v5, l5, e5, g5, s5⟩ := open_strs (t := 35) (e := 9) Tryz.underlying35 Tryz.underlying9 (by kernel_rfl) (show DataW.trod enc Tryz.prog w base spare held m5 35 [c5] = some z5 from k5)
  obtain ⟨v6, l6, e6, g6⟩ := open_WayS (show DataW.trod enc Tryz.prog w base spare held m6 51 [c6] = some z6 from k6)
  obtain ⟨v7, l7, e7, g7⟩ := open_StayS h3'
  obtain ⟨v8, l8, e8, g8, s8⟩ := open_MarkS h4'
  obtain ⟨v9, l9, e9, g9, s9⟩ := open_MarkS h5'
  simp only [List.cons.injEq, and_true] at e0 e1 e2 e3 e4 e5 e6 e7 e8 e9
  subst e0 e1 e2 e3 e4 e5 e6 e7 e8 e9
  refine ⟨_, _, _, _, _, _, _, _, ⟨⟨l0, x1, x2⟩, ⟨l3, l4⟩, ⟨l5, l6⟩, l7, l8, l9⟩, rfl, ⟨g0, g3, g4, g5, g6, g7, g8, g9⟩, ?_⟩
  unfold maxLen at s0 s3 s4 s5 s8 s9
  exact ⟨fun i hi => s0 i hi, fun i hi => s3 i hi, fun i hi => s4 i hi, fun i hi => s5 i hi, fun i hi => s8 i hi, fun i hi => s9 i hi⟩
end Go.Proofs.YtbddkmlfjghllaaGreatDoor
