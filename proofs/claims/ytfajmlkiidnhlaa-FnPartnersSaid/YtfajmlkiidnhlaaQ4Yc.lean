/- Texts merged (a claim holds at most sixty files): Yc, Yd. -/
import Derived.Test.YtfajmlkiidnhlaaQ4Dg
import Derived.Test.YtfajmlkiidnhlaaQ4Yb
import Derived.Test.YtfajmlkiidnhlaaQ4K
/- What calls return, in plain form: slices written out, to be read in whatever block. -/
namespace Go.Proofs.Ytfajmlkiidnhlaa
set_option linter.unusedVariables false
set_option linter.unusedSimpArgs false
open Go.RowKit

/-- a code as it came in -/
def Byts (w : World) (v : Value) (n : Nat) : Prop := ∃ f : Nat → Int, Row w 0 w.heap.size 1 v n (fun i => .int .u8 (f i)) ∧ ∀ i, i < n → 0 ≤ f i ∧ f i ≤ 255
theorem Byts.few {w : World} {v : Value} {n : Nat} (h : Byts w v n) (hn : n ≤ 4096) : Bytes w 0 w.heap.size v n := by
  obtain ⟨f, h1, h2⟩ := h
  exact ⟨hn, f, h1, h2⟩
theorem Byts.len {w : World} {v : Value} {n : Nat} (h : Byts w v n) : ∃ A c, v = .slice A n c := by
  obtain ⟨f, ⟨_, A, c, e, _⟩, _⟩ := h
  exact ⟨A, c, e⟩
theorem Ints.all {w : World} {lo hi : Nat} {v : Value} {l : List Int} (h : Ints w lo hi v l) (hh : hi ≤ w.heap.size) : Ints w 0 w.heap.size v l := h.mono (Nat.zero_le _) hh
theorem NetAt.all {w : World} {lo hi : Nat} {s k : Value} {n : Net} (h : NetAt w lo hi s k n) (hh : hi ≤ w.heap.size) : NetIn w s k n := ⟨h.1.mono (Nat.zero_le _) hh, h.2.mono (Nat.zero_le _) hh⟩
theorem NetIn.out2 {w : World} {s k : Value} {n : Net} (h : NetIn w s k n) : ∃ As cs Ak ck, s = .slice As n.sets.length cs ∧ k = .slice Ak n.links.length ck := by
  obtain ⟨As, cs, e1, _⟩ := h.1.len
  obtain ⟨Ak, ck, e2, _⟩ := h.2.len
  exact ⟨As, cs, Ak, ck, e1, e2⟩
theorem NewInts2.plain {l : List Int} {e0 : Int} {w w' : World} {e : Ending} (h : NewInts2 l e0 w e w') : ∃ A c, e = .returned (.tuple #[.slice A l.length c, .int .i64 e0]) ∧ Ext w w' ∧ Hid (Ints w' 0 w'.heap.size (.slice A l.length c) l) := by
  obtain ⟨v, g, he, hx, h1, h2⟩ := h
  obtain ⟨A, c, rfl⟩ := h2.len
  exact ⟨A, c, he, hx, h2.row (fun h0 => ⟨Nat.zero_le _, h2.lt h0⟩)⟩
theorem NewNet2.plain {m : Net} {c0 : Int} {w w' : World} {e : Ending} (h : NewNet2 m c0 w e w') : ∃ As cs Ak ck, e = .returned (.tuple #[.agg #[.slice As m.sets.length cs, .slice Ak m.links.length ck], .int .i64 c0]) ∧ Ext w w' ∧ Hid (NetIn w' (.slice As m.sets.length cs) (.slice Ak m.links.length ck) m) := by
  obtain ⟨s, k, he, hx, h1⟩ := h
  have h2 := h1.at_.all (Nat.le_refl _)
  obtain ⟨As, cs, Ak, ck, rfl, rfl⟩ := h2.out2
  exact ⟨As, cs, Ak, ck, he, hx, h2⟩
theorem DNet.plain {P : Net → Prop} {w w' : World} {e : Ending} (h : DNet P w e w') : ∃ As cs Ak ck n, e = .returned (.agg #[.slice As n.sets.length cs, .slice Ak n.links.length ck]) ∧ Ext w w' ∧ Few n ∧ P n ∧ Hid (NetIn w' (.slice As n.sets.length cs) (.slice Ak n.links.length ck) n) := by
  obtain ⟨s, k, n, he, hx, hf, hp, h1⟩ := h
  have h2 := h1.all (Nat.le_refl _)
  obtain ⟨As, cs, Ak, ck, rfl, rfl⟩ := h2.out2
  exact ⟨As, cs, Ak, ck, n, he, hx, hf, hp, h2⟩
theorem DNetV.plain {P : Net → Value → Prop} {w w' : World} {e : Ending} (h : DNetV P w e w') : ∃ As cs Ak ck n v, e = .returned (.tuple #[.agg #[.slice As n.sets.length cs, .slice Ak n.links.length ck], v]) ∧ Ext w w' ∧ Few n ∧ P n v ∧ Hid (NetIn w' (.slice As n.sets.length cs) (.slice Ak n.links.length ck) n) := by
  obtain ⟨s, k, v, n, he, hx, hf, hp, h1⟩ := h
  have h2 := h1.all (Nat.le_refl _)
  obtain ⟨As, cs, Ak, ck, rfl, rfl⟩ := h2.out2
  exact ⟨As, cs, Ak, ck, n, v, he, hx, hf, hp, h2⟩
theorem DNetVV.plain {P : Net → Value → Value → Prop} {w w' : World} {e : Ending} (h : DNetVV P w e w') : ∃ As cs Ak ck n v u, e = .returned (.tuple #[.agg #[.slice As n.sets.length cs, .slice Ak n.links.length ck], v, u]) ∧ Ext w w' ∧ Few n ∧ P n v u ∧ Hid (NetIn w' (.slice As n.sets.length cs) (.slice Ak n.links.length ck) n) := by
  obtain ⟨s, k, v, u, n, he, hx, hf, hp, h1⟩ := h
  have h2 := h1.all (Nat.le_refl _)
  obtain ⟨As, cs, Ak, ck, rfl, rfl⟩ := h2.out2
  exact ⟨As, cs, Ak, ck, n, v, u, he, hx, hf, hp, h2⟩
theorem DNetI.plain {w w' : World} {e : Ending} (h : DNetI w e w') : ∃ As cs Ak ck n A c l, e = .returned (.tuple #[.agg #[.slice As n.sets.length cs, .slice Ak n.links.length ck], .slice A l.length c]) ∧ Ext w w' ∧ Few n ∧ Hid (NetIn w' (.slice As n.sets.length cs) (.slice Ak n.links.length ck) n) ∧ Hid (Ints w' 0 w'.heap.size (.slice A l.length c) l) := by
  obtain ⟨s, k, v, n, l, he, hx, hf, h1, h3⟩ := h
  have h2 := h1.all (Nat.le_refl _)
  obtain ⟨As, cs, Ak, ck, rfl, rfl⟩ := h2.out2
  obtain ⟨A, c, rfl, _⟩ := h3.len
  exact ⟨As, cs, Ak, ck, n, A, c, l, he, hx, hf, h2, h3.all (Nat.le_refl _)⟩
end Go.Proofs.Ytfajmlkiidnhlaa

/- What draws return, in plain form. -/
namespace Go.Proofs.Ytfajmlkiidnhlaa
set_option linter.unusedVariables false
set_option linter.unusedSimpArgs false
open Go.RowKit

theorem DNetW.plain {w w' : World} {e : Ending} (h : DNetW w e w') : ∃ As cs Ak ck n, e = .returned (.agg #[.slice As n.sets.length cs, .slice Ak n.links.length ck]) ∧ Ext w w' ∧ Hid (NetIn w' (.slice As n.sets.length cs) (.slice Ak n.links.length ck) n) := by
  obtain ⟨s, k, n, he, hx, h1⟩ := h
  have h2 := h1.all (Nat.le_refl _)
  obtain ⟨As, cs, Ak, ck, rfl, rfl⟩ := h2.out2
  exact ⟨As, cs, Ak, ck, n, he, hx, h2⟩
theorem DNetX.plain {w w' : World} {e : Ending} (h : DNetX w e w') : ∃ As cs Ak ck n x, e = .returned (.tuple #[.agg #[.slice As n.sets.length cs, .slice Ak n.links.length ck], .int .i64 x]) ∧ Ext w w' ∧ Hid (NetIn w' (.slice As n.sets.length cs) (.slice Ak n.links.length ck) n) := by
  obtain ⟨s, k, n, x, he, hx, h1⟩ := h
  have h2 := h1.all (Nat.le_refl _)
  obtain ⟨As, cs, Ak, ck, rfl, rfl⟩ := h2.out2
  exact ⟨As, cs, Ak, ck, n, x, he, hx, h2⟩
theorem DNetXB.plain {w w' : World} {e : Ending} (h : DNetXB w e w') : ∃ As cs Ak ck n x b, e = .returned (.tuple #[.agg #[.slice As n.sets.length cs, .slice Ak n.links.length ck], .int .i64 x, .bool b]) ∧ Ext w w' ∧ Hid (NetIn w' (.slice As n.sets.length cs) (.slice Ak n.links.length ck) n) := by
  obtain ⟨s, k, n, x, b, he, hx, h1⟩ := h
  have h2 := h1.all (Nat.le_refl _)
  obtain ⟨As, cs, Ak, ck, rfl, rfl⟩ := h2.out2
  exact ⟨As, cs, Ak, ck, n, x, b, he, hx, h2⟩
end Go.Proofs.Ytfajmlkiidnhlaa
