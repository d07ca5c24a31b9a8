/- Texts merged (a claim holds at most sixty files): Yc, Yd, Dl, Dm. -/
import Derived.Test.YtfajmlkiidnhlaaGreatQ3Dg
import Derived.Test.YtfajmlkiidnhlaaGreatQ3Yb
import Derived.Test.YtfajmlkiidnhlaaGreatQ3K
import Derived.Test.YtfajmlkiidnhlaaGreatQ3G
/- What calls return, in plain form: slices written out, to be read in whatever block. -/
namespace Go.Proofs.YtfajmlkiidnhlaaGreat
set_option linter.unusedVariables false
set_option linter.unusedSimpArgs false
open Go.RowKit

/-- a code as it came in -/
def Byts (w : World) (v : Value) (n : Nat) : Prop := ∃ f : Nat → Int, Row w 0 w.heap.size 1 v n (fun i => .int .u8 (f i)) ∧ ∀ i, i < n → 0 ≤ f i ∧ f i ≤ 255
theorem Byts.few {w : World} {v : Value} {n : Nat} (h : Byts w v n) (hn : n ≤ 4096) : Bytes w 0 w.heap.size v n := by
  obtain ⟨f, h1, h2⟩ := h
  exact ⟨hn, f, h1, h2⟩
theorem Byts.len {w : World} {v : Value} {n : Nat} (h : Byts w v n) : ∃ A c, v = .slice A n c := by
  obtain ⟨f, ⟨_, A, c, e, _⟩, _⟩ := h
  exact ⟨A, c, e⟩
theorem Ints.all {w : World} {lo hi : Nat} {v : Value} {l : List Int} (h : Ints w lo hi v l) (hh : hi ≤ w.heap.size) : Ints w 0 w.heap.size v l := h.mono (Nat.zero_le _) hh
theorem NetAt.all {w : World} {lo hi : Nat} {s k : Value} {n : Net} (h : NetAt w lo hi s k n) (hh : hi ≤ w.heap.size) : NetIn w s k n := ⟨h.1.mono (Nat.zero_le _) hh, h.2.mono (Nat.zero_le _) hh⟩
theorem NetIn.out2 {w : World} {s k : Value} {n : Net} (h : NetIn w s k n) : ∃ As cs Ak ck, s = .slice As n.sets.length cs ∧ k = .slice Ak n.links.length ck := by
  obtain ⟨As, cs, e1, _⟩ := h.1.len
  obtain ⟨Ak, ck, e2, _⟩ := h.2.len
  exact ⟨As, cs, Ak, ck, e1, e2⟩
theorem NewInts2.plain {l : List Int} {e0 : Int} {w w' : World} {e : Ending} (h : NewInts2 l e0 w e w') : ∃ A c, e = .returned (.tuple #[.slice A l.length c, .int .i64 e0]) ∧ Ext w w' ∧ Hid (Ints w' 0 w'.heap.size (.slice A l.length c) l) := by
  obtain ⟨v, g, he, hx, h1, h2⟩ := h
  obtain ⟨A, c, rfl⟩ := h2.len
  exact ⟨A, c, he, hx, h2.row (fun h0 => ⟨Nat.zero_le _, h2.lt h0⟩)⟩
theorem NewNet2.plain {m : Net} {c0 : Int} {w w' : World} {e : Ending} (h : NewNet2 m c0 w e w') : ∃ As cs Ak ck, e = .returned (.tuple #[.agg #[.slice As m.sets.length cs, .slice Ak m.links.length ck], .int .i64 c0]) ∧ Ext w w' ∧ Hid (NetIn w' (.slice As m.sets.length cs) (.slice Ak m.links.length ck) m) := by
  obtain ⟨s, k, he, hx, h1⟩ := h
  have h2 := h1.at_.all (Nat.le_refl _)
  obtain ⟨As, cs, Ak, ck, rfl, rfl⟩ := h2.out2
  exact ⟨As, cs, Ak, ck, he, hx, h2⟩
theorem DNet.plain {P : Net → Prop} {w w' : World} {e : Ending} (h : DNet P w e w') : ∃ As cs Ak ck n, e = .returned (.agg #[.slice As n.sets.length cs, .slice Ak n.links.length ck]) ∧ Ext w w' ∧ Few n ∧ P n ∧ Hid (NetIn w' (.slice As n.sets.length cs) (.slice Ak n.links.length ck) n) := by
  obtain ⟨s, k, n, he, hx, hf, hp, h1⟩ := h
  have h2 := h1.all (Nat.le_refl _)
  obtain ⟨As, cs, Ak, ck, rfl, rfl⟩ := h2.out2
  exact ⟨As, cs, Ak, ck, n, he, hx, hf, hp, h2⟩
theorem DNetV.plain {P : Net → Value → Prop} {w w' : World} {e : Ending} (h : DNetV P w e w') : ∃ As cs Ak ck n v, e = .returned (.tuple #[.agg #[.slice As n.sets.length cs, .slice Ak n.links.length ck], v]) ∧ Ext w w' ∧ Few n ∧ P n v ∧ Hid (NetIn w' (.slice As n.sets.length cs) (.slice Ak n.links.length ck) n) := by
  obtain ⟨s, k, v, n, he, hx, hf, hp, h1⟩ := h
  have h2 := h1.all (Nat.le_refl _)
  obtain ⟨As, cs, Ak, ck, rfl, rfl⟩ := h2.out2
  exact ⟨As, cs, Ak, ck, n, v, he, hx, hf, hp, h2⟩
theorem DNetVV.plain {P : Net → Value → Value → Prop} {w w' : World} {e : Ending} (h : DNetVV P w e w') : ∃ As cs Ak ck n v u, e = .returned (.tuple #[.agg #[.slice As n.sets.length cs, .slice Ak n.links.length ck], v, u]) ∧ Ext w w' ∧ Few n ∧ P n v u ∧ Hid (NetIn w' (.slice As n.sets.length cs) (.slice Ak n.links.length ck) n) := by
  obtain ⟨s, k, v, u, n, he, hx, hf, hp, h1⟩ := h
  have h2 := h1.all (Nat.le_refl _)
  obtain ⟨As, cs, Ak, ck, rfl, rfl⟩ := h2.out2
  exact ⟨As, cs, Ak, ck, n, v, u, he, hx, hf, hp, h2⟩
theorem DNetI.plain {w w' : World} {e : Ending} (h : DNetI w e w') : ∃ As cs Ak ck n A c l, e = .returned (.tuple #[.agg #[.slice As n.sets.length cs, .slice Ak n.links.length ck], .slice A l.length c]) ∧ Ext w w' ∧ Few n ∧ Hid (NetIn w' (.slice As n.sets.length cs) (.slice Ak n.links.length ck) n) ∧ Hid (Ints w' 0 w'.heap.size (.slice A l.length c) l) := by
  obtain ⟨s, k, v, n, l, he, hx, hf, h1, h3⟩ := h
  have h2 := h1.all (Nat.le_refl _)
  obtain ⟨As, cs, Ak, ck, rfl, rfl⟩ := h2.out2
  obtain ⟨A, c, rfl, _⟩ := h3.len
  exact ⟨As, cs, Ak, ck, n, A, c, l, he, hx, hf, h2, h3.all (Nat.le_refl _)⟩
end Go.Proofs.YtfajmlkiidnhlaaGreat

/- What draws return, in plain form. -/
namespace Go.Proofs.YtfajmlkiidnhlaaGreat
set_option linter.unusedVariables false
set_option linter.unusedSimpArgs false
open Go.RowKit

theorem DNetW.plain {w w' : World} {e : Ending} (h : DNetW w e w') : ∃ As cs Ak ck n, e = .returned (.agg #[.slice As n.sets.length cs, .slice Ak n.links.length ck]) ∧ Ext w w' ∧ Hid (NetIn w' (.slice As n.sets.length cs) (.slice Ak n.links.length ck) n) := by
  obtain ⟨s, k, n, he, hx, h1⟩ := h
  have h2 := h1.all (Nat.le_refl _)
  obtain ⟨As, cs, Ak, ck, rfl, rfl⟩ := h2.out2
  exact ⟨As, cs, Ak, ck, n, he, hx, h2⟩
theorem DNetX.plain {w w' : World} {e : Ending} (h : DNetX w e w') : ∃ As cs Ak ck n x, e = .returned (.tuple #[.agg #[.slice As n.sets.length cs, .slice Ak n.links.length ck], .int .i64 x]) ∧ Ext w w' ∧ Hid (NetIn w' (.slice As n.sets.length cs) (.slice Ak n.links.length ck) n) := by
  obtain ⟨s, k, n, x, he, hx, h1⟩ := h
  have h2 := h1.all (Nat.le_refl _)
  obtain ⟨As, cs, Ak, ck, rfl, rfl⟩ := h2.out2
  exact ⟨As, cs, Ak, ck, n, x, he, hx, h2⟩
theorem DNetXB.plain {w w' : World} {e : Ending} (h : DNetXB w e w') : ∃ As cs Ak ck n x b, e = .returned (.tuple #[.agg #[.slice As n.sets.length cs, .slice Ak n.links.length ck], .int .i64 x, .bool b]) ∧ Ext w w' ∧ Hid (NetIn w' (.slice As n.sets.length cs) (.slice Ak n.links.length ck) n) := by
  obtain ⟨s, k, n, x, b, he, hx, h1⟩ := h
  have h2 := h1.all (Nat.le_refl _)
  obtain ⟨As, cs, Ak, ck, rfl, rfl⟩ := h2.out2
  exact ⟨As, cs, Ak, ck, n, x, b, he, hx, h2⟩
end Go.Proofs.YtfajmlkiidnhlaaGreat

/- Contract: a list of statements, drawn out of a source. -/
namespace Go.Proofs.YtfajmlkiidnhlaaGreat
set_option linter.unusedVariables false
set_option linter.unusedSimpArgs false
open Go.RowKit
attribute [local go_sem] cell_onto

/-- a list that is drawn -/
def DrListQ (b0 g : Nat) (cv : Value) (cn : Nat) (w : World) (e : Ending) (w' : World) : Prop :=
  ∃ (v : Value) (l : List Int), e = .returned v ∧ Drw b0 g cv cn w w' ∧ Ints w' w.heap.size w'.heap.size v l
theorem DrListQ.fin {b0 g cn b T : Nat} {cv v : Value} {l : List Int} {w wz : World} (hd : Drw b0 g cv cn w wz) (hr : wz.ownsRow b T 1 v l.length (cellsOf (l.length * 1) (intCell l))) (hb : w.heap.size ≤ b) : DrListQ b0 g cv cn w (.returned v) wz :=
  ⟨v, l, rfl, hd, (own_ints hr rfl).mono hb (Nat.le_refl _)⟩
end Go.Proofs.YtfajmlkiidnhlaaGreat

/- Contracts: what the layer of blame draws out of a code. -/
namespace Go.Proofs.YtfajmlkiidnhlaaGreat
set_option linter.unusedVariables false
set_option linter.unusedSimpArgs false
open Go.RowKit
attribute [local go_sem] cell_onto

set_option maxRecDepth 100000 in
set_option maxHeartbeats 4000000 in
theorem spec_DrawFindConflict (cn : Nat) (cv : Value) (w : World) (h : Bytes w 0 w.heap.size cv cn) : Calls Tryz.prog 6 #[cv] w (DNetW w) := by
  obtain ⟨A, c, rfl, _⟩ := h.len
  have H := Lib.hid h
  clear h
  have Hb := Lib.hid (Boxed.new w [.slice none 0 0, .slice none 0 0] 27)
  go_enter Tryz.func6, Tryz.ntmps6
  go_wp2_with fail
  refine Calls.mono (spec_l01From cn _ _ (H.out.up (by repeat (first | exact Ext.refl _ | assumption | refine Ext.alloc ?_ _ | refine Ext.drew ?_ | refine Ext.drewN ?_ _ | refine Ext.setCell ?_ (by first | (simp; done) | (simp; omega) | omega) _ | refine Ext.trans ?_ (by assumption))))) ?_
  rintro e w1 ⟨rfl, hx1, hs1⟩
  rw [World.size_alloc] at hs1
  have Hs1 := Lib.hid (hs1.low (b1 := w.heap.size) (by omega) (H.out.ext (by repeat (first | exact Ext.refl _ | assumption | refine Ext.alloc ?_ _ | refine Ext.drew ?_ | refine Ext.drewN ?_ _ | refine Ext.setCell ?_ (by first | (simp; done) | (simp; omega) | omega) _ | refine Ext.trans ?_ (by assumption))) (Nat.le_refl _)))
  have hz1 := hx1.size
  rw [World.size_alloc] at hz1
  have HB1 := Lib.hid (Hb.out.ext hx1)
  have hxw1 : Ext w w1 := (by repeat (first | exact Ext.refl _ | assumption | refine Ext.alloc ?_ _ | refine Ext.drew ?_ | refine Ext.drewN ?_ _ | refine Ext.setCell ?_ (by first | (simp; done) | (simp; omega) | omega) _ | refine Ext.trans ?_ (by assumption)))
  clear hs1
  go_wp2_with fail
  refine Calls.mono (spec_l21Draw _ _ cn _ _ Hs1.out) ?_
  rintro e w2 ⟨s, k, n, rfl, hd2, -, hN⟩
  have hxw2 := hd2.old hxw1 (by omega)
  have HN := Lib.hid hN
  have hz2 := hd2.size
  have bb := HB1.out.drw hd2 (by omega)
  have bb0 := bb.at0
  have bb1 := bb.at1
  have bbf0 := bb.fz 0 (by simp)
  have bbf1 := bb.fz 1 (by simp)
  have bbg := bb.1
  have Hbb := Lib.hid bb
  clear bb
  clear hd2 hN
  obtain ⟨As, cs, rfl, _⟩ := HN.out.1.len
  obtain ⟨Ak, ck, rfl, _⟩ := HN.out.2.len
  go_wp2_with fail
  refine bodyPost_ret (v := .agg #[.slice As n.sets.length cs, .slice Ak n.links.length ck]) (by simp [results, Tryz.results6, go_sem, *]) rfl ?_
  exact DNetW.fin hxw2 HN.out (by omega) (Nat.le_refl _)
end Go.Proofs.YtfajmlkiidnhlaaGreat
