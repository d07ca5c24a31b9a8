/- Texts merged (a claim holds at most sixty files): Ji, Qm. -/
import Derived.Test.YtmmokjnljaifcaaGreatDoorD1Jg
import Derived.Test.YtmmokjnljaifcaaGreatDoorD1Jh
import Derived.Test.YtmmokjnljaifcaaGreatDoorD1Td
import Derived.Test.YtmmokjnljaifcaaGreatDoorD1H
/- The marks that laws lay on structs of strings and numbers; MarkDays. -/
namespace Go.Proofs.YtmmokjnljaifcaaGreatDoor
set_option linter.unusedVariables false
set_option linter.unusedSimpArgs false
open Go.RowKit
attribute [local go_sem] cell_onto

section
variable {w w' : World} {lo hi : Nat} {v : Value}
end
theorem Own.at2 {w : World} {b sz n off c : Nat} {f : Nat → Value} (h : Own w b sz (.slice (some ⟨b, off, none⟩) n c) n f) (hn : 0 < n) : b < w.heap.size ∧ ∀ i, i < n * sz → w.cell? ⟨b, off + i, none⟩ = some (f i) ∧ w.frozen? ⟨b, off + i, none⟩ = false := by
  obtain ⟨off', e, hb, hc⟩ := h.at_ hn
  injection e with e
  injection e with _ e
  subst e
  exact ⟨hb, hc⟩
end Go.Proofs.YtmmokjnljaifcaaGreatDoor

/- Marks on rows whose cells are there, whatever they hold: what a row's marking leaves standing. -/
namespace Go.Proofs.YtmmokjnljaifcaaGreatDoor
set_option linter.unusedVariables false
set_option linter.unusedSimpArgs false
open Go.RowKit

/-- the cells of a row are there, and may be stored to -/
def Cel (w : World) (lo hi sz : Nat) (v : Value) (n : Nat) : Prop :=
  n ≤ maxLen ∧ ∃ A c, v = .slice A n c ∧ n ≤ c ∧ (0 < n → ∃ b off, A = some ⟨b, off, none⟩ ∧ lo ≤ b ∧ b < hi ∧ b < w.heap.size ∧ ∀ i, i < n * sz → (∃ u, w.cell? ⟨b, off + i, none⟩ = some u) ∧ w.frozen? ⟨b, off + i, none⟩ = false)
/-- stores within the blocks from lo up to hi: what was there is there still -/
structure Mrk (lo hi : Nat) (w w' : World) : Prop where
  off : Off (fun x => lo ≤ x ∧ x < hi) w w'
  has : ∀ b o, b < w.heap.size → (∃ u, w.cell? ⟨b, o, none⟩ = some u) → ∃ u, w'.cell? ⟨b, o, none⟩ = some u
  fz : ∀ b o, b < w.heap.size → w.frozen? ⟨b, o, none⟩ = false → w'.frozen? ⟨b, o, none⟩ = false
theorem Mrk.of_ext {lo hi : Nat} {w w' : World} (h : Ext w w') : Mrk lo hi w w' :=
  ⟨Off.of_ext h, fun b o hb hu => by obtain ⟨u, hu⟩ := hu; exact ⟨u, (h.cell (p := ⟨b, o, none⟩) hb).trans hu⟩, fun b o hb hf => (h.frozen (p := ⟨b, o, none⟩) hb).trans hf⟩
theorem Mrk.refl (lo hi : Nat) (w : World) : Mrk lo hi w w := Mrk.of_ext (Ext.refl w)
theorem Mrk.trans {lo hi : Nat} {a b c : World} (h : Mrk lo hi a b) (k : Mrk lo hi b c) : Mrk lo hi a c :=
  ⟨h.off.trans k.off, fun g o hg hu => k.has g o (Nat.lt_of_lt_of_le hg h.off.size) (h.has g o hg hu), fun g o hg hu => k.fz g o (Nat.lt_of_lt_of_le hg h.off.size) (h.fz g o hg hu)⟩
theorem Mrk.mono {lo hi lo' hi' : Nat} {a b : World} (h : Mrk lo hi a b) (h1 : lo' ≤ lo) (h2 : hi ≤ hi') : Mrk lo' hi' a b :=
  ⟨h.off.mono (fun k hk => by omega), h.has, h.fz⟩
theorem has_set {w : World} {p : Addr} {u : Value} {b o : Nat} (h : ∃ x, w.cell? ⟨b, o, none⟩ = some x) : ∃ x, (w.setCell p u).cell? ⟨b, o, none⟩ = some x := by
  obtain ⟨x, hx⟩ := h
  by_cases e : p = ⟨b, o, none⟩
  · subst e; exact ⟨u, World.cell?_setCell_same w _ u hx⟩
  · exact ⟨x, (World.cell?_setCell_other w p ⟨b, o, none⟩ u e).trans hx⟩
theorem Mrk.setCell {lo hi : Nat} {a w : World} (h : Mrk lo hi a w) {p : Addr} (hp : lo ≤ p.block ∧ p.block < hi) (u : Value) : Mrk lo hi a (w.setCell p u) :=
  ⟨h.off.setCell (.inl hp) u, fun b o hb hu => has_set (h.has b o hb hu), fun b o hb hu => (World.frozen?_setCell w p ⟨b, o, none⟩ u).trans (h.fz b o hb hu)⟩
section
variable {w w' : World} {lo hi lo' hi' sz n : Nat} {v : Value}
theorem Cel.mrk (h : Cel w lo hi sz v n) {k m : Nat} (hx : Mrk k m w w') : Cel w' lo hi sz v n := by
  obtain ⟨hm, A, c, hv, hc, hr⟩ := h
  refine ⟨hm, A, c, hv, hc, fun hn => ?_⟩
  obtain ⟨b, off, hA, h1, h2, h3, h4⟩ := hr hn
  exact ⟨b, off, hA, h1, h2, Nat.lt_of_lt_of_le h3 hx.off.size, fun i hi => ⟨hx.has b _ h3 (h4 i hi).1, hx.fz b _ h3 (h4 i hi).2⟩⟩
theorem Cel.mono (h : Cel w lo hi sz v n) (h1 : lo' ≤ lo) (h2 : hi ≤ hi') : Cel w lo' hi' sz v n := by
  obtain ⟨hm, A, c, hv, hc, hr⟩ := h
  refine ⟨hm, A, c, hv, hc, fun hn => ?_⟩
  obtain ⟨b, off, hA, k1, k2, k3⟩ := hr hn
  exact ⟨b, off, hA, Nat.le_trans h1 k1, Nat.lt_of_lt_of_le k2 h2, k3⟩
theorem Cel.of_own {b : Nat} {f : Nat → Value} (h : Own w b sz v n f) (h1 : 0 < n → lo ≤ b ∧ b < hi) : Cel w lo hi sz v n := by
  obtain ⟨hm, A, c, hv, hc, hr⟩ := h
  refine ⟨hm, A, c, hv, hc, fun hn => ?_⟩
  obtain ⟨hb, off, hA, h3⟩ := hr hn
  exact ⟨b, off, hA, (h1 hn).1, (h1 hn).2, hb, fun i hi => ⟨⟨_, (h3 i hi).1⟩, (h3 i hi).2⟩⟩
theorem Cel.len (h : Cel w lo hi sz v n) : ∃ A c, v = .slice A n c ∧ n ≤ 9223372036854775807 ∧ n ≤ c := by
  obtain ⟨hm, A, c, hv, hc, _⟩ := h
  exact ⟨A, c, hv, by unfold maxLen at hm; omega, hc⟩
end
/-- a row, whose cells may be stored to besides -/
def RowO (w : World) (lo hi sz : Nat) (v : Value) (n : Nat) (f : Nat → Value) : Prop := Row w lo hi sz v n f ∧ Cel w lo hi sz v n
theorem RowO.of_own {w : World} {b lo hi sz n : Nat} {v : Value} {f : Nat → Value} (h : Own w b sz v n f) (h1 : 0 < n → lo ≤ b ∧ b < hi) : RowO w lo hi sz v n f := ⟨h.row h1, Cel.of_own h h1⟩
theorem Row.setLow {w : World} {lo hi sz n : Nat} {v : Value} {f : Nat → Value} (h : Row w lo hi sz v n f) {p : Addr} (hp : p.block < lo) (u : Value) : Row (w.setCell p u) lo hi sz v n f := by
  obtain ⟨hm, A, c, hv, hc, hr⟩ := h
  refine ⟨hm, A, c, hv, hc, fun hn => ?_⟩
  obtain ⟨b, off, hA, h1, h2, h3⟩ := hr hn
  have hbl := Below.heap_setCell w p u b (by omega)
  exact ⟨b, off, hA, h1, h2, fun i hi => (World.cell?_of_block (w := w) (a := ⟨b, off + i, none⟩) hbl).trans (h3 i hi)⟩
theorem Row.sl {w : World} {lo hi sz n : Nat} {v : Value} {f : Nat → Value} (h : Row w lo hi sz v n f) : ∃ A c, v = .slice A n c := by
  obtain ⟨_, A, c, hv, _⟩ := h
  exact ⟨A, c, hv⟩
theorem Cel.setCell {w : World} {lo hi sz n : Nat} {v : Value} (h : Cel w lo hi sz v n) (p : Addr) (u : Value) : Cel (w.setCell p u) lo hi sz v n :=
  h.mrk ((Mrk.refl p.block (p.block + 1) w).setCell ⟨Nat.le_refl _, by omega⟩ u)
theorem RowO.setLow {w : World} {lo hi sz n : Nat} {v : Value} {f : Nat → Value} (h : RowO w lo hi sz v n f) {p : Addr} (hp : p.block < lo) (u : Value) : RowO (w.setCell p u) lo hi sz v n f := ⟨Row.setLow h.1 hp u, h.2.setCell p u⟩
theorem RowO.ext {w w' : World} {lo hi sz n : Nat} {v : Value} {f : Nat → Value} (h : RowO w lo hi sz v n f) (hx : Ext w w') (hh : hi ≤ w.heap.size) : RowO w' lo hi sz v n f := ⟨Row.ext h.1 hx hh, h.2.mrk (Mrk.of_ext (lo := 0) (hi := 0) hx)⟩
theorem RowO.mono {w : World} {lo hi lo' hi' sz n : Nat} {v : Value} {f : Nat → Value} (h : RowO w lo hi sz v n f) (h1 : lo' ≤ lo) (h2 : hi ≤ hi') : RowO w lo' hi' sz v n f := ⟨Row.mono h.1 h1 h2, h.2.mono h1 h2⟩
theorem RowO.sl {w : World} {lo hi sz n : Nat} {v : Value} {f : Nat → Value} (h : RowO w lo hi sz v n f) : ∃ A c, v = .slice A n c := Row.sl h.1
theorem RowO.wid {w w' : World} {lo sz n : Nat} {v : Value} {f : Nat → Value} (h : RowO w lo w.heap.size sz v n f) (hx : Ext w w') : RowO w' lo w'.heap.size sz v n f := (RowO.ext h hx (Nat.le_refl _)).mono (Nat.le_refl _) hx.size
end Go.Proofs.YtmmokjnljaifcaaGreatDoor
