/- A network that a call has made, put into a box of its own, before or behind the call. No program in sight. -/
import Derived.Test.YtkpoelgaomgjlaaS
import Derived.Test.YtkpoelgaomgjlaaO
namespace Go.Proofs.Ytkpoelgaomgjlaa
set_option linter.unusedVariables false
set_option linter.unusedSimpArgs false
open Go.RowKit

def BoxNet (w1 : World) (m : Net) (c : Int) (s6 s7 : Value) (wx : World) : Prop :=
  ∃ b lo hi sv kv, s6 = .pointer (some ⟨b, 0, none⟩) ∧ s7 = .int .i64 c ∧ Ext w1 wx ∧ w1.heap.size ≤ b ∧ b < wx.heap.size ∧ w1.heap.size ≤ lo ∧ hi ≤ wx.heap.size ∧ (b < lo ∨ hi ≤ b) ∧ Boxed wx b [sv, kv] ∧ OwnNet wx lo hi (.agg #[sv, kv]) m
theorem BoxNet.before {w1 w4 : World} {m : Net} {c : Int} {b lo : Nat} {x y sv kv : Value} (hE : Ext w1 w4) (hb : w1.heap.size ≤ b) (hlo : b < lo) (hlo' : w1.heap.size ≤ lo) (hB : Boxed w4 b [x, y]) (ho : OwnNet w4 lo w4.heap.size (.agg #[sv, kv]) m) :
    BoxNet w1 m c (.pointer (some ⟨b, 0, none⟩)) (.int .i64 c) ((w4.setCell ⟨b, 0, none⟩ sv).setCell ⟨b, 1, none⟩ kv) := by
  have hO : Off (fun x => x = b) w4 ((w4.setCell ⟨b, 0, none⟩ sv).setCell ⟨b, 1, none⟩ kv) := Off.setCell (S := fun x => x = b) (p := ⟨b, 1, none⟩) (Off.setCell (S := fun x => x = b) (p := ⟨b, 0, none⟩) (Off.refl _ _) (.inl rfl) _) (.inl rfl) _
  have hz : ((w4.setCell ⟨b, 0, none⟩ sv).setCell ⟨b, 1, none⟩ kv).heap.size = w4.heap.size := by simp [World.setCell]
  have hB4 := (hB.set 0 sv (by simp)).set 1 kv (by simp)
  exact ⟨b, lo, w4.heap.size, sv, kv, rfl, rfl, hE.off hO (fun k hk hh => by omega), hb, by rw [hz]; exact hB.1, hlo', by omega, .inl hlo, hB4, ho.off hO (fun k h1 h2 hh => by omega)⟩
theorem BoxNet.after {w1 w4 : World} {m : Net} {c : Int} {lo : Nat} {sv kv : Value} (T : TypeId) (hE : Ext w1 w4) (hlo' : w1.heap.size ≤ lo) (ho : OwnNet w4 lo w4.heap.size (.agg #[sv, kv]) m) :
    BoxNet w1 m c (.pointer (some ⟨w4.heap.size, 0, none⟩)) (.int .i64 c) (w4.alloc (.cells #[sv, kv] T)) :=
  ⟨w4.heap.size, lo, w4.heap.size, sv, kv, rfl, rfl, hE.alloc _, hE.size, by simp, hlo', by simp, .inr (Nat.le_refl _), Boxed.new w4 [sv, kv] T, ho.ext ((Ext.refl _).alloc _)⟩
end Go.Proofs.Ytkpoelgaomgjlaa
