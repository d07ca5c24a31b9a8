/- Contract: decimal, by the shelf's strconv.FormatInt. -/
import Derived.Test.YtbddkmlfjghllaaGreatDoorT1Td
import Derived.Test.YtbddkmlfjghllaaGreatDoorFi
import Derived.Lib.LaidTab
namespace Go.Proofs.YtbddkmlfjghllaaGreatDoor
set_option linter.unusedVariables false
set_option linter.unusedSimpArgs false
open Go.RowKit
attribute [local go_sem] cell_onto

theorem Ext.growF {a w : World} (h : Ext a w) (os : Array Obj) : Ext a (Go.Sort.grow w os) :=
  ⟨h.os, h.tape, h.output, by show a.heap.size ≤ (w.heap ++ os).size; rw [Array.size_append]; have := h.size; omega,
   fun k hk => by show (w.heap ++ os)[k]? = _; rw [Array.getElem?_append_left (Nat.lt_of_lt_of_le hk h.size)]; exact h.block k hk⟩
/-- the library's table lies in the world -/
def TabW (w : World) : Prop := Lib.TabIs Tryz.prog w "internal/strconv.uint64pow10" .u64 Lib.pow10Tab
theorem TabW.ext {w w' : World} (h : TabW w) (hx : Ext w w') : TabW w' := by
  unfold TabW Lib.TabIs World.var? at *
  cases hg : Tryz.prog.globalNamed "internal/strconv.uint64pow10" with
  | none => simp [hg] at h
  | some g =>
    simp only [hg, Option.bind_some] at h ⊢
    have hlt : g < w.heap.size := by
      rcases Nat.lt_or_ge g w.heap.size with h' | h'
      · exact h'
      · rw [Array.getElem?_eq_none h'] at h; simp at h
    rw [hx.block g hlt]
    exact h
set_option maxRecDepth 100000 in
set_option maxHeartbeats 2000000 in
theorem impl_decimal (x : Int) (w : World) (h0 : -1000000000 ≤ x) (h1 : x ≤ 1000000000) (ht : TabW w) : Calls Tryz.prog 130 #[.int .i64 x] w (RetX (.string (numB x)) w) := by
  have Ht := Lib.hid ht
  clear ht
  go_enter Tryz.func130, Tryz.ntmps130
  go_wp2_with fail
  refine Calls.mono (Go.Proofs.Any.strconv_FormatInt_10 Tryz.fmtInt x (by omega) (by omega) _ Ht.out) ?_
  rintro e w1 ⟨rfl, k, os, rfl⟩
  rw [itoa_numB]
  have hx1 : Ext w (Go.Sort.grow (w.drewN k) os) := ((Ext.refl w).drewN k).growF os
  go_wp2_with fail
  go_ret
  exact ⟨rfl, hx1⟩
end Go.Proofs.YtbddkmlfjghllaaGreatDoor
