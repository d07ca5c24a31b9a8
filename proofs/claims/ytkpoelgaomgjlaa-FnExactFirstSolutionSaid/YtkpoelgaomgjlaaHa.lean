/- Contracts: HasSolution. -/
import Derived.Test.YtkpoelgaomgjlaaSo
import Derived.Test.YtkpoelgaomgjlaaHs
namespace Go.Proofs.Ytkpoelgaomgjlaa
set_option linter.unusedVariables false
set_option linter.unusedSimpArgs false
open Go.RowKit
attribute [local go_sem] cell_onto

noncomputable def hasV (n : Net) : Bool := bif B (codeE n true = 0) then B (Sol n) else false
theorem hasV_no {n : Net} (h : codeE n true ≠ 0) : hasV n = false := by unfold hasV; rw [B_false h]; rfl
theorem hasV_ok {n : Net} (h : codeE n true = 0) : hasV n = B (Sol n) := by unfold hasV; rw [B_true h]; rfl
theorem varsOk_nil (n : Net) : VarsOk n [] := fun i hi => absurd hi (by simp)
theorem few_of {n : Net} (h : choN 4096 n.sets ≤ 4096) : prodN n.sets ≤ 4096 := by
  have h1 : choN ((4096 : Nat) : Int) n.sets = (prodN n.sets : Int) := choN_exact (m := 4096) (l := n.sets) h
  have h2 : choN ((4096 : Nat) : Int) n.sets ≤ 4096 := h
  omega
theorem nilInts (w : World) : Ints w 0 w.heap.size (.slice none 0 0) [] := ⟨by simp [maxLen], none, 0, rfl, Nat.le_refl _, fun h => absurd h (by simp)⟩

set_option maxHeartbeats 1000000 in
theorem impl_HasSolution (s k : Value) (n : Net) (w : World) (h : NetIn w s k n) : Calls Try.prog 33 #[.agg #[s, k]] w (RetX (.tuple #[.bool (hasV n), .int .i64 (codeE n true)]) w) := by
  have H := Lib.hid h
  have Hv := Lib.hid (B_true (varsOk_nil n))
  clear h
  go_enter Try.func33, Try.ntmps33
  go_wp2_with fail
  refine Calls.mono (impl_checkChoices s k _ n [] _ (H.out.up (by repeat (first | exact Ext.refl _ | assumption | refine Ext.alloc ?_ _ | refine Ext.drew ?_ | refine Ext.drewN ?_ _ | refine Ext.setCell ?_ (by first | (simp; done) | (simp; omega) | omega) _ | refine Ext.trans ?_ (by assumption)))) (nilInts _)) ?_
  rintro e w1 ⟨rfl, hx1⟩
  rw [Hv.out]
  have hb := (Boxed.new w [s, k] 32).ext hx1; have hb0 := hb.at0; have hb1 := hb.at1; have hbg := hb.1; have Hhb := Lib.hid hb; clear hb
  have hx : Ext w w1 := (by repeat (first | exact Ext.refl _ | assumption | refine Ext.alloc ?_ _ | refine Ext.drew ?_ | refine Ext.drewN ?_ _ | refine Ext.setCell ?_ (by first | (simp; done) | (simp; omega) | omega) _ | refine Ext.trans ?_ (by assumption)))
  clear hx1
  by_cases hc : codeE n true = 0
  · have Hc := Lib.hid hc
    have Hz := Lib.hid (codeE_zero hc)
    have hd : (codeE n true != 0) = false := by rw [hc]; rfl
    clear hc
    go_wp2_with fail
    refine Calls.mono (impl_isSolvable s k n _ (H.out.up (by repeat (first | exact Ext.refl _ | assumption | refine Ext.alloc ?_ _ | refine Ext.drew ?_ | refine Ext.drewN ?_ _ | refine Ext.setCell ?_ (by first | (simp; done) | (simp; omega) | omega) _ | refine Ext.trans ?_ (by assumption)))) (NetFit.of Hz.out.1)) ?_
    rintro e w2 ⟨rfl, hx2⟩
    go_wp2_with fail
    go_ret2
    exact ⟨by rw [hasV_ok Hc.out, Hc.out]; rfl, (by repeat (first | exact Ext.refl _ | assumption | refine Ext.alloc ?_ _ | refine Ext.drew ?_ | refine Ext.drewN ?_ _ | refine Ext.setCell ?_ (by first | (simp; done) | (simp; omega) | omega) _ | refine Ext.trans ?_ (by assumption)))⟩
  · have Hc := Lib.hid hc
    have hd : (codeE n true != 0) = true := by simp [hc]
    clear hc
    go_wp2_with fail
    go_ret2
    exact ⟨by rw [hasV_no Hc.out]; rfl, (by repeat (first | exact Ext.refl _ | assumption | refine Ext.alloc ?_ _ | refine Ext.drew ?_ | refine Ext.drewN ?_ _ | refine Ext.setCell ?_ (by first | (simp; done) | (simp; omega) | omega) _ | refine Ext.trans ?_ (by assumption)))⟩
set_option maxHeartbeats 1000000 in
theorem spec_HasSolution (s k : Value) (n : Net) (w : World) (h : NetIn w s k n) : Calls Try.prog 32 #[.agg #[s, k]] w (RetX (.tuple #[.bool (hasV n), .int .i64 (codeE n true)]) w) := by
  have H := Lib.hid h
  clear h
  go_enter Try.func32, Try.ntmps32
  go_wp2_with fail
  refine Calls.mono (spec_l20Code s k n true _ (H.out.up (by repeat (first | exact Ext.refl _ | assumption | refine Ext.alloc ?_ _ | refine Ext.drew ?_ | refine Ext.drewN ?_ _ | refine Ext.setCell ?_ (by first | (simp; done) | (simp; omega) | omega) _ | refine Ext.trans ?_ (by assumption))))) ?_
  rintro e w1 ⟨rfl, hx1⟩
  have hb := (Boxed.new w [s, k] 32).ext hx1; have hb0 := hb.at0; have hb1 := hb.at1; have hbg := hb.1; have Hhb := Lib.hid hb; clear hb
  have hx : Ext w w1 := (by repeat (first | exact Ext.refl _ | assumption | refine Ext.alloc ?_ _ | refine Ext.drew ?_ | refine Ext.drewN ?_ _ | refine Ext.setCell ?_ (by first | (simp; done) | (simp; omega) | omega) _ | refine Ext.trans ?_ (by assumption)))
  clear hx1
  by_cases hc : codeE n true = 0
  · have Hc := Lib.hid hc
    have Hz := Lib.hid (codeE_zero hc)
    have hd : (codeE n true != 0) = false := by rw [hc]; rfl
    clear hc
    go_wp2_with fail
    refine Calls.mono (spec_l20Has s k n _ (H.out.up (by repeat (first | exact Ext.refl _ | assumption | refine Ext.alloc ?_ _ | refine Ext.drew ?_ | refine Ext.drewN ?_ _ | refine Ext.setCell ?_ (by first | (simp; done) | (simp; omega) | omega) _ | refine Ext.trans ?_ (by assumption)))) (NetFit.of Hz.out.1) (few_of Hz.out.2.2)) ?_
    rintro e w2 ⟨rfl, hx2⟩
    go_wp2_with fail
    go_ret2
    exact ⟨by rw [hasV_ok Hc.out, Hc.out]; rfl, (by repeat (first | exact Ext.refl _ | assumption | refine Ext.alloc ?_ _ | refine Ext.drew ?_ | refine Ext.drewN ?_ _ | refine Ext.setCell ?_ (by first | (simp; done) | (simp; omega) | omega) _ | refine Ext.trans ?_ (by assumption)))⟩
  · have Hc := Lib.hid hc
    have hd : (codeE n true != 0) = true := by simp [hc]
    clear hc
    go_wp2_with fail
    go_ret2
    exact ⟨by rw [hasV_no Hc.out]; rfl, (by repeat (first | exact Ext.refl _ | assumption | refine Ext.alloc ?_ _ | refine Ext.drew ?_ | refine Ext.drewN ?_ _ | refine Ext.setCell ?_ (by first | (simp; done) | (simp; omega) | omega) _ | refine Ext.trans ?_ (by assumption)))⟩
end Go.Proofs.Ytkpoelgaomgjlaa
