/- Contracts: the program's checkChoices. -/
import Derived.Test.YtkpoelgaomgjlaaI
import Derived.Test.YtkpoelgaomgjlaaJ
namespace Go.Proofs.Ytkpoelgaomgjlaa
set_option linter.unusedVariables false
set_option linter.unusedSimpArgs false
open Go.RowKit
attribute [local go_sem] cell_onto

def VarsOk (n : Net) (vs : List Int) : Prop := ∀ i, i < vs.length → 0 ≤ inAt vs i ∧ inAt vs i ≤ (n.sets.length : Int) - 1
theorem varsOk_iff {n : Net} {vs : List Int} : ¬ Some_ vs.length (fun i => ¬ (0 ≤ inAt vs i ∧ inAt vs i ≤ (n.sets.length : Int) - 1)) ↔ VarsOk n vs := by
  unfold Some_ VarsOk
  constructor
  · intro h i hi
    exact Classical.byContradiction fun hn => h ⟨i, hi, hn⟩
  · rintro h ⟨i, hi, hn⟩
    exact hn (h i hi)
theorem codeE_net {n : Net} {b : Bool} (h : ¬ NetOk n) : codeE n b = 1 := by unfold codeE; rw [B_false h]; rfl
theorem codeE_bad {n : Net} (h : NetOk n) : codeE n false = 2 := by unfold codeE; rw [B_true h]; rfl
theorem codeE_big {n : Net} (h : NetOk n) (h2 : ¬ choN 4096 n.sets ≤ 4096) : codeE n true = 3 := by unfold codeE; rw [B_true h, B_false h2]; rfl
theorem codeE_ok {n : Net} (h : NetOk n) (h2 : choN 4096 n.sets ≤ 4096) : codeE n true = 0 := by unfold codeE; rw [B_true h, B_true h2]; rfl
theorem codeE_zero {n : Net} {b : Bool} (h : codeE n b = 0) : NetOk n ∧ b = true ∧ choN 4096 n.sets ≤ 4096 := by
  by_cases h1 : NetOk n
  · cases b
    · rw [codeE_bad h1] at h; omega
    · by_cases h2 : choN 4096 n.sets ≤ 4096
      · exact ⟨h1, rfl, h2⟩
      · rw [codeE_big h1 h2] at h; omega
  · rw [codeE_net h1] at h; omega

set_option maxHeartbeats 400000 in
theorem impl_checkChoices_1 (d : Int) (gN m : Nat) (A : Option Addr) (c : Nat) (w : World) (h : w.cell? ⟨gN, 0, none⟩ = some (.slice A m c)) (hg : gN < w.heap.size) (hm : m ≤ 1048576) :
    Calls Try.prog 126 #[.int .i64 d, .pointer (some ⟨gN, 0, none⟩)] w (RetX (.bool (B (¬ (0 ≤ d ∧ d ≤ (m : Int) - 1)))) w) := by
  go_enter Try.func126, Try.ntmps126
  go_wp2_with (go_at_call 59; refine (impl_within _ _ _ _).mono ?_; rintro e w1 ⟨rfl, rfl⟩)
  (go_ret; exact ⟨ret_bool (B_eq (by simp [B_not])), (by repeat (first | exact Ext.refl _ | assumption | refine Ext.alloc ?_ _ | refine Ext.drew ?_ | refine Ext.drewN ?_ _ | refine Ext.setCell ?_ (by first | (simp; done) | (simp; omega) | omega) _ | refine Ext.trans ?_ (by assumption)))⟩)
set_option maxHeartbeats 1000000 in
theorem impl_checkChoices (s k v : Value) (n : Net) (vs : List Int) (w : World) (h : NetIn w s k n) (hd : Ints w 0 w.heap.size v vs) :
    Calls Try.prog 81 #[.agg #[s, k], v] w (RetX (.int .i64 (codeE n (B (VarsOk n vs)))) w) := by
  obtain ⟨A, c, rfl, hn, hc⟩ := h.1.len
  obtain ⟨A', c', rfl, hn', hc'⟩ := hd.len
  have H := Lib.hid h
  have Hd := Lib.hid hd
  clear h hd
  go_enter Try.func81, Try.ntmps81
  go_wp2_with fail
  refine Calls.mono (impl_IsNetwork _ k n _ (H.out.up (by repeat (first | exact Ext.refl _ | assumption | refine Ext.alloc ?_ _ | refine Ext.drew ?_ | refine Ext.drewN ?_ _ | refine Ext.setCell ?_ (by first | (simp; done) | (simp; omega) | omega) _ | refine Ext.trans ?_ (by assumption))))) ?_
  rintro e w1 ⟨rfl, hx1⟩
  have hb := (Boxed.new w [.slice A n.sets.length c, k] 32).ext hx1; have hb0 := hb.at0; have hb1 := hb.at1; have hbg := hb.1; have Hhb := Lib.hid hb; clear hb
  have hx : Ext w w1 := (by repeat (first | exact Ext.refl _ | assumption | refine Ext.alloc ?_ _ | refine Ext.drew ?_ | refine Ext.drewN ?_ _ | refine Ext.setCell ?_ (by first | (simp; done) | (simp; omega) | omega) _ | refine Ext.trans ?_ (by assumption)))
  clear hx1
  by_cases hok : NetOk n
  · have Hok := Lib.hid hok
    have hbd := choN_bd n.sets
    have hm8 : n.sets.length ≤ 1048576 := by have := hok.1; omega
    have Hbx : Hid (Boxed w1 w.heap.size [.slice A n.sets.length c, k]) := Lib.hid Hhb.out
    clear hok
    rw [B_true Hok.out]
    go_wp2_with fail
    refine Calls.mono (containsFunc_ints _ vs 126 #[.pointer (some ⟨w.heap.size, 0, none⟩)] (fun i => ¬ (0 ≤ inAt vs i ∧ inAt vs i ≤ (n.sets.length : Int) - 1)) w1 (Hd.out.up hx) Try.call126 (fun i w' _ hx' => impl_checkChoices_1 _ w.heap.size n.sets.length A c w' (Hbx.out.ext hx').at0 (Hbx.out.ext hx').1 hm8)) ?_
    rintro e w2 ⟨rfl, hx2⟩
    by_cases hq : VarsOk n vs
    · have Hq := Lib.hid hq
      rw [B_false (fun hh => varsOk_iff.2 hq hh)]
      have hbq := Lib.hid (B_true hq)
      have hd := Hbx.out.ext hx2; have hd0 := hd.at0; have hd1 := hd.at1; have hdg := hd.1; have Hhd := Lib.hid hd; clear hd
      clear hq hb0 hb1 hbg Hhb Hbx
      go_wp2_with fail
      refine Calls.mono (impl_countChoices _ k n w2 (H.out.up (by repeat (first | exact Ext.refl _ | assumption | refine Ext.alloc ?_ _ | refine Ext.drew ?_ | refine Ext.drewN ?_ _ | refine Ext.setCell ?_ (by first | (simp; done) | (simp; omega) | omega) _ | refine Ext.trans ?_ (by assumption)))) 4096 (by omega) (by omega) (SetsFit.of Hok.out)) ?_
      rintro e w3 ⟨rfl, hx3⟩
      by_cases hl : choN 4096 n.sets ≤ 4096
      · have T1 : decide (4096 < choN 4096 n.sets) = false := decide_eq_false (by omega)
        have Hl := Lib.hid hl
        go_wp2_with fail
        go_ret
        exact ⟨by rw [hbq.out, codeE_ok Hok.out Hl.out]; rfl, (by repeat (first | exact Ext.refl _ | assumption | refine Ext.alloc ?_ _ | refine Ext.drew ?_ | refine Ext.drewN ?_ _ | refine Ext.setCell ?_ (by first | (simp; done) | (simp; omega) | omega) _ | refine Ext.trans ?_ (by assumption)))⟩
      · have T1 : decide (4096 < choN 4096 n.sets) = true := decide_eq_true (by omega)
        have Hl := Lib.hid hl
        go_wp2_with fail
        go_ret
        exact ⟨by rw [hbq.out, codeE_big Hok.out (show ¬ choN 4096 n.sets ≤ 4096 by have := Hl.out; omega)]; rfl, (by repeat (first | exact Ext.refl _ | assumption | refine Ext.alloc ?_ _ | refine Ext.drew ?_ | refine Ext.drewN ?_ _ | refine Ext.setCell ?_ (by first | (simp; done) | (simp; omega) | omega) _ | refine Ext.trans ?_ (by assumption)))⟩
    · have Hq := Lib.hid hq
      rw [B_true (Classical.byContradiction fun hh => hq (varsOk_iff.1 hh))]
      have hbq := Lib.hid (B_false hq)
      clear hq
      go_wp2_with fail
      go_ret
      exact ⟨by rw [hbq.out, codeE_bad Hok.out]; rfl, (by repeat (first | exact Ext.refl _ | assumption | refine Ext.alloc ?_ _ | refine Ext.drew ?_ | refine Ext.drewN ?_ _ | refine Ext.setCell ?_ (by first | (simp; done) | (simp; omega) | omega) _ | refine Ext.trans ?_ (by assumption)))⟩
  · have Hok := Lib.hid hok
    clear hok
    rw [B_false Hok.out]
    go_wp2_with fail
    go_ret
    exact ⟨by rw [codeE_net Hok.out]; rfl, (by repeat (first | exact Ext.refl _ | assumption | refine Ext.alloc ?_ _ | refine Ext.drew ?_ | refine Ext.drewN ?_ _ | refine Ext.setCell ?_ (by first | (simp; done) | (simp; omega) | omega) _ | refine Ext.trans ?_ (by assumption)))⟩
end Go.Proofs.Ytkpoelgaomgjlaa
