/- Contracts: lists compared: slices.Compare, l20Less. -/
import Derived.Test.YtkpoelgaomgjlaaFs
import Derived.Test.YtkpoelgaomgjlaaA
namespace Go.Proofs.Ytkpoelgaomgjlaa
set_option linter.unusedVariables false
set_option linter.unusedSimpArgs false
open Go.RowKit
attribute [local go_sem] cell_onto

noncomputable def cmpL (a b : List Int) : Int := bif B (Lex a b) then -1 else bif B (Lex b a) then 1 else 0
theorem cmpL_lt {a b : List Int} (h : Lex a b) : cmpL a b = -1 := by unfold cmpL; rw [B_true h]; rfl
theorem cmpL_ge {a b : List Int} (h : ¬ Lex a b) : 0 ≤ cmpL a b ∧ cmpL a b ≤ 1 := by
  unfold cmpL
  rw [B_false h]
  cases B (Lex b a)
  · exact ⟨Int.le_refl _, by decide⟩
  · exact ⟨by decide, Int.le_refl _⟩
theorem cmpL_gt {a b : List Int} (h : ¬ Lex a b) (h2 : Lex b a) : cmpL a b = 1 := by unfold cmpL; rw [B_false h, B_true h2]; rfl
theorem cmpL_eq {a b : List Int} (h : ¬ Lex a b) (h2 : ¬ Lex b a) : cmpL a b = 0 := by unfold cmpL; rw [B_false h, B_false h2]; rfl
theorem eqTo_step {a b : List Int} {j : Nat} (h : ∀ i, i < j → inAt a i = inAt b i) (h2 : inAt a j = inAt b j) : ∀ i, i < j + 1 → inAt a i = inAt b i := by
  intro i hi
  by_cases e : i = j
  · subst e; exact h2
  · exact h i (by omega)

set_option maxHeartbeats 400000 in
theorem isNaN_int64 (x : Int) (w : World) : Calls Try.prog 156 #[.int .i64 x] w (RetS (.bool false) w) := by
  have T : (x != x) = false := by simp
  go_enter Try.func156, Try.ntmps156
  go_wp2_with fail
  go_ret
  exact ⟨rfl, rfl⟩
set_option maxHeartbeats 1000000 in
theorem cmp_Compare (x y : Int) (w : World) : Calls Try.prog 147 #[.int .i64 x, .int .i64 y] w (RetS (.int .i64 (if x < y then -1 else if y < x then 1 else 0)) w) := by
  go_enter Try.func147, Try.ntmps147
  by_cases h1 : x < y
  · have T1 : decide (x < y) = true := decide_eq_true h1
    have Hv : Hid ((if x < y then (-1 : Int) else if y < x then 1 else 0) = -1) := Lib.hid (by rw [if_pos h1])
    rw [Hv.out]
    go_wp2_with (go_at_call 156; refine Calls.mono (isNaN_int64 _ _) ?_; rintro e w1 ⟨rfl, rfl⟩)
    go_ret
    exact ⟨rfl, rfl⟩
  · have T1 : decide (x < y) = false := decide_eq_false h1
    by_cases h2 : y < x
    · have T2 : decide (y < x) = true := decide_eq_true h2
      have Hv : Hid ((if x < y then (-1 : Int) else if y < x then 1 else 0) = 1) := Lib.hid (by rw [if_neg h1, if_pos h2])
      rw [Hv.out]
      go_wp2_with (go_at_call 156; refine Calls.mono (isNaN_int64 _ _) ?_; rintro e w1 ⟨rfl, rfl⟩)
      go_ret
      exact ⟨rfl, rfl⟩
    · have T2 : decide (y < x) = false := decide_eq_false h2
      have Hv : Hid ((if x < y then (-1 : Int) else if y < x then 1 else 0) = 0) := Lib.hid (by rw [if_neg h1, if_neg h2])
      rw [Hv.out]
      go_wp2_with (go_at_call 156; refine Calls.mono (isNaN_int64 _ _) ?_; rintro e w1 ⟨rfl, rfl⟩)
      go_ret
      exact ⟨rfl, rfl⟩
set_option maxHeartbeats 2000000 in
theorem slices_Compare_ints (v v' : Value) (a b : List Int) (w : World) (h : Ints w 0 w.heap.size v a) (h' : Ints w 0 w.heap.size v' b) (hl : a.length = b.length) :
    Calls Try.prog 111 #[v, v'] w (RetS (.int .i64 (cmpL a b)) w) := by
  obtain ⟨A, c, rfl, hn, hc⟩ := h.len
  obtain ⟨A', c', rfl, hn', hc'⟩ := h'.len
  have H := Lib.hid h
  have H' := Lib.hid h'
  rw [hl] at hn hc
  have Hl := Lib.hid hl
  rw [hl] at H ⊢
  clear h h' hl
  go_enter Try.func111, Try.ntmps111
  go_wp2_with fail
  go_loopg [5, 6, 7, 8, 11] b.length (fun q u5 u6 u7 u8 i wr => ∃ j : Nat, j + q = b.length ∧ i = .int .i64 j ∧ wr = w ∧ Hid (∀ i, i < j → inAt a i = inAt b i))
  case atStart => exact ⟨0, by omega, rfl, rfl, Lib.hid (fun i hi => absurd hi (by omega))⟩
  case round =>
    obtain ⟨j, hj, rfl, rfl, Heq⟩ := hrel
    by_cases hlt : j < b.length
    · obtain ⟨b1, o1, rfl, _, hb1, h1⟩ := H.out.at_ (i := j) (by have := Hl.out; omega)
      obtain ⟨b2, o2, rfl, _, hb2, h2⟩ := H'.out.at_ hlt
      have T1 : decide ((b.length : Int) ≤ (j : Int)) = false := decide_eq_false (by omega)
      have T1' : decide (b.length ≤ j) = false := decide_eq_false (by omega)
      go_wp2_with fail
      refine Calls.mono (cmp_Compare (inAt a j) (inAt b j) _) ?_
      rintro e w1 ⟨rfl, rfl⟩
      rcases Int.lt_trichotomy (inAt a j) (inAt b j) with hh | hh | hh
      · have Hr := Lib.hid (cmpL_lt ((lex_step (by have := Hl.out; omega) Heq.out (by omega)).2 hh))
        rw [if_pos hh, Hr.out]
        clear hh
        go_wp2_with fail
        go_ret
        exact ⟨by rw [Hr.out]; rfl, rfl⟩
      · have Hh := Lib.hid hh
        rw [if_neg (by omega), if_neg (by omega)]
        clear hh
        go_wp2_with fail
        go_roundg (b.length - (j + 1))
        case measure => omega
        case rel => exact ⟨j + 1, by omega, by go_num, rfl, Lib.hid (eqTo_step Heq.out Hh.out)⟩
      · have Hr := Lib.hid (cmpL_gt (a := a) (b := b) (fun hx => by have := (lex_step (by have := Hl.out; omega) Heq.out (by omega)).1 hx; omega) ((lex_step hlt (fun i hi => (Heq.out i hi).symm) (by omega)).2 hh))
        rw [if_neg (by omega), if_pos hh, Hr.out]
        clear hh
        go_wp2_with fail
        go_ret
        exact ⟨by rw [Hr.out]; rfl, rfl⟩
    · obtain rfl : j = b.length := by omega
      have Hr := Lib.hid (cmpL_eq (a := a) (b := b) (lex_end (fun i hi => Heq.out i (by have := Hl.out; omega))) (lex_end (fun i hi => (Heq.out i hi).symm)))
      rw [Hr.out]
      go_wp2_with fail
      go_ret
      exact ⟨by rw [Hr.out]; rfl, rfl⟩
set_option maxHeartbeats 2000000 in
theorem spec_l20Less (v v' : Value) (a b : List Int) (w : World) (h : Ints w 0 w.heap.size v a) (h' : Ints w 0 w.heap.size v' b) (hl : a.length = b.length) :
    Calls Try.prog 108 #[v, v'] w (RetX (.bool (B (Lex a b))) w) := by
  obtain ⟨A, c, rfl, hn, hc⟩ := h.len
  obtain ⟨A', c', rfl, hn', hc'⟩ := h'.len
  have H := Lib.hid h
  have H' := Lib.hid h'
  rw [hl] at hn hc
  have Hl := Lib.hid hl
  rw [hl] at H ⊢
  clear h h' hl
  go_enter Try.func108, Try.ntmps108
  go_wp2_with fail
  go_loopg [5] b.length (fun q i wr => ∃ j : Nat, j + q = b.length ∧ i = .int .i64 j ∧ Ext w wr ∧ Hid (∀ i, i < j → inAt a i = inAt b i))
  case atStart => exact ⟨0, by omega, rfl, Ext.refl _, Lib.hid (fun i hi => absurd hi (by omega))⟩
  case round =>
    obtain ⟨j, hj, rfl, hx, Heq⟩ := hrel
    have hxs := hx.size
    by_cases hlt : j < b.length
    · obtain ⟨b1, o1, rfl, _, hb1, h1⟩ := (H.out.ext hx (Nat.le_refl _)).at_ (i := j) (by have := Hl.out; omega)
      obtain ⟨b2, o2, rfl, _, hb2, h2⟩ := (H'.out.ext hx (Nat.le_refl _)).at_ hlt
      have hb1r : b1 < wr.heap.size := by omega
      have hb2r : b2 < wr.heap.size := by omega
      by_cases hh : inAt a j = inAt b j
      · have T : (inAt a j != inAt b j) = false := by simp [hh]
        have Hh := Lib.hid hh
        clear hh
        go_wp2_with fail
        (refine wp_region_onto prog_mixed (by kernel_rfl) ?_; (repeat (go_big_quiet_step ((fail)))); refine onto_end ?_; intro w1 hx1)
        go_wp2_with fail
        go_roundg (b.length - (j + 1))
        case measure => omega
        case rel => exact ⟨j + 1, by omega, by go_num, (by repeat (first | exact Ext.refl _ | assumption | refine Ext.alloc ?_ _ | refine Ext.drew ?_ | refine Ext.drewN ?_ _ | refine Ext.setCell ?_ (by first | (simp; done) | (simp; omega) | omega) _ | refine Ext.trans ?_ (by assumption))), Lib.hid (eqTo_step Heq.out Hh.out)⟩
      · have T : (inAt a j != inAt b j) = true := by simp [hh]
        have Hh := Lib.hid (lex_step (a := a) (b := b) (by have := Hl.out; omega) Heq.out hh)
        clear hh
        go_wp2_with fail
        (refine wp_region_onto prog_mixed (by kernel_rfl) ?_; (repeat (go_big_quiet_step ((fail)))); refine onto_end ?_; intro w1 hx1)
        have k1 : w1.cell? ⟨b1, o1 + j, none⟩ = some (.int .i64 (inAt a j)) := (hx1.cell (p := ⟨b1, o1 + j, none⟩) hb1r).trans h1
        have k2 : w1.cell? ⟨b2, o2 + j, none⟩ = some (.int .i64 (inAt b j)) := (hx1.cell (p := ⟨b2, o2 + j, none⟩) hb2r).trans h2
        have kz := hx1.size
        have hb1s : b1 < w1.heap.size := by omega
        have hb2s : b2 < w1.heap.size := by omega
        go_wp2_with fail
        (refine wp_region_onto prog_mixed (by kernel_rfl) ?_; (repeat (go_big_quiet_step ((fail)))); refine onto_end ?_; intro w2 hx2)
        go_wp2_with fail
        go_ret
        exact ⟨ret_bool (B_eq (by rw [Hh.out]; simp)), (by repeat (first | exact Ext.refl _ | assumption | refine Ext.alloc ?_ _ | refine Ext.drew ?_ | refine Ext.drewN ?_ _ | refine Ext.setCell ?_ (by first | (simp; done) | (simp; omega) | omega) _ | refine Ext.trans ?_ (by assumption)))⟩
    · obtain rfl : j = b.length := by omega
      have Hr := Lib.hid (B_false (lex_end (a := a) (b := b) (fun i hi => Heq.out i (by have := Hl.out; omega))))
      rw [Hr.out]
      go_wp2_with fail
      go_ret
      exact ⟨by rw [Hr.out]; rfl, (by repeat (first | exact Ext.refl _ | assumption | refine Ext.alloc ?_ _ | refine Ext.drew ?_ | refine Ext.drewN ?_ _ | refine Ext.setCell ?_ (by first | (simp; done) | (simp; omega) | omega) _ | refine Ext.trans ?_ (by assumption)))⟩
end Go.Proofs.Ytkpoelgaomgjlaa
