/- Contracts: the codes of statements that may be blamed. -/
import Derived.Test.YtfociflfeednfaaGc
import Derived.Test.YtfociflfeednfaaBl
import Derived.Test.YtfociflfeednfaaI
namespace Go.Proofs.Ytfociflfeednfaa
set_option linter.unusedVariables false
set_option linter.unusedSimpArgs false
open Go.RowKit
attribute [local go_sem] cell_onto

noncomputable def blE (n : Net) (l : List Int) : Int := bif B (stmE n l = 0) then (bif B (blN n ≤ 256) then 0 else 3) else stmE n l
theorem blE_no {n : Net} {l : List Int} (h : stmE n l ≠ 0) : blE n l = stmE n l := by unfold blE; rw [B_false h]; rfl
theorem blE_big {n : Net} {l : List Int} (h : stmE n l = 0) (h2 : ¬ blN n ≤ 256) : blE n l = 3 := by unfold blE; rw [B_true h, B_false h2]; rfl
theorem blE_ok {n : Net} {l : List Int} (h : stmE n l = 0) (h2 : blN n ≤ 256) : blE n l = 0 := by unfold blE; rw [B_true h, B_true h2]; rfl
theorem stmE_zero {n : Net} {l : List Int} (h : stmE n l = 0) : NetOk n ∧ StmOk n l := by
  by_cases h1 : NetOk n
  · by_cases h2 : StmOk n l
    · exact ⟨h1, h2⟩
    · rw [stm_bad h1 h2] at h; omega
  · rw [stm_net h1] at h; omega
theorem blE_zero {n : Net} {l : List Int} (h : blE n l = 0) : NetOk n ∧ StmOk n l ∧ blN n ≤ 256 := by
  by_cases h1 : stmE n l = 0
  · by_cases h2 : blN n ≤ 256
    · exact ⟨(stmE_zero h1).1, (stmE_zero h1).2, h2⟩
    · rw [blE_big h1 h2] at h; omega
  · rw [blE_no h1] at h; exact absurd h h1
theorem bl_fit {l : List (List Sp)} (hf : SetsFit l) {j : Nat} (hj : j < l.length) : 0 ≤ blTo l j * ((setAt l j).length : Int) ∧ blTo l j * ((setAt l j).length : Int) ≤ 77100 := by
  have h1 := blTo_bd l j
  have h2 : ((setAt l j).length : Int) ≤ 300 := by have := hf j hj; omega
  refine ⟨Int.mul_nonneg (by omega) (by omega), ?_⟩
  have := Int.mul_le_mul (a := blTo l j) (b := ((setAt l j).length : Int)) (c := 257) (d := 300) (by omega) h2 (by omega) (by omega)
  omega
theorem bl_fit1 {l : List (List Sp)} (hf : SetsFit l) {j : Nat} (hj : j < l.length) : 0 ≤ blTo l j * (max 1 ((setAt l j).length : Int)) ∧ blTo l j * (max 1 ((setAt l j).length : Int)) ≤ 77100 := by
  have h1 := blTo_bd l j
  have h2 : ((setAt l j).length : Int) ≤ 300 := by have := hf j hj; omega
  have h3 : (1 : Int) ≤ max 1 ((setAt l j).length : Int) := Int.le_max_left _ _
  have h4 : max 1 ((setAt l j).length : Int) ≤ 300 := by omega
  refine ⟨Int.mul_nonneg (by omega) (by omega), ?_⟩
  have := Int.mul_le_mul (a := blTo l j) (b := max 1 ((setAt l j).length : Int)) (c := 257) (d := 300) (by omega) h4 (by omega) (by omega)
  omega

set_option maxHeartbeats 2000000 in
theorem impl_checkBlame (s k v : Value) (n : Net) (l : List Int) (w : World) (h : NetIn w s k n) (hl : Ints w 0 w.heap.size v l) :
    Calls Try.prog 30 #[.agg #[s, k], v] w (RetX (.int .i64 (blE n l)) w) := by
  obtain ⟨A, c, rfl, hn, hc⟩ := h.1.len
  obtain ⟨Al, cl, rfl, hnl, hcl⟩ := hl.len
  have H := Lib.hid h
  have Hl := Lib.hid hl
  clear h hl
  go_enter Try.func30, Try.ntmps30
  go_wp2_with fail
  refine Calls.mono (impl_checkStatements _ k _ n l _ (H.out.up (by repeat (first | exact Ext.refl _ | assumption | refine Ext.alloc ?_ _ | refine Ext.drew ?_ | refine Ext.drewN ?_ _ | refine Ext.setCell ?_ (by first | (simp; done) | (simp; omega) | omega) _ | refine Ext.trans ?_ (by assumption)))) (Hl.out.up (by repeat (first | exact Ext.refl _ | assumption | refine Ext.alloc ?_ _ | refine Ext.drew ?_ | refine Ext.drewN ?_ _ | refine Ext.setCell ?_ (by first | (simp; done) | (simp; omega) | omega) _ | refine Ext.trans ?_ (by assumption))))) ?_
  rintro e w1 ⟨rfl, hx1⟩
  have hb := (Boxed.new w [.slice A n.sets.length c, k] 33).ext hx1; have hb0 := hb.at0; have hb1 := hb.at1; have hbg := hb.1; have Hhb := Lib.hid hb; clear hb
  have hx : Ext w w1 := (by repeat (first | exact Ext.refl _ | assumption | refine Ext.alloc ?_ _ | refine Ext.drew ?_ | refine Ext.drewN ?_ _ | refine Ext.setCell ?_ (by first | (simp; done) | (simp; omega) | omega) _ | refine Ext.trans ?_ (by assumption)))
  clear hx1
  by_cases hs : stmE n l = 0
  · have Hs := Lib.hid hs
    have Hf := Lib.hid (SetsFit.of (stmE_zero hs).1)
    have hd : (stmE n l != 0) = false := by rw [hs]; rfl
    have Hbx : Hid (Boxed w1 w.heap.size [.slice A n.sets.length c, k]) := Lib.hid Hhb.out
    clear hs
    go_wp2_with fail
    go_loopg [6, 8, 18] n.sets.length (fun q t u8 i wr => ∃ j : Nat, j + q = n.sets.length ∧ i = .int .i64 j ∧ t = .int .i64 (blTo n.sets j) ∧ Ext w wr)
    case atStart => exact ⟨0, by omega, rfl, rfl, (by repeat (first | exact Ext.refl _ | assumption | refine Ext.alloc ?_ _ | refine Ext.drew ?_ | refine Ext.drewN ?_ _ | refine Ext.setCell ?_ (by first | (simp; done) | (simp; omega) | omega) _ | refine Ext.trans ?_ (by assumption)))⟩
    case round =>
      obtain ⟨j, hj, rfl, rfl, hxr⟩ := hrel
      by_cases hlt : j < n.sets.length
      · obtain ⟨b, off, u, rfl, _, hbl, h1, h2⟩ := (H.out.1.ext hxr (Nat.le_refl _)).at_ hlt
        obtain ⟨A2, c2, rfl, hn2, hc2⟩ := h2.len
        obtain ⟨p1, p2⟩ := bl_fit Hf.out hlt
        have p3 := blTo_bd n.sets j
        clear h2
        by_cases h0 : (setAt n.sets j).length = 0
        · have hd1 : decide (0 < ((setAt n.sets j).length : Int)) = false := decide_eq_false (by omega)
          have hd2 : decide (0 < (setAt n.sets j).length) = false := decide_eq_false (by omega)
          have H0 := Lib.hid (blTo_zero h0)
          go_wp2_with fail
          all_goals
            go_roundg (n.sets.length - (j + 1))
            case measure => omega
            case rel => exact ⟨j + 1, by omega, by go_num, by rw [H0.out], (by repeat (first | exact Ext.refl _ | assumption | refine Ext.alloc ?_ _ | refine Ext.drew ?_ | refine Ext.drewN ?_ _ | refine Ext.setCell ?_ (by first | (simp; done) | (simp; omega) | omega) _ | refine Ext.trans ?_ (by assumption)))⟩
        · have hd1 : decide (0 < ((setAt n.sets j).length : Int)) = true := decide_eq_true (by omega)
          have hd2 : decide (0 < (setAt n.sets j).length) = true := decide_eq_true (by omega)
          have H0 := Lib.hid (blTo_pos h0)
          go_wp2_with fail
          all_goals
            go_roundg (n.sets.length - (j + 1))
            case measure => omega
            case rel => exact ⟨j + 1, by omega, by go_num, by rw [H0.out]; congr 1; omega, (by repeat (first | exact Ext.refl _ | assumption | refine Ext.alloc ?_ _ | refine Ext.drew ?_ | refine Ext.drewN ?_ _ | refine Ext.setCell ?_ (by first | (simp; done) | (simp; omega) | omega) _ | refine Ext.trans ?_ (by assumption)))⟩
      · obtain rfl : j = n.sets.length := by omega
        have Hbn : Hid (blTo n.sets n.sets.length = blN n) := Lib.hid rfl
        rw [Hbn.out]
        by_cases hb : blN n ≤ 256
        · have T1 : decide (256 < blN n) = false := decide_eq_false (by omega)
          have Hb := Lib.hid hb
          clear hb
          go_wp2_with fail
          go_ret
          exact ⟨by rw [blE_ok Hs.out Hb.out]; rfl, (by repeat (first | exact Ext.refl _ | assumption | refine Ext.alloc ?_ _ | refine Ext.drew ?_ | refine Ext.drewN ?_ _ | refine Ext.setCell ?_ (by first | (simp; done) | (simp; omega) | omega) _ | refine Ext.trans ?_ (by assumption)))⟩
        · have T1 : decide (256 < blN n) = true := decide_eq_true (by omega)
          have Hb := Lib.hid hb
          clear hb
          go_wp2_with fail
          go_ret
          exact ⟨by rw [blE_big Hs.out (show ¬ blN n ≤ 256 by have := Hb.out; omega)]; rfl, (by repeat (first | exact Ext.refl _ | assumption | refine Ext.alloc ?_ _ | refine Ext.drew ?_ | refine Ext.drewN ?_ _ | refine Ext.setCell ?_ (by first | (simp; done) | (simp; omega) | omega) _ | refine Ext.trans ?_ (by assumption)))⟩
  · have Hs := Lib.hid hs
    have hd : (stmE n l != 0) = true := by simp [hs]
    clear hs
    go_wp2_with fail
    go_ret
    exact ⟨by rw [blE_no Hs.out]; rfl, (by repeat (first | exact Ext.refl _ | assumption | refine Ext.alloc ?_ _ | refine Ext.drew ?_ | refine Ext.drewN ?_ _ | refine Ext.setCell ?_ (by first | (simp; done) | (simp; omega) | omega) _ | refine Ext.trans ?_ (by assumption)))⟩

set_option maxHeartbeats 1000000 in
theorem spec_l21Most (s k : Value) (n : Net) (w : World) (h : NetIn w s k n) (hf : SetsFit n.sets) : Calls Try.prog 48 #[.agg #[s, k]] w (RetX (.int .i64 (blN n)) w) := by
  obtain ⟨A, c, rfl, hn, hc⟩ := h.1.len
  have H := Lib.hid h
  have Hf := Lib.hid hf
  clear h hf
  go_enter Try.func48, Try.ntmps48
  go_wp2_with fail
  go_loopg [3, 4] n.sets.length (fun m t i wr => ∃ j : Nat, j + m = n.sets.length ∧ i = .int .i64 j ∧ t = .int .i64 (blTo n.sets j) ∧ Ext w wr ∧ Boxed wr w.heap.size [.slice A n.sets.length c, k])
  case atStart => exact ⟨0, by omega, rfl, rfl, (by repeat (first | exact Ext.refl _ | assumption | refine Ext.alloc ?_ _ | refine Ext.drew ?_ | refine Ext.drewN ?_ _ | refine Ext.setCell ?_ (by first | (simp; done) | (simp; omega) | omega) _ | refine Ext.trans ?_ (by assumption))), Boxed.new w _ _⟩
  case round =>
    obtain ⟨j, hj, rfl, rfl, hx, hbb⟩ := hrel
    have hb := hbb; have hb0 := hb.at0; have hb1 := hb.at1; have hbg := hb.1; have Hhb := Lib.hid hb; clear hb
    clear hbb
    by_cases hlt : j < n.sets.length
    · obtain ⟨b, off, u, rfl, _, hbl, h1, h2⟩ := (H.out.1.ext hx (Nat.le_refl _)).at_ hlt
      obtain ⟨A2, c2, rfl, hn2, hc2⟩ := h2.len
      obtain ⟨p1, p2⟩ := bl_fit Hf.out hlt
      have p3 := blTo_bd n.sets j
      clear h2
      by_cases h0 : (setAt n.sets j).length ≤ 1
      · have H0 : Hid (blTo n.sets (j + 1) = blTo n.sets j) := Lib.hid (by
          by_cases e : (setAt n.sets j).length = 0
          · exact blTo_zero e
          · rw [blTo_pos e, show ((setAt n.sets j).length : Int) = 1 by omega, Int.mul_one]; omega)
        have T3 : ¬ 1 < (setAt n.sets j).length := by omega
        have T4 : ¬ (1 : Int) < ((setAt n.sets j).length : Int) := by omega
        go_wp2_with fail
        all_goals
          go_roundg (n.sets.length - (j + 1))
          case measure => omega
          case rel => exact ⟨j + 1, by omega, by go_num, by rw [H0.out] <;> first | rfl | (congr 1; first | omega | (unfold wrap64; omega) | (unfold wrap64; split <;> omega)), (by repeat (first | exact Ext.refl _ | assumption | refine Ext.alloc ?_ _ | refine Ext.drew ?_ | refine Ext.drewN ?_ _ | refine Ext.setCell ?_ (by first | (simp; done) | (simp; omega) | omega) _ | refine Ext.trans ?_ (by assumption))), Hhb.out⟩
      · have H0 := Lib.hid (blTo_pos (l := n.sets) (k := j) (by omega))
        have T3 : 1 < (setAt n.sets j).length := by omega
        have T4 : (1 : Int) < ((setAt n.sets j).length : Int) := by omega
        go_wp2_with fail
        all_goals
          go_roundg (n.sets.length - (j + 1))
          case measure => omega
          case rel => exact ⟨j + 1, by omega, by go_num, by rw [H0.out] <;> first | rfl | (congr 1; first | omega | (unfold wrap64; omega) | (unfold wrap64; split <;> omega)), (by repeat (first | exact Ext.refl _ | assumption | refine Ext.alloc ?_ _ | refine Ext.drew ?_ | refine Ext.drewN ?_ _ | refine Ext.setCell ?_ (by first | (simp; done) | (simp; omega) | omega) _ | refine Ext.trans ?_ (by assumption))), Hhb.out⟩
    · obtain rfl : j = n.sets.length := by omega
      go_wp2_with fail
      go_ret
      exact ⟨rfl, (by repeat (first | exact Ext.refl _ | assumption | refine Ext.alloc ?_ _ | refine Ext.drew ?_ | refine Ext.drewN ?_ _ | refine Ext.setCell ?_ (by first | (simp; done) | (simp; omega) | omega) _ | refine Ext.trans ?_ (by assumption)))⟩
set_option maxHeartbeats 1000000 in
theorem spec_l21Code (s k v : Value) (n : Net) (l : List Int) (w : World) (h : NetIn w s k n) (hl : Ints w 0 w.heap.size v l) :
    Calls Try.prog 25 #[.agg #[s, k], v] w (RetX (.int .i64 (blE n l)) w) := by
  obtain ⟨Al, cl, rfl, hnl, hcl⟩ := hl.len
  have H := Lib.hid h
  have Hl := Lib.hid hl
  clear h hl
  go_enter Try.func25, Try.ntmps25
  go_wp2_with fail
  refine Calls.mono (spec_IsNetwork _ k n _ (H.out.up (by repeat (first | exact Ext.refl _ | assumption | refine Ext.alloc ?_ _ | refine Ext.drew ?_ | refine Ext.drewN ?_ _ | refine Ext.setCell ?_ (by first | (simp; done) | (simp; omega) | omega) _ | refine Ext.trans ?_ (by assumption))))) ?_
  rintro e w1 ⟨rfl, hx1⟩
  have hb := (Boxed.new w [s, k] 33).ext hx1; have hb0 := hb.at0; have hb1 := hb.at1; have hbg := hb.1; have Hhb := Lib.hid hb; clear hb
  have hx : Ext w w1 := (by repeat (first | exact Ext.refl _ | assumption | refine Ext.alloc ?_ _ | refine Ext.drew ?_ | refine Ext.drewN ?_ _ | refine Ext.setCell ?_ (by first | (simp; done) | (simp; omega) | omega) _ | refine Ext.trans ?_ (by assumption)))
  have Hbx : Hid (Boxed w1 w.heap.size [s, k]) := Lib.hid Hhb.out
  clear hx1
  by_cases hok : NetOk n
  · have Hok := Lib.hid hok
    have hbt := B_true hok
    rw [hbt]
    clear hok hbt
    go_wp2_with fail
    refine Calls.mono (spec_l21List _ k _ n l _ (H.out.up (by repeat (first | exact Ext.refl _ | assumption | refine Ext.alloc ?_ _ | refine Ext.drew ?_ | refine Ext.drewN ?_ _ | refine Ext.setCell ?_ (by first | (simp; done) | (simp; omega) | omega) _ | refine Ext.trans ?_ (by assumption)))) (Hl.out.up (by repeat (first | exact Ext.refl _ | assumption | refine Ext.alloc ?_ _ | refine Ext.drew ?_ | refine Ext.drewN ?_ _ | refine Ext.setCell ?_ (by first | (simp; done) | (simp; omega) | omega) _ | refine Ext.trans ?_ (by assumption)))) Hok.out) ?_
    rintro e w2 ⟨rfl, hx2⟩
    have hxw2 : Ext w w2 := (by repeat (first | exact Ext.refl _ | assumption | refine Ext.alloc ?_ _ | refine Ext.drew ?_ | refine Ext.drewN ?_ _ | refine Ext.setCell ?_ (by first | (simp; done) | (simp; omega) | omega) _ | refine Ext.trans ?_ (by assumption)))
    have mb := Hbx.out.ext hx2; have mb0 := mb.at0; have mb1 := mb.at1; have mbg := mb.1; have Hmb := Lib.hid mb; clear mb
    clear hb0 hb1 hbg Hhb Hbx hx2
    by_cases hs : StmOk n l
    · have Hs := Lib.hid (stm_ok Hok.out hs)
      have hbt := B_true hs
      rw [hbt]
      clear hs hbt
      go_wp2_with fail
      refine Calls.mono (spec_l21Most _ k n _ (H.out.up (by repeat (first | exact Ext.refl _ | assumption | refine Ext.alloc ?_ _ | refine Ext.drew ?_ | refine Ext.drewN ?_ _ | refine Ext.setCell ?_ (by first | (simp; done) | (simp; omega) | omega) _ | refine Ext.trans ?_ (by assumption)))) (SetsFit.of Hok.out)) ?_
      rintro e w3 ⟨rfl, hx3⟩
      by_cases hb : blN n ≤ 256
      · have T1 : decide (256 < blN n) = false := decide_eq_false (by omega)
        have Hb := Lib.hid hb
        clear hb
        go_wp2_with fail
        go_ret
        exact ⟨by rw [blE_ok Hs.out Hb.out]; rfl, (by repeat (first | exact Ext.refl _ | assumption | refine Ext.alloc ?_ _ | refine Ext.drew ?_ | refine Ext.drewN ?_ _ | refine Ext.setCell ?_ (by first | (simp; done) | (simp; omega) | omega) _ | refine Ext.trans ?_ (by assumption)))⟩
      · have T1 : decide (256 < blN n) = true := decide_eq_true (by omega)
        have Hb := Lib.hid hb
        clear hb
        go_wp2_with fail
        go_ret
        exact ⟨by rw [blE_big Hs.out (show ¬ blN n ≤ 256 by have := Hb.out; omega)]; rfl, (by repeat (first | exact Ext.refl _ | assumption | refine Ext.alloc ?_ _ | refine Ext.drew ?_ | refine Ext.drewN ?_ _ | refine Ext.setCell ?_ (by first | (simp; done) | (simp; omega) | omega) _ | refine Ext.trans ?_ (by assumption)))⟩
    · have Hs := Lib.hid (stm_bad Hok.out hs)
      have hbt := B_false hs
      rw [hbt]
      clear hs hbt
      go_wp2_with fail
      go_ret
      exact ⟨by rw [blE_no (by rw [Hs.out]; omega), Hs.out]; rfl, (by repeat (first | exact Ext.refl _ | assumption | refine Ext.alloc ?_ _ | refine Ext.drew ?_ | refine Ext.drewN ?_ _ | refine Ext.setCell ?_ (by first | (simp; done) | (simp; omega) | omega) _ | refine Ext.trans ?_ (by assumption)))⟩
  · have Hs := Lib.hid (stm_net (l := l) hok)
    have hbt := B_false hok
    rw [hbt]
    clear hok hbt
    go_wp2_with fail
    go_ret
    exact ⟨by rw [blE_no (by rw [Hs.out]; omega), Hs.out]; rfl, (by repeat (first | exact Ext.refl _ | assumption | refine Ext.alloc ?_ _ | refine Ext.drew ?_ | refine Ext.drewN ?_ _ | refine Ext.setCell ?_ (by first | (simp; done) | (simp; omega) | omega) _ | refine Ext.trans ?_ (by assumption)))⟩
end Go.Proofs.Ytfociflfeednfaa
