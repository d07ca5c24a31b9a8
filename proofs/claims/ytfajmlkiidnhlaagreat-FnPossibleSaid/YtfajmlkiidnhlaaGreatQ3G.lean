/- Texts merged (a claim holds at most sixty files): G, H, I, J. -/
import Derived.Test.YtfajmlkiidnhlaaGreatQ3E
import Derived.Test.YtfajmlkiidnhlaaGreatQ3Lib
/- Contracts: counts of statements, of days, of choices. -/
namespace Go.Proofs.YtfajmlkiidnhlaaGreat
set_option linter.unusedVariables false
set_option linter.unusedSimpArgs false
open Go.RowKit
attribute [local go_sem] cell_onto

set_option maxHeartbeats 400000 in
theorem impl_statementsOf (s k : Value) (n : Net) (w : World) (h : NetIn w s k n) (hok : n.sets.length ≤ 1048576 ∧ n.links.length ≤ 1048576) :
    Calls Tryz.prog 44 #[.agg #[s, k]] w (RetX (.int .i64 ((n.sets.length : Int) + n.links.length)) w) := by
  obtain ⟨A, c, rfl, hn, hc⟩ := h.1.len
  obtain ⟨A', c', rfl, hn', hc'⟩ := h.2.len
  obtain ⟨h1, h2⟩ := hok
  clear h
  go_enter Tryz.func44, Tryz.ntmps44
  go_wp2_with fail
  go_ret
  exact ⟨rfl, (by repeat (first | exact Ext.refl _ | assumption | refine Ext.alloc ?_ _ | refine Ext.drew ?_ | refine Ext.drewN ?_ _ | refine Ext.setCell ?_ (by first | (simp; done) | (simp; omega) | omega) _ | refine Ext.trans ?_ (by assumption)))⟩
set_option maxHeartbeats 400000 in
theorem spec_l21Count (s k : Value) (n : Net) (w : World) (h : NetIn w s k n) (hok : n.sets.length ≤ 1048576 ∧ n.links.length ≤ 1048576) :
    Calls Tryz.prog 103 #[.agg #[s, k]] w (RetX (.int .i64 ((n.sets.length : Int) + n.links.length)) w) := by
  obtain ⟨A, c, rfl, hn, hc⟩ := h.1.len
  obtain ⟨A', c', rfl, hn', hc'⟩ := h.2.len
  obtain ⟨h1, h2⟩ := hok
  clear h
  go_enter Tryz.func103, Tryz.ntmps103
  go_wp2_with fail
  go_ret
  exact ⟨rfl, (by repeat (first | exact Ext.refl _ | assumption | refine Ext.alloc ?_ _ | refine Ext.drew ?_ | refine Ext.drewN ?_ _ | refine Ext.setCell ?_ (by first | (simp; done) | (simp; omega) | omega) _ | refine Ext.trans ?_ (by assumption)))⟩

set_option maxHeartbeats 1000000 in
theorem impl_countDays (v : Value) (l : List Sp) (w : World) (h : Spans w 0 w.heap.size v l) (hok : SetOk l) : Calls Tryz.prog 89 #[v] w (RetX (.int .i64 (days l)) w) := by
  obtain ⟨A, c, rfl, hn, hc⟩ := h.len
  have H := Lib.hid h
  have Hok := Lib.hid hok
  have h300 := hok.1
  clear h hok
  go_enter Tryz.func89, Tryz.ntmps89
  go_wp2_with fail
  go_loopg [3, 8] l.length (fun k t i wr => ∃ j : Nat, j + k = l.length ∧ i = .int .i64 j ∧ t = .int .i64 (daysTo l j) ∧ Ext w wr)
  case atStart => exact ⟨0, by omega, rfl, rfl, (by repeat (first | exact Ext.refl _ | assumption | refine Ext.alloc ?_ _ | refine Ext.drew ?_ | refine Ext.drewN ?_ _ | refine Ext.setCell ?_ (by first | (simp; done) | (simp; omega) | omega) _ | refine Ext.trans ?_ (by assumption)))⟩
  case round =>
    obtain ⟨j, hj, rfl, rfl, hx⟩ := hrel
    have hbd := daysTo_bd Hok.out j (by omega)
    by_cases hlt : j < l.length
    · obtain ⟨b, off, rfl, _, hb, h1, h2⟩ := (H.out.ext hx (Nat.le_refl _)).at_ hlt
      have hbr : b < wr.heap.size := Nat.lt_of_lt_of_le hb hx.size
      have hsp := (Hok.out.2 j hlt).1
      unfold SpOk DayOk at hsp
      obtain ⟨⟨a1, a2⟩, ⟨a3, a4⟩, a5⟩ := hsp
      go_wp2_with fail
      go_roundg (l.length - (j + 1))
      case measure => omega
      case rel => exact ⟨j + 1, by omega, by go_num, by simp only [daysTo], (by repeat (first | exact Ext.refl _ | assumption | refine Ext.alloc ?_ _ | refine Ext.drew ?_ | refine Ext.drewN ?_ _ | refine Ext.setCell ?_ (by first | (simp; done) | (simp; omega) | omega) _ | refine Ext.trans ?_ (by assumption)))⟩
    · obtain rfl : j = l.length := by omega
      go_wp2_with fail
      go_ret
      exact ⟨rfl, (by repeat (first | exact Ext.refl _ | assumption | refine Ext.alloc ?_ _ | refine Ext.drew ?_ | refine Ext.drewN ?_ _ | refine Ext.setCell ?_ (by first | (simp; done) | (simp; omega) | omega) _ | refine Ext.trans ?_ (by assumption)))⟩
end Go.Proofs.YtfajmlkiidnhlaaGreat

/- Contracts: lost days, choices. -/
namespace Go.Proofs.YtfajmlkiidnhlaaGreat
set_option linter.unusedVariables false
set_option linter.unusedSimpArgs false
open Go.RowKit
attribute [local go_sem] cell_onto

end Go.Proofs.YtfajmlkiidnhlaaGreat

/- Contracts: the number of choices; days in sets; days for a network. -/
namespace Go.Proofs.YtfajmlkiidnhlaaGreat
set_option linter.unusedVariables false
set_option linter.unusedSimpArgs false
open Go.RowKit
attribute [local go_sem] cell_onto

def SetsFit (l : List (List Sp)) : Prop := ∀ i, i < l.length → (setAt l i).length ≤ 300
theorem SetsFit.of {n : Net} (h : NetOk n) : SetsFit n.sets := fun i hi => (h.2.2.1 i hi).1
theorem prod_fit {m : Int} (hm0 : 0 ≤ m) (hm : m ≤ 4096) {l : List (List Sp)} (hf : SetsFit l) {j : Nat} (hj : j < l.length) (h : ∀ i, i < j → (setAt l i).length ≠ 0) :
    0 ≤ prodTo m l j * ((setAt l j).length : Int) ∧ prodTo m l j * ((setAt l j).length : Int) ≤ 1229100 ∧ 1 ≤ prodTo m l j ∧ prodTo m l j ≤ 4097 := by
  have h1 := prodTo_bd hm0 j h
  have h2 : ((setAt l j).length : Int) ≤ 300 := by have := hf j hj; omega
  refine ⟨Int.mul_nonneg (by omega) (by omega), ?_, by omega, by omega⟩
  have := Int.mul_le_mul (a := prodTo m l j) (b := ((setAt l j).length : Int)) (c := 4097) (d := 300) (by omega) h2 (by omega) (by omega)
  omega

set_option maxHeartbeats 1000000 in
theorem spec_l20Count (s k : Value) (n : Net) (w : World) (h : NetIn w s k n) (hf : SetsFit n.sets) : Calls Tryz.prog 57 #[.agg #[s, k]] w (RetX (.int .i64 (choN 4096 n.sets)) w) := by
  obtain ⟨A, c, rfl, hn, hc⟩ := h.1.len
  have H := Lib.hid h
  have Hf := Lib.hid hf
  clear h hf
  go_enter Tryz.func57, Tryz.ntmps57
  go_wp2_with fail
  go_loopg [3, 4] n.sets.length (fun m t i wr => ∃ j : Nat, j + m = n.sets.length ∧ i = .int .i64 j ∧ t = .int .i64 (prodTo 4096 n.sets j) ∧ Ext w wr ∧ Boxed wr w.heap.size [.slice A n.sets.length c, k] ∧ ∀ i, i < j → (setAt n.sets i).length ≠ 0)
  case atStart => exact ⟨0, by omega, rfl, rfl, (by repeat (first | exact Ext.refl _ | assumption | refine Ext.alloc ?_ _ | refine Ext.drew ?_ | refine Ext.drewN ?_ _ | refine Ext.setCell ?_ (by first | (simp; done) | (simp; omega) | omega) _ | refine Ext.trans ?_ (by assumption))), Boxed.new w _ _, fun i hi => absurd hi (by omega)⟩
  case round =>
    obtain ⟨j, hj, rfl, rfl, hx, hbb, hne⟩ := hrel
    have hb := hbb; have hb0 := hb.at0; have hb1 := hb.at1; have hbg := hb.1; have Hhb := Lib.hid hb; clear hb
    have Hne := Lib.hid hne
    clear hbb hne
    by_cases hlt : j < n.sets.length
    · obtain ⟨b, off, u, rfl, _, hbl, h1, h2⟩ := (H.out.1.ext hx (Nat.le_refl _)).at_ hlt
      obtain ⟨A2, c2, rfl, hn2, hc2⟩ := h2.len
      obtain ⟨p1, p2, p3, p4⟩ := prod_fit (m := 4096) (by omega) (by omega) Hf.out hlt Hne.out
      clear h2
      by_cases h0 : (setAt n.sets j).length = 0
      · have hd : (((setAt n.sets j).length : Int) == 0) = true := by rw [beq_iff_eq]; omega
        have H0 := Lib.hid h0
        clear h0
        go_wp2_with fail
        go_ret
        exact ⟨by rw [choN_zero hlt H0.out]; rfl, (by repeat (first | exact Ext.refl _ | assumption | refine Ext.alloc ?_ _ | refine Ext.drew ?_ | refine Ext.drewN ?_ _ | refine Ext.setCell ?_ (by first | (simp; done) | (simp; omega) | omega) _ | refine Ext.trans ?_ (by assumption)))⟩
      · have hd : (((setAt n.sets j).length : Int) == 0) = false := beq_eq_false_iff_ne.2 (by omega)
        have H0 := Lib.hid h0
        clear h0
        go_wp2_with fail
        all_goals
          go_roundg (n.sets.length - (j + 1))
          case measure => omega
          case rel => exact ⟨j + 1, by omega, by go_num, by simp only [prodTo]; congr 1; omega, (by repeat (first | exact Ext.refl _ | assumption | refine Ext.alloc ?_ _ | refine Ext.drew ?_ | refine Ext.drewN ?_ _ | refine Ext.setCell ?_ (by first | (simp; done) | (simp; omega) | omega) _ | refine Ext.trans ?_ (by assumption))), Hhb.out, netOk_step (P := fun i => (setAt n.sets i).length ≠ 0) Hne.out H0.out⟩
    · obtain rfl : j = n.sets.length := by omega
      go_wp2_with fail
      go_ret
      exact ⟨by rw [choN_prod Hne.out]; rfl, (by repeat (first | exact Ext.refl _ | assumption | refine Ext.alloc ?_ _ | refine Ext.drew ?_ | refine Ext.drewN ?_ _ | refine Ext.setCell ?_ (by first | (simp; done) | (simp; omega) | omega) _ | refine Ext.trans ?_ (by assumption)))⟩
set_option maxHeartbeats 1000000 in
theorem impl_countChoices (s k : Value) (n : Net) (w : World) (h : NetIn w s k n) (m : Int) (hm0 : 0 ≤ m) (hm : m ≤ 4096) (hf : SetsFit n.sets) : Calls Tryz.prog 93 #[.agg #[s, k], .int .i64 m] w (RetX (.int .i64 (choN m n.sets)) w) := by
  obtain ⟨A, c, rfl, hn, hc⟩ := h.1.len
  have H := Lib.hid h
  have Hf := Lib.hid hf
  clear h hf
  go_enter Tryz.func93, Tryz.ntmps93
  go_wp2_with fail
  go_loopg [5, 11] n.sets.length (fun q t i wr => ∃ j : Nat, j + q = n.sets.length ∧ i = .int .i64 j ∧ t = .int .i64 (prodTo m n.sets j) ∧ Ext w wr ∧ Boxed wr w.heap.size [.slice A n.sets.length c, k] ∧ ∀ i, i < j → (setAt n.sets i).length ≠ 0)
  case atStart => exact ⟨0, by omega, rfl, rfl, (by repeat (first | exact Ext.refl _ | assumption | refine Ext.alloc ?_ _ | refine Ext.drew ?_ | refine Ext.drewN ?_ _ | refine Ext.setCell ?_ (by first | (simp; done) | (simp; omega) | omega) _ | refine Ext.trans ?_ (by assumption))), Boxed.new w _ _, fun i hi => absurd hi (by omega)⟩
  case round =>
    obtain ⟨j, hj, rfl, rfl, hx, hbb, hne⟩ := hrel
    have hb := hbb; have hb0 := hb.at0; have hb1 := hb.at1; have hbg := hb.1; have Hhb := Lib.hid hb; clear hb
    have Hne := Lib.hid hne
    clear hbb hne
    by_cases hlt : j < n.sets.length
    · obtain ⟨b, off, u, rfl, _, hbl, h1, h2⟩ := (H.out.1.ext hx (Nat.le_refl _)).at_ hlt
      obtain ⟨A2, c2, rfl, hn2, hc2⟩ := h2.len
      obtain ⟨p1, p2, p3, p4⟩ := prod_fit hm0 hm Hf.out hlt Hne.out
      clear h2
      by_cases h0 : (setAt n.sets j).length = 0
      · have hd : (((setAt n.sets j).length : Int) == 0) = true := by rw [beq_iff_eq]; omega
        have H0 := Lib.hid h0
        clear h0
        go_wp2_with fail
        go_ret
        exact ⟨by rw [choN_zero hlt H0.out]; rfl, (by repeat (first | exact Ext.refl _ | assumption | refine Ext.alloc ?_ _ | refine Ext.drew ?_ | refine Ext.drewN ?_ _ | refine Ext.setCell ?_ (by first | (simp; done) | (simp; omega) | omega) _ | refine Ext.trans ?_ (by assumption)))⟩
      · have hd : (((setAt n.sets j).length : Int) == 0) = false := beq_eq_false_iff_ne.2 (by omega)
        have H0 := Lib.hid h0
        clear h0
        go_wp2_with fail
        all_goals
          go_roundg (n.sets.length - (j + 1))
          case measure => omega
          case rel => exact ⟨j + 1, by omega, by go_num, by simp only [prodTo]; congr 1; omega, (by repeat (first | exact Ext.refl _ | assumption | refine Ext.alloc ?_ _ | refine Ext.drew ?_ | refine Ext.drewN ?_ _ | refine Ext.setCell ?_ (by first | (simp; done) | (simp; omega) | omega) _ | refine Ext.trans ?_ (by assumption))), Hhb.out, netOk_step (P := fun i => (setAt n.sets i).length ≠ 0) Hne.out H0.out⟩
    · obtain rfl : j = n.sets.length := by omega
      go_wp2_with fail
      go_ret
      exact ⟨by rw [choN_prod Hne.out]; rfl, (by repeat (first | exact Ext.refl _ | assumption | refine Ext.alloc ?_ _ | refine Ext.drew ?_ | refine Ext.drewN ?_ _ | refine Ext.setCell ?_ (by first | (simp; done) | (simp; omega) | omega) _ | refine Ext.trans ?_ (by assumption)))⟩
/-- the reference's code: b, whether the variables are in range -/
noncomputable def codeE (n : Net) (b : Bool) : Int := bif B (NetOk n) then (bif b then (bif B (choN 4096 n.sets ≤ 4096) then 0 else 3) else 2) else 1
set_option maxHeartbeats 400000 in
theorem spec_l20Code (s k : Value) (n : Net) (b : Bool) (w : World) (h : NetIn w s k n) :
    Calls Tryz.prog 41 #[.agg #[s, k], .bool b] w (RetX (.int .i64 (codeE n b)) w) := by
  have H := Lib.hid h
  clear h
  go_enter Tryz.func41, Tryz.ntmps41
  go_wp2_with fail
  refine Calls.mono (spec_IsNetwork s k n _ (H.out.up (by repeat (first | exact Ext.refl _ | assumption | refine Ext.alloc ?_ _ | refine Ext.drew ?_ | refine Ext.drewN ?_ _ | refine Ext.setCell ?_ (by first | (simp; done) | (simp; omega) | omega) _ | refine Ext.trans ?_ (by assumption))))) ?_
  rintro e w1 ⟨rfl, hx1⟩
  have hb := (Boxed.new w [s, k] 27).ext hx1; have hb0 := hb.at0; have hb1 := hb.at1; have hbg := hb.1; have Hhb := Lib.hid hb; clear hb
  have hx : Ext w w1 := (by repeat (first | exact Ext.refl _ | assumption | refine Ext.alloc ?_ _ | refine Ext.drew ?_ | refine Ext.drewN ?_ _ | refine Ext.setCell ?_ (by first | (simp; done) | (simp; omega) | omega) _ | refine Ext.trans ?_ (by assumption)))
  clear hx1
  by_cases hok : NetOk n
  · have Hok := Lib.hid hok
    clear hok
    rw [B_true Hok.out]
    cases b
    · go_wp2_with fail
      go_ret
      exact ⟨by unfold codeE; rw [B_true Hok.out]; rfl, (by repeat (first | exact Ext.refl _ | assumption | refine Ext.alloc ?_ _ | refine Ext.drew ?_ | refine Ext.drewN ?_ _ | refine Ext.setCell ?_ (by first | (simp; done) | (simp; omega) | omega) _ | refine Ext.trans ?_ (by assumption)))⟩
    · go_wp2_with fail
      refine Calls.mono (spec_l20Count s k n w1 (H.out.up hx) (SetsFit.of Hok.out)) ?_
      rintro e w2 ⟨rfl, hx2⟩
      by_cases hl : choN 4096 n.sets ≤ 4096
      · go_wp2_with fail
        go_ret
        exact ⟨by unfold codeE; rw [B_true Hok.out, B_true hl]; rfl, (by repeat (first | exact Ext.refl _ | assumption | refine Ext.alloc ?_ _ | refine Ext.drew ?_ | refine Ext.drewN ?_ _ | refine Ext.setCell ?_ (by first | (simp; done) | (simp; omega) | omega) _ | refine Ext.trans ?_ (by assumption)))⟩
      · have Hl := Lib.hid hl
        go_wp2_with fail
        go_ret
        exact ⟨by unfold codeE; rw [B_true Hok.out, B_false (show ¬ choN 4096 n.sets ≤ 4096 by omega)]; rfl, (by repeat (first | exact Ext.refl _ | assumption | refine Ext.alloc ?_ _ | refine Ext.drew ?_ | refine Ext.drewN ?_ _ | refine Ext.setCell ?_ (by first | (simp; done) | (simp; omega) | omega) _ | refine Ext.trans ?_ (by assumption)))⟩
  · have Hok := Lib.hid hok
    clear hok
    rw [B_false Hok.out]
    go_wp2_with fail
    go_ret
    exact ⟨by unfold codeE; rw [B_false Hok.out]; rfl, (by repeat (first | exact Ext.refl _ | assumption | refine Ext.alloc ?_ _ | refine Ext.drew ?_ | refine Ext.drewN ?_ _ | refine Ext.setCell ?_ (by first | (simp; done) | (simp; omega) | omega) _ | refine Ext.trans ?_ (by assumption)))⟩
end Go.Proofs.YtfajmlkiidnhlaaGreat

/- Contracts: days in sets; days for a network; links that are broken; DoSolve. -/
namespace Go.Proofs.YtfajmlkiidnhlaaGreat
set_option linter.unusedVariables false
set_option linter.unusedSimpArgs false
open Go.RowKit
attribute [local go_sem] cell_onto

theorem impl_within_b {n lo hi : Int} {b : Bool} (hb : B (lo ≤ n ∧ n ≤ hi) = b) (w : World) : Calls Tryz.prog 80 #[.int .i64 n, .int .i64 lo, .int .i64 hi] w (RetS (.bool b) w) := by
  subst hb; exact impl_within n lo hi w
theorem spec_l01In_b {n lo hi : Int} {b : Bool} (hb : B (lo ≤ n ∧ n ≤ hi) = b) (w : World) : Calls Tryz.prog 73 #[.int .i64 n, .int .i64 lo, .int .i64 hi] w (RetS (.bool b) w) := by
  subst hb; exact spec_l01In n lo hi w
def DayIn (l : List Sp) (d : Int) (i : Nat) : Prop := (spAt l i).fr ≤ d ∧ d ≤ (spAt l i).to
theorem hasDay_iff {l : List Sp} {d : Int} : HasDay l d ↔ Some_ l.length (DayIn l d) := Iff.rfl

set_option maxHeartbeats 400000 in
theorem impl_hasDay_1 (a b d : Int) (g : Nat) (w : World) (h : w.cell? ⟨g, 0, none⟩ = some (.int .i64 d)) (hg : g < w.heap.size) :
    Calls Tryz.prog 115 #[.agg #[.int .i64 a, .int .i64 b], .pointer (some ⟨g, 0, none⟩)] w (RetX (.bool (B (a ≤ d ∧ d ≤ b))) w) := by
  go_enter Tryz.func115, Tryz.ntmps115
  go_wp2_with (go_at_call 80; refine (impl_within _ _ _ _).mono ?_; rintro e w1 ⟨rfl, rfl⟩)
  go_ret
  exact ⟨rfl, (by repeat (first | exact Ext.refl _ | assumption | refine Ext.alloc ?_ _ | refine Ext.drew ?_ | refine Ext.drewN ?_ _ | refine Ext.setCell ?_ (by first | (simp; done) | (simp; omega) | omega) _ | refine Ext.trans ?_ (by assumption)))⟩
set_option maxHeartbeats 400000 in
theorem impl_hasDay (v : Value) (l : List Sp) (d : Int) (w : World) (h : Spans w 0 w.heap.size v l) : Calls Tryz.prog 62 #[v, .int .i64 d] w (RetX (.bool (B (HasDay l d))) w) := by
  have H := Lib.hid h
  clear h
  go_enter Tryz.func62, Tryz.ntmps62
  go_wp2_with fail
  have hb := Boxed.new w [.int .i64 d] 2
  refine Calls.mono (containsFunc_spans v l 115 #[.pointer (some ⟨w.heap.size, 0, none⟩)] (DayIn l d) _ (H.out.up (by repeat (first | exact Ext.refl _ | assumption | refine Ext.alloc ?_ _ | refine Ext.drew ?_ | refine Ext.drewN ?_ _ | refine Ext.setCell ?_ (by first | (simp; done) | (simp; omega) | omega) _ | refine Ext.trans ?_ (by assumption)))) Tryz.call115
    (fun i w' _ hx => impl_hasDay_1 _ _ d _ w' (hb.ext hx).at0 (hb.ext hx).1)) ?_
  rintro e w1 ⟨rfl, hx1⟩
  clear hb
  go_wp2_with fail
  go_ret
  exact ⟨rfl, (by repeat (first | exact Ext.refl _ | assumption | refine Ext.alloc ?_ _ | refine Ext.drew ?_ | refine Ext.drewN ?_ _ | refine Ext.setCell ?_ (by first | (simp; done) | (simp; omega) | omega) _ | refine Ext.trans ?_ (by assumption)))⟩
set_option maxHeartbeats 1000000 in
theorem spec_l02Has (v : Value) (l : List Sp) (d : Int) (w : World) (h : Spans w 0 w.heap.size v l) : Calls Tryz.prog 84 #[v, .int .i64 d] w (RetX (.bool (B (HasDay l d))) w) := by
  obtain ⟨A, c, rfl, hn, hc⟩ := h.len
  have H := Lib.hid h
  clear h
  go_enter Tryz.func84, Tryz.ntmps84
  go_wp2_with fail
  go_loopg [5] l.length (fun k i wr => ∃ j : Nat, j + k = l.length ∧ i = .int .i64 j ∧ Ext w wr ∧ ∀ i, i < j → ¬ DayIn l d i)
  case atStart => exact ⟨0, by omega, rfl, (by repeat (first | exact Ext.refl _ | assumption | refine Ext.alloc ?_ _ | refine Ext.drew ?_ | refine Ext.drewN ?_ _ | refine Ext.setCell ?_ (by first | (simp; done) | (simp; omega) | omega) _ | refine Ext.trans ?_ (by assumption))), fun i hi => absurd hi (by omega)⟩
  case round =>
    obtain ⟨j, hj, rfl, hx, hok⟩ := hrel
    have Hok := Lib.hid hok
    clear hok
    by_cases hlt : j < l.length
    · obtain ⟨b, off, rfl, _, hb, h1, h2⟩ := (H.out.ext hx (Nat.le_refl _)).at_ hlt
      have hbr : b < wr.heap.size := Nat.lt_of_lt_of_le hb hx.size
      by_cases hd : (spAt l j).fr ≤ d ∧ d ≤ (spAt l j).to
      · have Hd := Lib.hid hd
        have Hdb := Lib.hid (B_true hd)
        clear hd
        go_wp2_with fail
        (refine wp_region_onto prog_mixed (by kernel_rfl) ?_; (repeat (go_big_quiet_step ((go_at_call 73; exact onto_callS (spec_l01In_b Hdb.out _))))); refine onto_end ?_; intro w1 hx1)
        go_wp2_with fail
        go_ret
        exact ⟨ret_bool (B_true ⟨j, hlt, Hd.out⟩).symm, (by repeat (first | exact Ext.refl _ | assumption | refine Ext.alloc ?_ _ | refine Ext.drew ?_ | refine Ext.drewN ?_ _ | refine Ext.setCell ?_ (by first | (simp; done) | (simp; omega) | omega) _ | refine Ext.trans ?_ (by assumption)))⟩
      · have Hd := Lib.hid hd
        have Hdb := Lib.hid (B_false hd)
        clear hd
        go_wp2_with fail
        (refine wp_region_onto prog_mixed (by kernel_rfl) ?_; (repeat (go_big_quiet_step ((go_at_call 73; exact onto_callS (spec_l01In_b Hdb.out _))))); refine onto_end ?_; intro w1 hx1)
        go_wp2_with fail
        go_roundg (l.length - (j + 1))
        case measure => omega
        case rel => exact ⟨j + 1, by omega, by go_num, (by repeat (first | exact Ext.refl _ | assumption | refine Ext.alloc ?_ _ | refine Ext.drew ?_ | refine Ext.drewN ?_ _ | refine Ext.setCell ?_ (by first | (simp; done) | (simp; omega) | omega) _ | refine Ext.trans ?_ (by assumption))), netOk_step (P := fun i => ¬ DayIn l d i) Hok.out Hd.out⟩
    · obtain rfl : j = l.length := by omega
      go_wp2_with fail
      go_ret
      exact ⟨ret_bool (B_false (fun ⟨i, hi, hd⟩ => Hok.out i hi hd)).symm, (by repeat (first | exact Ext.refl _ | assumption | refine Ext.alloc ?_ _ | refine Ext.drew ?_ | refine Ext.drewN ?_ _ | refine Ext.setCell ?_ (by first | (simp; done) | (simp; omega) | omega) _ | refine Ext.trans ?_ (by assumption)))⟩
theorem daysOk_iff {l : List Int} : ¬ Some_ l.length (fun i => ¬ DayOk (inAt l i)) ↔ DaysOk l := by
  unfold Some_ DaysOk
  constructor
  · intro h i hi
    exact Classical.byContradiction fun hn => h ⟨i, hi, hn⟩
  · rintro h ⟨i, hi, hn⟩
    exact hn (h i hi)
set_option maxHeartbeats 400000 in
theorem impl_checkDays_1 (d : Int) (w : World) : Calls Tryz.prog 113 #[.int .i64 d] w (RetX (.bool (B (¬ DayOk d))) w) := by
  go_enter Tryz.func113, Tryz.ntmps113
  go_wp2_with (go_at_call 81; refine (impl_isDay _ _).mono ?_; rintro e w1 ⟨rfl, rfl⟩)
  (go_ret; exact ⟨ret_bool (B_eq (by simp [B_not])), (by repeat (first | exact Ext.refl _ | assumption | refine Ext.alloc ?_ _ | refine Ext.drew ?_ | refine Ext.drewN ?_ _ | refine Ext.setCell ?_ (by first | (simp; done) | (simp; omega) | omega) _ | refine Ext.trans ?_ (by assumption)))⟩)
set_option maxHeartbeats 1000000 in
theorem impl_checkDays (s k v : Value) (n : Net) (ds : List Int) (w : World) (h : NetIn w s k n) (hd : Ints w 0 w.heap.size v ds) :
    Calls Tryz.prog 61 #[.agg #[s, k], v] w (RetX (.int .i64 (dayE n ds)) w) := by
  obtain ⟨A, c, rfl, hn, hc⟩ := h.1.len
  obtain ⟨A', c', rfl, hn', hc'⟩ := hd.len
  have H := Lib.hid h
  have Hd := Lib.hid hd
  clear h hd
  go_enter Tryz.func61, Tryz.ntmps61
  go_wp2_with fail
  refine Calls.mono (impl_IsNetwork _ k n _ (H.out.up (by repeat (first | exact Ext.refl _ | assumption | refine Ext.alloc ?_ _ | refine Ext.drew ?_ | refine Ext.drewN ?_ _ | refine Ext.setCell ?_ (by first | (simp; done) | (simp; omega) | omega) _ | refine Ext.trans ?_ (by assumption))))) ?_
  rintro e w1 ⟨rfl, hx1⟩
  have hb := (Boxed.new w [.slice A n.sets.length c, k] 27).ext hx1; have hb0 := hb.at0; have hb1 := hb.at1; have hbg := hb.1; have Hhb := Lib.hid hb; clear hb
  have hx : Ext w w1 := (by repeat (first | exact Ext.refl _ | assumption | refine Ext.alloc ?_ _ | refine Ext.drew ?_ | refine Ext.drewN ?_ _ | refine Ext.setCell ?_ (by first | (simp; done) | (simp; omega) | omega) _ | refine Ext.trans ?_ (by assumption)))
  clear hx1
  by_cases hok : NetOk n
  · have Hok := Lib.hid hok
    clear hok
    rw [B_true Hok.out]
    by_cases hl : ds.length = n.sets.length
    · have hd : ((ds.length : Int) != (n.sets.length : Int)) = false := by simp; omega
      have Hl := Lib.hid hl
      clear hl
      go_wp2_with fail
      refine Calls.mono (containsFunc_ints _ ds 113 #[] (fun i => ¬ DayOk (inAt ds i)) w1 (Hd.out.up hx) Tryz.call113 (fun i w' _ _ => impl_checkDays_1 _ w')) ?_
      rintro e w2 ⟨rfl, hx2⟩
      by_cases hq : DaysOk ds
      · have Hq := Lib.hid hq
        rw [B_false (fun hh => daysOk_iff.2 hq hh)]
        clear hq
        go_wp2_with fail
        go_ret
        exact ⟨by rw [dayE_ok Hok.out ⟨Hl.out, Hq.out⟩]; rfl, (by repeat (first | exact Ext.refl _ | assumption | refine Ext.alloc ?_ _ | refine Ext.drew ?_ | refine Ext.drewN ?_ _ | refine Ext.setCell ?_ (by first | (simp; done) | (simp; omega) | omega) _ | refine Ext.trans ?_ (by assumption)))⟩
      · have Hq := Lib.hid hq
        rw [B_true (Classical.byContradiction fun hh => hq (daysOk_iff.1 hh))]
        clear hq
        go_wp2_with fail
        go_ret
        exact ⟨by rw [dayE_bad Hok.out (fun hh => Hq.out hh.2)]; rfl, (by repeat (first | exact Ext.refl _ | assumption | refine Ext.alloc ?_ _ | refine Ext.drew ?_ | refine Ext.drewN ?_ _ | refine Ext.setCell ?_ (by first | (simp; done) | (simp; omega) | omega) _ | refine Ext.trans ?_ (by assumption)))⟩
    · have hd : ((ds.length : Int) != (n.sets.length : Int)) = true := by simp; omega
      have Hl := Lib.hid hl
      clear hl
      go_wp2_with fail
      go_ret
      exact ⟨by rw [dayE_bad Hok.out (fun hh => Hl.out hh.1)]; rfl, (by repeat (first | exact Ext.refl _ | assumption | refine Ext.alloc ?_ _ | refine Ext.drew ?_ | refine Ext.drewN ?_ _ | refine Ext.setCell ?_ (by first | (simp; done) | (simp; omega) | omega) _ | refine Ext.trans ?_ (by assumption)))⟩
  · have Hok := Lib.hid hok
    clear hok
    rw [B_false Hok.out]
    go_wp2_with fail
    go_ret
    exact ⟨by rw [dayE_net Hok.out]; rfl, (by repeat (first | exact Ext.refl _ | assumption | refine Ext.alloc ?_ _ | refine Ext.drew ?_ | refine Ext.drewN ?_ _ | refine Ext.setCell ?_ (by first | (simp; done) | (simp; omega) | omega) _ | refine Ext.trans ?_ (by assumption)))⟩
end Go.Proofs.YtfajmlkiidnhlaaGreat
